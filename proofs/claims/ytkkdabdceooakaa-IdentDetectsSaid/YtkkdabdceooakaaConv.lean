import Derived.Test.YtkkdabdceooakaaWWords
import Derived.Lib.ConvBytes
namespace Go.Proofs.Ytkkdabdceooakaa.Conv
open Go.RowKit Go.Proofs.YtkkdabdceooakaaW.PrintWords

/-- A string's bytes, as numbers. -/
def nums8 (s : ByteArray) : List Int := s.data.toList.map fun b => (b.toNat : Int)
theorem toList_length (s : ByteArray) : s.data.toList.length = s.size := rfl
theorem nums8_length (s : ByteArray) : (nums8 s).length = s.size := by
  unfold nums8
  rw [List.length_map]
  rfl
theorem rd_nums8 (s : ByteArray) (i : Int) : rd (nums8 s) i = bt s i := by
  unfold rd bt nums8
  split
  · rename_i h
    rw [List.getD_eq_getElem?_getD, List.getElem?_map, List.getElem?_eq_getElem (by rw [toList_length]; exact h)]
    rfl
  · rename_i h
    rw [List.getD_eq_getElem?_getD, List.getElem?_map, List.getElem?_eq_none (by rw [toList_length]; omega)]
    rfl

theorem below_bytes (w : World) (e : TypeId) (s : ByteArray) : Below w.heap.size w (Lib.bytesWorld w e s) :=
  ⟨rfl, rfl, rfl, by rw [Lib.bytesWorld_size]; omega, fun k hk => Lib.bytesWorld_at_old w e s k hk⟩

theorem row_bytes (w : World) (e : TypeId) (s : ByteArray) (hs : s.size ≤ 9223372036854775807) : Kd.C (Kd.int .u8) (Lib.bytesWorld w e s) (some ⟨w.heap.size, 0, none⟩) (nums8 s).length (nums8 s) := by
  refine Kd.C_of_reads (d := (0 : Int)) (h1 := fun _ => rfl) ⟨rfl, by rw [nums8_length]; exact hs, fun _ => ⟨_, rfl, fun j hj => ?_⟩⟩
  rw [nums8_length] at hj
  have ha : (⟨w.heap.size, 0, none⟩ : Addr).add j = ⟨w.heap.size, j, none⟩ := by unfold Addr.add; split <;> simp_all
  rw [ha, Lib.bytesWorld_cell w e s j hj]
  have := rd_nums8 s (j : Int)
  unfold rd bt at this
  rw [dif_pos (by simpa using hj)] at this
  simp only [Int.toNat_natCast] at this
  rw [this]
  have h2 : s.data.toList.getD j 0 = s[j] := by
    rw [List.getD_eq_getElem?_getD, List.getElem?_eq_getElem (by rw [toList_length]; exact hj)]
    rfl
  rw [h2]

section
variable {P : Program} {ops : Array Oper} {rest : List Oper} {o : Oper} {a : Act} {Q : Exit → Act → World → Prop}
/-- '[]byte(s)': a new row that reads as the string's bytes; nothing that was there has changed. -/
theorem conv_event {W : World} {t u e : TypeId} {x : Operand} (hgd : o.guard = none) (ho : o.op = .convert t u x) (s : ByteArray) (hx : a.eval x = .string s) {d : TypeDesc} (ht : P.underlying t = some d) (hu : P.underlying u = some (.slice e)) (he : P.underlying e = some (.int .u8)) (hs : s.size ≤ 9223372036854775807)
    (h : ∀ w1 c ad, Kd.C (Kd.int .u8) w1 (some ad) (nums8 s).length (nums8 s) → (nums8 s).length ≤ c → Below W.heap.size W w1 → wpList P ops Q rest (a.put o.dst (.slice (some ad) (nums8 s).length c)) w1) : wpList P ops Q (o :: rest) a W := by
  refine Kd.event_run hgd ?_ (h (Lib.bytesWorld W e s) (grownCap W s.size 0 e) ⟨W.heap.size, 0, none⟩ (row_bytes W e s hs) ?_ (below_bytes W e s))
  · rw [nums8_length]
    simp [execOp, ho, hx, Lib.run_convert_string_bytes W t u e s ht hu he]
  · rw [nums8_length]
    exact grownCap_ge ..
end
end Go.Proofs.Ytkkdabdceooakaa.Conv
