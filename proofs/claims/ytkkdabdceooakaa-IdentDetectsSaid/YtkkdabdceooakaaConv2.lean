import Derived.Test.YtkkdabdceooakaaConv
namespace Go.Proofs.Ytkkdabdceooakaa.Conv
open Go.RowKit Go.Proofs.YtkkdabdceooakaaW.PrintWords

/-- The cells of block g are these bytes, and may be written. -/
structure RowA (w : World) (g : Nat) (l : List Int) : Prop where
  cell : ∀ j, j < l.length → w.cell? ⟨g, j, none⟩ = some (.int .u8 (l.getD j 0))
  thaw : ∀ j, j < l.length → w.frozen? ⟨g, j, none⟩ = false
theorem RowA.set {w : World} {g : Nat} {l : List Int} (h : RowA w g l) (i : Nat) (hi : i < l.length) (x : Int) : RowA (w.setCell ⟨g, i, none⟩ (.int .u8 x)) g (l.set i x) := by
  refine ⟨fun j hj => ?_, fun j hj => ?_⟩
  · rw [List.length_set] at hj
    by_cases e : i = j
    · subst e
      rw [World.cell?_setCell_same _ _ _ (h.cell i hi), List.getD_eq_getElem?_getD, List.getElem?_set_self hi]
      rfl
    · rw [World.cell?_setCell_other _ _ _ _ (fun he => e (by injection he)), h.cell j hj, List.getD_eq_getElem?_getD, List.getD_eq_getElem?_getD, List.getElem?_set_ne e]
  · rw [List.length_set] at hj
    rw [World.frozen?_setCell]
    exact h.thaw j hj
theorem RowA.drewN {w : World} {g : Nat} {l : List Int} (h : RowA w g l) (n : Nat) : RowA (w.drewN n) g l := ⟨h.cell, h.thaw⟩
theorem RowA.drew {w : World} {g : Nat} {l : List Int} (h : RowA w g l) : RowA w.drew g l := ⟨h.cell, h.thaw⟩
theorem RowA.string {P : Program} {w : World} {g c : Nat} {l : List Int} {t u e : TypeId} (h : RowA w g l) (ht : P.underlying t = some (.slice e)) (he : P.underlying e = some (.int .u8)) (hu : P.underlying u = some .string) :
    (convert t u (.slice (some ⟨g, 0, none⟩) l.length c)).run P w = .ok (.string (strOfNums l)) w :=
  run_convert_bytes_arg w t e ht he g 0 l.length c l rfl (fun i hi => by rw [Nat.zero_add]; exact h.cell i hi) u hu
theorem rowA_bytes (w : World) (e : TypeId) (s : ByteArray) : RowA (Lib.bytesWorld w e s) w.heap.size (nums8 s) := by
  refine ⟨fun j hj => ?_, fun j hj => ?_⟩
  · rw [nums8_length] at hj
    rw [Lib.bytesWorld_cell w e s j hj]
    unfold nums8
    rw [List.getD_eq_getElem?_getD, List.getD_eq_getElem?_getD, List.getElem?_map, List.getElem?_eq_getElem (by rw [toList_length]; exact hj)]
    rfl
  · rw [nums8_length] at hj
    have hc : s.size ≤ (Lib.bytesCells w e s).size := by
      unfold Lib.bytesCells
      rw [Array.size_append, Array.size_map]
      exact Nat.le_add_right _ _
    unfold World.frozen?
    rw [Lib.bytesWorld_at_new]
    simp
    omega
section
variable {P : Program} {ops : Array Oper} {rest : List Oper} {o : Oper} {a : Act} {Q : Exit → Act → World → Prop}
/-- '[]byte(s)' that is written later. -/
theorem conv_event2 {W : World} {t u e : TypeId} {x : Operand} (hgd : o.guard = none) (ho : o.op = .convert t u x) (s : ByteArray) (hx : a.eval x = .string s) {d : TypeDesc} (ht : P.underlying t = some d) (hu : P.underlying u = some (.slice e)) (he : P.underlying e = some (.int .u8))
    (h : ∀ w1 c g, RowA w1 g (nums8 s) → W.heap.size ≤ g → Below W.heap.size W w1 → wpList P ops Q rest (a.put o.dst (.slice (some ⟨g, 0, none⟩) (nums8 s).length c)) w1) : wpList P ops Q (o :: rest) a W := by
  refine Kd.event_run hgd ?_ (h (Lib.bytesWorld W e s) (grownCap W s.size 0 e) W.heap.size (rowA_bytes W e s) (Nat.le_refl _) (below_bytes W e s))
  rw [nums8_length]
  simp [execOp, ho, hx, Lib.run_convert_string_bytes W t u e s ht hu he]
end
theorem below_size' {w W : World} {g : Nat} (h : Below w.heap.size w W) (hg : W.heap.size ≤ g) : w.heap.size ≤ g := Nat.le_trans h.size hg
section
variable {P : Program} {ops : Array Oper} {rest : List Oper} {o : Oper} {a : Act} {Q : Exit → Act → World → Prop}
/-- '[]byte(s)' of a string that was made of numbers. -/
theorem conv_event3 {W : World} {t u e : TypeId} {x : Operand} {l : List Int} {m : Nat} (hb : ∀ x ∈ l, 0 ≤ x ∧ x < 256) (hl : l.length = m) (hgd : o.guard = none) (ho : o.op = .convert t u x) (hx : a.eval x = .string (strOfNums l)) {d : TypeDesc} (ht : P.underlying t = some d) (hu : P.underlying u = some (.slice e)) (he : P.underlying e = some (.int .u8))
    (h : ∀ w1 c g, RowA w1 g l → W.heap.size ≤ g → Below W.heap.size W w1 → wpList P ops Q rest (a.put o.dst (.slice (some ⟨g, 0, none⟩) m c)) w1) : wpList P ops Q (o :: rest) a W := by
  refine conv_event2 hgd ho (strOfNums l) hx ht hu he fun w1 c g hr hg hw => ?_
  have e : nums8 (strOfNums l) = l := by
    unfold nums8
    rw [strOfNums_data, List.map_map]
    conv => rhs; rw [← List.map_id l]
    apply List.map_congr_left
    intro x hx
    have := hb x hx
    simp
    omega
  rw [e] at hr ⊢
  rw [hl]
  exact h w1 c g hr hg hw
/-- A byte of such a row is written. -/
theorem store_row {W : World} {g i : Nat} {l : List Int} {c : Int} (hr : RowA W g l) (hi : i < l.length) (hgd : o.guard = none) {t : TypeId} {p : Tmp} {v : Operand} (ho : o.op = .store t (.tmp p) v) (hN : o.dst = none)
    (hrun : (execOp a.eval o).run P W = .ok .skip (W.setCell ⟨g, i, none⟩ (.int .u8 c))) (h : ∀ w', RowA w' g (l.set i c) → (∀ w0 : World, Below w0.heap.size w0 W → w0.heap.size ≤ g → Below w0.heap.size w0 w') → wpList P ops Q rest a w') : wpList P ops Q (o :: rest) a W :=
  store_event hgd ho hN hrun (fun w' hw => h w' (by rw [hw]; exact hr.set i hi c) (fun w0 hb hg => by rw [hw]; exact below_set hb hg))
end
theorem rename_world {P : Program} {c : Code} {Q : Exit → Act → World → Prop} {a : Act} {W0 : World} (R : World → Prop) (h0 : R W0) (h : ∀ W, R W → Code.wp P c Q a W) : Code.wp P c Q a W0 := h W0 h0
theorem RowA.below {w w' : World} {g : Nat} {l : List Int} (h : RowA w g l) (hb : Below w.heap.size w w') (hg : g < w.heap.size) : RowA w' g l := by
  have e := hb.block g hg
  refine ⟨fun j hj => ?_, fun j hj => ?_⟩
  · rw [← h.cell j hj]
    unfold World.cell?
    rw [e]
  · rw [← h.thaw j hj]
    unfold World.frozen?
    rw [e]
end Go.Proofs.Ytkkdabdceooakaa.Conv
