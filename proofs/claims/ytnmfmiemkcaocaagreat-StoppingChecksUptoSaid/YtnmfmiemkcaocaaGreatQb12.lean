/- Parts of the proof, joined: Open, Opp. No condition. -/
import Derived.Test.YtnmfmiemkcaocaaGreatQb11
import Derived.Test.YtnmfmiemkcaocaaGreatRows
import Derived.SizedLaws
import Derived.ChangeArms
import Derived.DataElems
set_option maxHeartbeats 8000000
set_option maxRecDepth 100000
namespace Go.Proofs.YtnmfmiemkcaocaaGreat.Open
open Go.ChangeShapes Go.WideShapes Go.RowKit Go.Proofs.YtnmfmiemkcaocaaGreatW.PrintWords
theorem one_le {H : Type} (d : DataW H) : 1 ≤ Rows.uptoBulk d := by
 cases d with
 | lit l => cases l <;> simp [Rows.uptoBulk]
 | nil => simp [Rows.uptoBulk]
 | ptr d => simp [Rows.uptoBulk]
 | slice elems spare => simp [Rows.uptoBulk]
 | agg parts => simp [Rows.uptoBulk]
 | iface t d => simp [Rows.uptoBulk]
 | map entries => simp [Rows.uptoBulk]
 | held h => simp [Rows.uptoBulk]
theorem append {H : Type} (l r : List (DataW H)) : Rows.uptoBulkAll (l ++ r) = Rows.uptoBulkAll l + Rows.uptoBulkAll r := by
 induction l with
 | nil => simp [Rows.uptoBulkAll]
 | cons x l ih => simp only [List.cons_append, Rows.uptoBulkAll, ih]; omega
def Opens {H α : Type} (enc : TypeId × Value → H) (P : Program) (w : World) (t : TypeId) (d : Kd α) (sz : α → Nat) (B : α → Prop) : Prop :=
 ∀ fuel cs x, DataW.trod enc P w 0 (fun _ => true) true fuel t cs = some x → ∃ y, d.K w y cs ∧ sz y ≤ Rows.uptoBulk x.1 ∧ B y
section
variable {H : Type} {enc : TypeId × Value → H} {P : Program} {w : World}
theorem opens_int {t : TypeId} {k : IntKind} (ht : P.underlying t = some (.int k)) : Opens enc P w t (Kd.int k) (fun _ => 1) (fun n => (Lit.int k n).wf = true) := by
 intro fuel cs x h
 obtain ⟨n, rfl, _, hw⟩ := DataW.trod_int ht h
 exact ⟨n, rfl, one_le _, hw⟩
theorem opens_bool {t : TypeId} (ht : P.underlying t = some .bool) : Opens enc P w t Kd.bool (fun _ => 1) (fun _ => True) := by
 intro fuel cs x h
 obtain ⟨b, rfl, _⟩ := DataW.trod_bool ht h
 exact ⟨b, rfl, one_le _, trivial⟩
theorem opens_string {t : TypeId} (ht : P.underlying t = some .string) : Opens enc P w t Kd.string (fun s => s.size + 1) (fun _ => True) := by
 intro fuel cs x h
 obtain ⟨s, rfl, rfl, _⟩ := DataW.trod_string ht h
 refine ⟨s, rfl, ?_, trivial⟩
 simp only [Rows.uptoBulk]
 rw [Array.length_toList]
 exact Nat.le_refl _
def hdr : Kd (Option Addr × Nat × Nat) := Kd.scalar (fun y => Value.slice y.1 y.2.1 y.2.2) (fun _ => rfl)
theorem opens_hdr {t e : TypeId} (ht : P.underlying t = some (.slice e)) : Opens enc P w t hdr (fun _ => 1) (fun _ => True) := by
 intro fuel cs x h
 rcases DataW.trod_slice ht h with ⟨rfl, rfl⟩ | ⟨a, len, cap, elems, rest, n, _, rfl, rfl, _⟩
 ·
  exact ⟨(none, 0, 0), rfl, one_le _, trivial⟩
 ·
  exact ⟨(some a, len, cap), rfl, one_le _, trivial⟩
theorem opens_list {α : Type} {e : TypeId} {d : Kd α} {sz : α → Nat} {B : α → Prop} (he : Opens enc P w e d sz B) (hc : P.cellsOf e = d.sz) (a : Addr) (n : Nat) : ∀ (elems : List (DataW H × List MemPlace)) (len i : Nat), elems.length = len →
  (∀ j, j < len → (w.cells? 0 (a.add ((i + j) * P.cellsOf e)) (P.cellsOf e)).bind (DataW.trod enc P w 0 (fun _ => true) true n e) = elems[j]?) →
  ∃ ys : List α, ys.length = len ∧ (ys.map sz).sum ≤ Rows.uptoBulkAll (elems.map (·.1)) ∧ (∀ y ∈ ys, B y) ∧ ∀ j y, ys[j]? = some y → ∃ c, c.length = d.sz ∧ d.K w y c ∧ ∀ q u, c[q]? = some u → w.cell? (a.add ((i + j) * d.sz + q)) = some u := by
 intro elems
 induction elems with
 | nil => intro len i hl _; exact ⟨[], by simpa using hl, by simp, by simp, by simp⟩
 | cons p elems ih =>
  intro len i hl hel
  obtain ⟨len, rfl⟩ : ∃ m, len = m + 1 := ⟨elems.length, by simpa using hl.symm⟩
  simp only [List.length_cons, Nat.add_right_cancel_iff] at hl
  obtain ⟨ys, h1, h4, h2, h3⟩ := ih len (i + 1) hl (fun j hj => by
   have := hel (j + 1) (by omega)
   rw [List.getElem?_cons_succ] at this
   rw [show i + 1 + j = i + (j + 1) by omega]
   exact this)
  have h0 := hel 0 (by omega)
  rw [List.getElem?_cons_zero, Nat.add_zero] at h0
  obtain ⟨cs, hcs, htr⟩ := Option.bind_eq_some_iff.1 h0
  obtain ⟨y, hK, hS, hB⟩ := he n cs p htr
  obtain ⟨_, hlen, hcell⟩ := World.cells?_some hcs
  refine ⟨y :: ys, by simp [h1], ?_, ?_, ?_⟩
  ·
   rw [List.map_cons, List.sum_cons, List.map_cons, Rows.uptoBulkAll]
   omega
  ·
   intro z hz
   rcases List.mem_cons.1 hz with rfl | hz
   ·
    exact hB
   ·
    exact h2 z hz
  ·
   intro j z hz
   cases j with
   | zero =>
    simp only [List.getElem?_cons_zero, Option.some.injEq] at hz
    subst hz
    refine ⟨cs, by rw [hlen, hc], hK, fun q u hu => ?_⟩
    have hq : q < P.cellsOf e := by rw [← hlen]; exact (List.getElem?_eq_some_iff.1 hu).1
    have := hcell q hq
    rw [Addr.add_add, hc] at this
    rw [Nat.add_zero, this, hu]
   | succ j =>
    rw [List.getElem?_cons_succ] at hz
    obtain ⟨c, g1, g2, g3⟩ := h3 j z hz
    refine ⟨c, g1, g2, fun q u hu => ?_⟩
    rw [show i + (j + 1) = i + 1 + j by omega]
    exact g3 q u hu
theorem opens_slice {α : Type} {t e : TypeId} {d : Kd α} {sz : α → Nat} {B : α → Prop} (ht : P.underlying t = some (.slice e)) (he : Opens enc P w e d sz B) (hc : P.cellsOf e = d.sz) : Opens enc P w t (Kd.slice e d) (fun ys => (ys.map sz).sum + 1) (fun ys => ∀ y ∈ ys, B y) := by
 intro fuel cs x h
 rcases DataW.trod_slice ht h with ⟨rfl, rfl⟩ | ⟨a, len, cap, elems, rest, n, _, rfl, rfl, _, hl, hm, hlen, hel, _, _⟩
 ·
  exact ⟨[], ⟨none, 0, rfl, Nat.le_refl _, rfl, by simp, fun h => by simp at h⟩, by simpa using one_le _, by simp⟩
 ·
  obtain ⟨ys, h1, h4, h2, h3⟩ := opens_list he hc a n elems len 0 hlen (fun j hj => by rw [Nat.zero_add]; exact hel j hj)
  have hmax : (maxLen : Nat) ≤ 9223372036854775807 := by unfold maxLen; omega
  refine ⟨ys, ⟨some a, cap, by rw [h1], by rw [h1]; exact hl, rfl, by rw [h1]; omega, fun _ => ⟨a, rfl, fun j y hy => ?_⟩⟩, ?_, h2⟩
  ·
   have := h3 j y hy
   rwa [Nat.zero_add] at this
  ·
   simp only [Rows.uptoBulk]
   omega
def Fields (enc : TypeId × Value → H) (P : Program) (w : World) (n : Nat) : List TypeId → List Value → List (DataW H) → Prop
 | [], cs, ds => cs = [] ∧ ds = []
 | t :: ts, cs, ds => ∃ x ds', ds = x.1 :: ds' ∧ DataW.trod enc P w 0 (fun _ => true) true n t (cs.take (P.cellsOf t)) = some x ∧ Fields enc P w n ts (cs.drop (P.cellsOf t)) ds'
def OpensF {α : Type} (enc : TypeId × Value → H) (P : Program) (w : World) (ts : List TypeId) (d : Kd α) (sz : α → Nat) (B : α → Prop) : Prop :=
 ∀ n cs ds, Fields enc P w n ts cs ds → ∃ y, d.K w y cs ∧ sz y ≤ Rows.uptoBulkAll ds ∧ B y
theorem opensF_one {α : Type} {t : TypeId} {d : Kd α} {sz : α → Nat} {B : α → Prop} (h : Opens enc P w t d sz B) : OpensF enc P w [t] d sz B := by
 intro n cs ds hf
 obtain ⟨x, ds', rfl, hx, hn, rfl⟩ := hf
 obtain ⟨y, h1, h3, h2⟩ := h n _ x hx
 have e : cs.take (P.cellsOf t) = cs := by
  have := List.take_append_drop (P.cellsOf t) cs
  rw [hn, List.append_nil] at this
  exact this
 rw [e] at h1
 exact ⟨y, h1, by simp only [Rows.uptoBulkAll]; omega, h2⟩
theorem opensF_pair {α β : Type} {t : TypeId} {ts : List TypeId} {d : Kd α} {e : Kd β} {sa : α → Nat} {sb : β → Nat} {B : α → Prop} {C : β → Prop} (h : Opens enc P w t d sa B) (hs : OpensF enc P w ts e sb C) : OpensF enc P w (t :: ts) (Kd.pair d e) (fun y => sa y.1 + sb y.2) (fun y => B y.1 ∧ C y.2) := by
 intro n cs ds hf
 obtain ⟨x, ds', rfl, hx, hn⟩ := hf
 obtain ⟨y, h1, h5, h2⟩ := h n _ x hx
 obtain ⟨z, h3, h6, h4⟩ := hs n _ ds' hn
 exact ⟨(y, z), ⟨_, _, (List.take_append_drop _ _).symm, h1, h3⟩, by simp only [Rows.uptoBulkAll]; omega, h2, h4⟩
def offs (P : Program) : Nat → List TypeId → List (Nat × TypeId)
 | _, [] => []
 | o, t :: ts => (o, t) :: offs P (o + P.cellsOf t) ts
def total (P : Program) : List TypeId → Nat
 | [] => 0
 | t :: ts => P.cellsOf t + total P ts
theorem fields_of {n : Nat} {cs : List Value} : ∀ (ts : List TypeId) (o : Nat) (xs : List (DataW H × List MemPlace)), xs.length = ts.length → cs.length = o + total P ts →
  (∀ (i : Nat) (p : Nat × TypeId), (offs P o ts)[i]? = some p → DataW.trod enc P w 0 (fun _ => true) true n p.2 ((cs.drop p.1).take (P.cellsOf p.2)) = xs[i]?) → Fields enc P w n ts (cs.drop o) (xs.map (·.1)) := by
 intro ts
 induction ts with
 | nil =>
  intro o xs hl hc _
  have : xs = [] := List.eq_nil_of_length_eq_zero hl
  subst this
  exact ⟨List.drop_of_length_le (by simp only [total] at hc; omega), rfl⟩
 | cons t ts ih =>
  intro o xs hl hc h
  obtain ⟨x, xs, rfl⟩ : ∃ a b, xs = a :: b := by
   cases xs with
   | nil => simp at hl
   | cons a b => exact ⟨a, b, rfl⟩
  simp only [List.length_cons, Nat.add_right_cancel_iff] at hl
  simp only [total] at hc
  refine ⟨x, xs.map (·.1), rfl, by have := h 0 (o, t) rfl; simpa using this, ?_⟩
  rw [List.drop_drop]
  exact ih (o + P.cellsOf t) xs hl (by omega) (fun i p hp => by
   have := h (i + 1) p (by simp only [offs]; exact hp)
   rw [List.getElem?_cons_succ] at this
   exact this)
theorem opens_struct {α : Type} {t : TypeId} {fs : Array Field} {ts : List TypeId} {d : Kd α} {sz : α → Nat} {B : α → Prop} (ht : P.underlying t = some (.struct fs)) (hts : fs.toList.map (fun f => (f.offset, f.type)) = offs P 0 ts) (hty : fs.toList.map (·.type) = ts) (hc : P.cellsOf t = total P ts)
  (h : OpensF enc P w ts d sz B) : Opens enc P w t d sz B := by
 intro fuel cs x hx
 obtain ⟨xs, n, _, rfl, hl, hn, hi⟩ := DataW.trod_struct ht hx
 have hlen : xs.length = ts.length := by
  rw [hn, ← hty, List.length_map]
  simp
 have hF : Fields enc P w n ts (cs.drop 0) (xs.map (·.1)) := fields_of ts 0 xs hlen (by rw [hl, hc, Nat.zero_add]) (fun i p hp => by
  rw [← hts, List.getElem?_map] at hp
  obtain ⟨fl, hfl, rfl⟩ := Option.map_eq_some_iff.1 hp
  exact hi i fl (by simpa using hfl))
 rw [List.drop_zero] at hF
 obtain ⟨y, h1, h3, h2⟩ := h n cs (xs.map (·.1)) hF
 exact ⟨y, h1, by simp only [Rows.uptoBulk]; omega, h2⟩
theorem bulk_mem {l : List (DataW H)} {d : DataW H} {j : Nat} (h : l[j]? = some d) : Rows.uptoBulk d ≤ Rows.uptoBulkAll l := by
 induction l generalizing j with
 | nil => simp at h
 | cons x r ih =>
  rw [Rows.uptoBulkAll]
  cases j with
  | zero => rw [List.getElem?_cons_zero] at h; cases h; omega
  | succ j => rw [List.getElem?_cons_succ] at h; have := ih h; omega
theorem opened {α : Type} {t : TypeId} {d : Kd α} {sz : α → Nat} {B : α → Prop} {v : Value} {x : DataW H} {ps : List MemPlace} {ds : List (DataW H)} {j : Nat} (ho : Opens enc P w t d sz B) (hk : Rows.uptoSmall H ds = true) (hd : ds[j]? = some x)
  (h : DataW.Trod enc P w 0 (fun _ => true) true t v x ps) : ∃ y, d.K w y v.cells.toList ∧ sz y ≤ 1048576 ∧ B y := by
 obtain ⟨fuel, hf⟩ := h
 obtain ⟨y, h1, h2, h3⟩ := ho fuel _ _ hf
 have hb : Rows.uptoBulkAll ds ≤ 1048576 := of_decide_eq_true hk
 exact ⟨y, h1, Nat.le_trans h2 (Nat.le_trans (bulk_mem hd) hb), h3⟩
end
end Go.Proofs.YtnmfmiemkcaocaaGreat.Open
namespace Go.Proofs.YtnmfmiemkcaocaaGreat.Open
open Go.ChangeShapes Go.WideShapes Go.RowKit Go.Proofs.YtnmfmiemkcaocaaGreatW.PrintWords
open Hand (k74 RuleT Pol PolOK NA Rg nv WR WWR)
section
variable {H : Type} {enc : TypeId × Value → H} {w : World}
abbrev sRule : RuleT → Nat := fun y => 1 + (1 + (1 + (1 + (y.2.2.2.2.size + 1))))
abbrev sNat : List Int → Nat := fun ys => (ys.map (fun _ => 1)).sum + 1
abbrev bNat : List Int → Prop := fun ys => ∀ y ∈ ys, (Lit.int .u32 y).wf = true
theorem o3 : Opens enc Tryz.prog w 3 (Kd.int .i64) (fun _ => 1) (fun n => (Lit.int .i64 n).wf = true) := opens_int Tryz.underlying3
theorem o30 : Opens enc Tryz.prog w 30 (Kd.slice 52 (Kd.int .u32)) sNat bNat := opens_slice Tryz.underlying30 (opens_int Tryz.underlying52) (by kernel_rfl)
theorem o74 : Opens enc Tryz.prog w 74 k74 sRule (fun _ => True) := by
 intro fuel cs x h
 obtain ⟨y, h1, h2, _⟩ := opens_struct Tryz.underlying74 (by kernel_rfl) (by kernel_rfl) (by kernel_rfl) (opensF_pair o3 (opensF_pair o3 (opensF_pair o3 (opensF_pair o3 (opensF_one (opens_string Tryz.underlying9)))))) fuel cs x h
 exact ⟨y, h1, h2, trivial⟩
abbrev k24 : Kd (Int × List RuleT) := Kd.pair (Kd.int .i64) (Kd.slice 74 k74)
abbrev k27 : Kd (List Int × List Int) := Kd.pair (Kd.slice 3 (Kd.int .i64)) (Kd.slice 3 (Kd.int .i64))
abbrev k32 : Kd (Bool × List Int) := Kd.pair Kd.bool (Kd.slice 52 (Kd.int .u32))
abbrev k34 : Kd ((Bool × List Int) × List Int) := Kd.pair k32 (Kd.slice 52 (Kd.int .u32))
theorem o24 : Opens enc Tryz.prog w 24 k24 (fun y => 1 + ((y.2.map sRule).sum + 1)) (fun y => (Lit.int .i64 y.1).wf = true ∧ ∀ x ∈ y.2, True) :=
 opens_struct Tryz.underlying24 (by kernel_rfl) (by kernel_rfl) (by kernel_rfl) (opensF_pair o3 (opensF_one (opens_slice Tryz.underlying22 o74 (by kernel_rfl))))
theorem o25 : Opens enc Tryz.prog w 25 (Kd.slice 3 (Kd.int .i64)) sNat (fun ys => ∀ y ∈ ys, (Lit.int .i64 y).wf = true) := opens_slice Tryz.underlying25 o3 (by kernel_rfl)
theorem o27 : Opens enc Tryz.prog w 27 k27 (fun y => sNat y.1 + sNat y.2) (fun y => (∀ x ∈ y.1, (Lit.int .i64 x).wf = true) ∧ ∀ x ∈ y.2, (Lit.int .i64 x).wf = true) :=
 opens_struct Tryz.underlying27 (by kernel_rfl) (by kernel_rfl) (by kernel_rfl) (opensF_pair o25 (opensF_one o25))
theorem o32 : Opens enc Tryz.prog w 32 k32 (fun y => 1 + sNat y.2) (fun y => True ∧ bNat y.2) :=
 opens_struct Tryz.underlying32 (by kernel_rfl) (by kernel_rfl) (by kernel_rfl) (opensF_pair (opens_bool Tryz.underlying4) (opensF_one o30))
theorem o34 : Opens enc Tryz.prog w 34 k34 (fun y => 1 + sNat y.1.2 + sNat y.2) (fun y => (True ∧ bNat y.1.2) ∧ bNat y.2) :=
 opens_struct Tryz.underlying34 (by kernel_rfl) (by kernel_rfl) (by kernel_rfl) (opensF_pair o32 (opensF_one o30))
abbrev T36 := (Int × List RuleT) × (List Int × List Int) × (Option Addr × Nat × Nat) × Int × ((Bool × List Int) × List Int) × Int × ((Bool × List Int) × List Int) × Int × ((Bool × List Int) × List Int) × Int
def k36 : Kd T36 := Kd.pair k24 (Kd.pair k27 (Kd.pair hdr (Kd.pair (Kd.int .i64) (Kd.pair k34 (Kd.pair (Kd.int .i64) (Kd.pair k34 (Kd.pair (Kd.int .i64) (Kd.pair k34 (Kd.int .i64)))))))))
theorem o36 : Opens enc Tryz.prog w 36 k36 (fun y => (1 + ((y.1.2.map sRule).sum + 1)) + ((sNat y.2.1.1 + sNat y.2.1.2) + (1 + (1 + ((1 + sNat y.2.2.2.2.1.1.2 + sNat y.2.2.2.2.1.2) + (1 + ((1 + sNat y.2.2.2.2.2.2.1.1.2 + sNat y.2.2.2.2.2.2.1.2) + (1 + ((1 + sNat y.2.2.2.2.2.2.2.2.1.1.2 + sNat y.2.2.2.2.2.2.2.2.1.2) + 1)))))))))
  (fun y => bNat y.2.2.2.2.1.1.2 ∧ bNat y.2.2.2.2.1.2 ∧ bNat y.2.2.2.2.2.2.1.1.2 ∧ bNat y.2.2.2.2.2.2.1.2 ∧ bNat y.2.2.2.2.2.2.2.2.1.1.2 ∧ bNat y.2.2.2.2.2.2.2.2.1.2) := by
 intro fuel cs x h
 obtain ⟨y, h1, h2, _, _, _, _, ⟨⟨_, a⟩, b⟩, _, ⟨⟨_, c⟩, d⟩, _, ⟨⟨_, e⟩, f⟩, _⟩ := opens_struct Tryz.underlying36 (by kernel_rfl) (by kernel_rfl) (by kernel_rfl) (opensF_pair o24 (opensF_pair o27 (opensF_pair (opens_hdr Tryz.underlying28) (opensF_pair o3 (opensF_pair o34 (opensF_pair o3 (opensF_pair o34 (opensF_pair o3 (opensF_pair o34 (opensF_one o3)))))))))) fuel cs x h
 exact ⟨y, h1, h2, a, b, c, d, e, f⟩
end
theorem rg {xs : List Int} (h : bNat xs) : Rg xs := fun x hx => by
 have := h x hx
 have h2 : 0 ≤ x ∧ x ≤ 4294967295 := by simpa [Lit.wf, IntKind.min, IntKind.max, IntKind.signed, IntKind.bits] using this
 omega
theorem ones {α : Type} (xs : List α) : (xs.map (fun _ => 1)).sum = xs.length := by induction xs with
 | nil => rfl
 | cons x xs ih => rw [List.map_cons, List.sum_cons, ih, List.length_cons]; omega
theorem le_sum {α : Type} (f : α → Nat) {xs : List α} {x : α} (h : x ∈ xs) : f x ≤ (xs.map f).sum := by
 induction xs with
 | nil => cases h
 | cons y xs ih =>
  rw [List.map_cons, List.sum_cons]
  rcases List.mem_cons.1 h with rfl | h
  ·
   omega
  ·
   have := ih h; omega
theorem na {w : World} {A : Option Addr} {c : Nat} {xs : List Int} (hl : xs.length ≤ c) (h : Kd.C (Kd.int .u32) w A xs.length xs) (hb : bNat xs) (hs : sNat xs ≤ 1048576) : NA w (.slice A xs.length c) (nv xs) 1100000 :=
 ⟨xs, ⟨A, c, rfl, hl, h⟩, rg hb, rfl, by have := ones xs; simp only [sNat] at hs; omega⟩
theorem rule_size {rs : List RuleT} {x : RuleT} (h : x ∈ rs) (hs : (rs.map sRule).sum ≤ 1048576) : x.2.2.2.2.size ≤ reachBytes := by
 have := le_sum sRule h
 have h2 : x.2.2.2.2.size + 1 ≤ sRule x := by simp only [sRule]; omega
 have h3 : 1048576 ≤ reachBytes := by decide
 omega
theorem pol_of {w : World} {y : T36} {cs : Array Value} (h : k36.K w y cs.toList) (hs : (1 + ((y.1.2.map sRule).sum + 1)) + ((sNat y.2.1.1 + sNat y.2.1.2) + (1 + (1 + ((1 + sNat y.2.2.2.2.1.1.2 + sNat y.2.2.2.2.1.2) + (1 + ((1 + sNat y.2.2.2.2.2.2.1.1.2 + sNat y.2.2.2.2.2.2.1.2) + (1 + ((1 + sNat y.2.2.2.2.2.2.2.2.1.1.2 + sNat y.2.2.2.2.2.2.2.2.1.2) + 1)))))))) ≤ 1048576)
  (hb : bNat y.2.2.2.2.1.1.2 ∧ bNat y.2.2.2.2.1.2 ∧ bNat y.2.2.2.2.2.2.1.1.2 ∧ bNat y.2.2.2.2.2.2.1.2 ∧ bNat y.2.2.2.2.2.2.2.2.1.1.2 ∧ bNat y.2.2.2.2.2.2.2.2.1.2) :
  ∃ p : Pol, cs = #[.int .i64 p.len, .slice p.RA p.rs.length p.rc, .slice p.PA p.ps.length p.pc, .slice p.QA p.qs.length p.qc, .slice p.EA p.en p.ec, .int .i64 p.mn, .bool p.vs, .slice p.vA p.vk p.vc, .slice p.vB p.vl p.vd, .int .i64 p.cut, .bool p.ls, .slice p.lA p.lk p.lc, .slice p.lB p.ll p.ld, .int .i64 p.top, .bool p.ts, .slice p.tA p.tk p.tc, .slice p.tB p.tl p.td, .int .i64 p.slack] ∧ PolOK w p 1100000 := by
 obtain ⟨⟨len, rs⟩, ⟨ps, qs⟩, ⟨EA, en, ec⟩, mn, ⟨⟨vs, xv⟩, yv⟩, cut, ⟨⟨ls, xl⟩, yl⟩, top, ⟨⟨ts, xt⟩, yt⟩, slack⟩ := y
 obtain ⟨b1, b2, b3, b4, b5, b6⟩ := hb
 obtain ⟨_, _, ec1, ⟨_, _, rfl, rfl, RA, rc, rfl, _, h1⟩, _, _, rfl, ⟨_, _, rfl, ⟨PA, pc, rfl, h2, h3⟩, QA, qc, rfl, _, h4⟩, _, _, rfl, rfl, _, _, rfl, rfl, _, _, rfl, ⟨_, _, rfl, ⟨_, _, rfl, rfl, vA, vc, rfl, v1, v2⟩, vB, vd, rfl, v3, v4⟩, _, _, rfl, rfl, _, _, rfl, ⟨_, _, rfl, ⟨_, _, rfl, rfl, lA, lc, rfl, l1, l2⟩, lB, ld, rfl, l3, l4⟩, _, _, rfl, rfl, _, _, rfl, ⟨_, _, rfl, ⟨_, _, rfl, rfl, tA, tc, rfl, t1, t2⟩, tB, td, rfl, t3, t4⟩, rfl⟩ := h
 have hs2 : (1 + ((rs.map sRule).sum + 1)) + ((sNat ps + sNat qs) + (1 + (1 + ((1 + sNat xv + sNat yv) + (1 + ((1 + sNat xl + sNat yl) + (1 + ((1 + sNat xt + sNat yt) + 1)))))))) ≤ 1048576 := hs
 have e1 : sNat ps = ps.length + 1 := congrArg (· + 1) (ones ps)
 clear hs
 generalize hr : (rs.map sRule).sum = r at hs2
 refine ⟨{ len := len, rs := rs, RA := RA, rc := rc, ps := ps, PA := PA, pc := pc, qs := qs, QA := QA, qc := qc, en := en, EA := EA, ec := ec, mn := mn, vs := vs, vA := vA, vk := xv.length, vc := vc, vB := vB, vl := yv.length, vd := vd, vx := nv xv, vy := nv yv, cut := cut, ls := ls, lA := lA, lk := xl.length, lc := lc, lB := lB, ll := yl.length, ld := ld, lx := nv xl, ly := nv yl, top := top, ts := ts, tA := tA, tk := xt.length, tc := tc, tB := tB, tl := yt.length, td := td, tx := nv xt, ty := nv yt, slack := slack }, ?_, ?_⟩
 ·
  apply Array.ext'
  rw [ec1]
  rfl
 ·
  exact ⟨h1, fun x hx => rule_size hx (by rw [hr]; omega), h3, h2, (show ps.length ≤ 100000000 by omega), h4, na v1 v2 b1 (by omega), na v3 v4 b2 (by omega), na l1 l2 b3 (by omega), na l3 l4 b4 (by omega), na t1 t2 b5 (by omega), na t3 t4 b6 (by omega), by decide⟩
end Go.Proofs.YtnmfmiemkcaocaaGreat.Open
