/- Opening a row's arguments: whatever can be read as data of a type is told by that type's kind: slices of structs, of strings, and slices in structs. The conditions: the type's own description, and the row's bound on weights. -/
import Derived.Test.YtfgfdjlimhlcjaaWSized
import Derived.Test.YtfgfdjlimhlcjaaWWords
import Derived.SizedLaws
import Derived.ChangeArms
import Derived.DataElems
namespace Go.Proofs.Ytfgfdjlimhlcjaa.Open
open Go.ChangeShapes Go.WideShapes Go.RowKit Go.Proofs.YtfgfdjlimhlcjaaW.PrintWords

/-- What reads at this type, and weighs no more than the reach, is told by d; B is known of it. -/
def Opens {H α : Type} (enc : TypeId × Value → H) (P : Program) (w : World) (t : TypeId) (d : Kd α) (B : α → Prop) : Prop :=
  ∀ fuel cs x, DataW.trod enc P w 0 (fun _ => true) true fuel t cs = some x → (∀ n ∈ DataW.weights P t x.1, n ≤ reachBytes) → ∃ y, d.K w y cs ∧ B y
section
variable {H : Type} {enc : TypeId × Value → H} {P : Program} {w : World}
theorem opens_int {t : TypeId} {k : IntKind} (ht : P.underlying t = some (.int k)) : Opens enc P w t (Kd.int k) (fun n => (Lit.int k n).wf = true) := by
  intro fuel cs x h _
  obtain ⟨n, rfl, _, hw⟩ := DataW.trod_int ht h
  exact ⟨n, rfl, hw⟩
theorem opens_bool {t : TypeId} (ht : P.underlying t = some .bool) : Opens enc P w t Kd.bool (fun _ => True) := by
  intro fuel cs x h _
  obtain ⟨b, rfl, _⟩ := DataW.trod_bool ht h
  exact ⟨b, rfl, trivial⟩
theorem opens_string {t : TypeId} (ht : P.underlying t = some .string) : Opens enc P w t Kd.string (fun s => s.size ≤ reachBytes) := by
  intro fuel cs x h hw
  obtain ⟨s, rfl, rfl, _⟩ := DataW.trod_string ht h
  exact ⟨s, rfl, hw _ (by simp [DataW.weights])⟩
theorem opens_mono {α : Type} {t : TypeId} {d : Kd α} {B B' : α → Prop} (h : Opens enc P w t d B) (hb : ∀ y, B y → B' y) : Opens enc P w t d B' := by
  intro fuel cs x hx hw
  obtain ⟨y, h1, h2⟩ := h fuel cs x hx hw
  exact ⟨y, h1, hb y h2⟩
theorem weights_all {e : TypeId} : ∀ (l : List (DataW H)) (d : DataW H), d ∈ l → ∀ n ∈ DataW.weights P e d, n ∈ DataW.weightsAll P e l := by
  intro l
  induction l with
  | nil => intro d hd; cases hd
  | cons a l ih =>
    intro d hd n hn
    simp only [DataW.weightsAll, List.mem_append]
    rcases List.mem_cons.1 hd with rfl | hd
    · exact Or.inl hn
    · exact Or.inr (ih d hd n hn)
theorem opens_list {α : Type} {e : TypeId} {d : Kd α} {B : α → Prop} (he : Opens enc P w e d B) (hc : P.cellsOf e = d.sz) (a : Addr) (n : Nat) : ∀ (elems : List (DataW H × List MemPlace)) (len i : Nat), elems.length = len →
    (∀ j, j < len → (w.cells? 0 (a.add ((i + j) * P.cellsOf e)) (P.cellsOf e)).bind (DataW.trod enc P w 0 (fun _ => true) true n e) = elems[j]?) → (∀ p ∈ elems, ∀ m ∈ DataW.weights P e p.1, m ≤ reachBytes) →
    ∃ ys : List α, ys.length = len ∧ (∀ y ∈ ys, B y) ∧ ∀ j y, ys[j]? = some y → ∃ c, c.length = d.sz ∧ d.K w y c ∧ ∀ q u, c[q]? = some u → w.cell? (a.add ((i + j) * d.sz + q)) = some u := by
  intro elems
  induction elems with
  | nil => intro len i hl _ _; exact ⟨[], by simpa using hl, by simp, by simp⟩
  | cons p elems ih =>
    intro len i hl hel hw
    obtain ⟨len, rfl⟩ : ∃ m, len = m + 1 := ⟨elems.length, by simpa using hl.symm⟩
    simp only [List.length_cons, Nat.add_right_cancel_iff] at hl
    obtain ⟨ys, h1, h2, h3⟩ := ih len (i + 1) hl (fun j hj => by
      have := hel (j + 1) (by omega)
      rw [List.getElem?_cons_succ] at this
      rw [show i + 1 + j = i + (j + 1) by omega]
      exact this) (fun q hq => hw q (List.mem_cons_of_mem _ hq))
    have h0 := hel 0 (by omega)
    rw [List.getElem?_cons_zero, Nat.add_zero] at h0
    obtain ⟨cs, hcs, htr⟩ := Option.bind_eq_some_iff.1 h0
    obtain ⟨y, hK, hB⟩ := he n cs p htr (hw p List.mem_cons_self)
    obtain ⟨_, hlen, hcell⟩ := World.cells?_some hcs
    refine ⟨y :: ys, by simp [h1], ?_, ?_⟩
    · intro z hz
      rcases List.mem_cons.1 hz with rfl | hz
      · exact hB
      · exact h2 z hz
    · intro j z hz
      cases j with
      | zero =>
        simp only [List.getElem?_cons_zero, Option.some.injEq] at hz
        subst hz
        refine ⟨cs, by rw [hlen, hc], hK, fun q u hu => ?_⟩
        have hq : q < P.cellsOf e := by rw [← hlen]; exact (List.getElem?_eq_some_iff.1 hu).1
        have := hcell q hq
        rw [Addr.add_add, hc] at this
        rw [Nat.add_zero, this, hu]
      | succ j =>
        rw [List.getElem?_cons_succ] at hz
        obtain ⟨c, g1, g2, g3⟩ := h3 j z hz
        refine ⟨c, g1, g2, fun q u hu => ?_⟩
        rw [show i + (j + 1) = i + 1 + j by omega]
        exact g3 q u hu
theorem opens_slice {α : Type} {t e : TypeId} {d : Kd α} {B : α → Prop} (ht : P.underlying t = some (.slice e)) (he : Opens enc P w e d B) (hc : P.cellsOf e = d.sz) {b : Nat} (hb : P.bytesOf e = b) : Opens enc P w t (Kd.slice e d) (fun ys => ys.length * b ≤ reachBytes ∧ ∀ y ∈ ys, B y) := by
  intro fuel cs x h hw
  rcases DataW.trod_slice ht h with ⟨rfl, rfl⟩ | ⟨a, len, cap, elems, rest, n, _, rfl, rfl, _, hl, hm, hlen, hel, _, _⟩
  · exact ⟨[], ⟨none, 0, rfl, Nat.le_refl _, rfl, by simp, fun h => by simp at h⟩, by simp, by simp⟩
  · have hwt : DataW.weights P t (.slice (elems.map (·.1)) (rest.map (·.1))) = ((elems.map (·.1)).length + (rest.map (·.1)).length) * P.bytesOf e :: (DataW.weightsAll P e (elems.map (·.1)) ++ DataW.weightsAll P e (rest.map (·.1))) := by simp [DataW.weights, ht]
    obtain ⟨ys, h1, h2, h3⟩ := opens_list he hc a n elems len 0 hlen (fun j hj => by rw [Nat.zero_add]; exact hel j hj) (fun p hp m hm' => hw m (by
      rw [hwt]
      exact List.mem_cons_of_mem _ (List.mem_append_left _ (weights_all _ p.1 (List.mem_map_of_mem hp) m hm'))))
    have hwl := hw (((elems.map (·.1)).length + (rest.map (·.1)).length) * P.bytesOf e) (by rw [hwt]; exact List.mem_cons_self)
    rw [List.length_map, List.length_map, hlen, hb] at hwl
    have hmax : (maxLen : Nat) ≤ 9223372036854775807 := by unfold maxLen; omega
    refine ⟨ys, ⟨some a, cap, by rw [h1], by rw [h1]; exact hl, rfl, by rw [h1]; omega, fun _ => ⟨a, rfl, fun j y hy => ?_⟩⟩, ?_, h2⟩
    · have := h3 j y hy
      rwa [Nat.zero_add] at this
    · rw [h1]
      exact Nat.le_trans (Nat.mul_le_mul_right _ (Nat.le_add_right _ _)) hwl

/-! ### Structs: their fields, one behind the other -/
def Fields (enc : TypeId × Value → H) (P : Program) (w : World) (n : Nat) : List TypeId → List Value → List (DataW H) → Prop
  | [], cs, ds => cs = [] ∧ ds = []
  | t :: ts, cs, ds => ∃ x ds', ds = x.1 :: ds' ∧ DataW.trod enc P w 0 (fun _ => true) true n t (cs.take (P.cellsOf t)) = some x ∧ Fields enc P w n ts (cs.drop (P.cellsOf t)) ds'
/-- Types that lie one behind the other are told by d. -/
def OpensF {α : Type} (enc : TypeId × Value → H) (P : Program) (w : World) (ts : List TypeId) (d : Kd α) (B : α → Prop) : Prop :=
  ∀ n cs ds, Fields enc P w n ts cs ds → (∀ m ∈ DataW.weightsEach P ts ds, m ≤ reachBytes) → ∃ y, d.K w y cs ∧ B y
theorem opensF_one {α : Type} {t : TypeId} {d : Kd α} {B : α → Prop} (h : Opens enc P w t d B) : OpensF enc P w [t] d B := by
  intro n cs ds hf hw
  obtain ⟨x, ds', rfl, hx, hn, rfl⟩ := hf
  obtain ⟨y, h1, h2⟩ := h n _ x hx (fun m hm => hw m (by simp [DataW.weightsEach, hm]))
  have e : cs.take (P.cellsOf t) = cs := by
    have := List.take_append_drop (P.cellsOf t) cs
    rw [hn, List.append_nil] at this
    exact this
  rw [e] at h1
  exact ⟨y, h1, h2⟩
theorem opensF_pair {α β : Type} {t : TypeId} {ts : List TypeId} {d : Kd α} {e : Kd β} {B : α → Prop} {C : β → Prop} (h : Opens enc P w t d B) (hs : OpensF enc P w ts e C) : OpensF enc P w (t :: ts) (Kd.pair d e) (fun y => B y.1 ∧ C y.2) := by
  intro n cs ds hf hw
  obtain ⟨x, ds', rfl, hx, hn⟩ := hf
  obtain ⟨y, h1, h2⟩ := h n _ x hx (fun m hm => hw m (by simp [DataW.weightsEach, hm]))
  obtain ⟨z, h3, h4⟩ := hs n _ ds' hn (fun m hm => hw m (by simp [DataW.weightsEach, hm]))
  exact ⟨(y, z), ⟨_, _, (List.take_append_drop _ _).symm, h1, h3⟩, h2, h4⟩
def offs (P : Program) : Nat → List TypeId → List (Nat × TypeId)
  | _, [] => []
  | o, t :: ts => (o, t) :: offs P (o + P.cellsOf t) ts
def total (P : Program) : List TypeId → Nat
  | [] => 0
  | t :: ts => P.cellsOf t + total P ts
theorem fields_of {n : Nat} {cs : List Value} : ∀ (ts : List TypeId) (o : Nat) (xs : List (DataW H × List MemPlace)), xs.length = ts.length → cs.length = o + total P ts →
    (∀ (i : Nat) (p : Nat × TypeId), (offs P o ts)[i]? = some p → DataW.trod enc P w 0 (fun _ => true) true n p.2 ((cs.drop p.1).take (P.cellsOf p.2)) = xs[i]?) → Fields enc P w n ts (cs.drop o) (xs.map (·.1)) := by
  intro ts
  induction ts with
  | nil =>
    intro o xs hl hc _
    have : xs = [] := List.eq_nil_of_length_eq_zero hl
    subst this
    exact ⟨List.drop_of_length_le (by simp only [total] at hc; omega), rfl⟩
  | cons t ts ih =>
    intro o xs hl hc h
    obtain ⟨x, xs, rfl⟩ : ∃ a b, xs = a :: b := by
      cases xs with
      | nil => simp at hl
      | cons a b => exact ⟨a, b, rfl⟩
    simp only [List.length_cons, Nat.add_right_cancel_iff] at hl
    simp only [total] at hc
    refine ⟨x, xs.map (·.1), rfl, by have := h 0 (o, t) rfl; simpa using this, ?_⟩
    rw [List.drop_drop]
    exact ih (o + P.cellsOf t) xs hl (by omega) (fun i p hp => by
      have := h (i + 1) p (by simp only [offs]; exact hp)
      rw [List.getElem?_cons_succ] at this
      exact this)
theorem opens_struct {α β : Type} {t : TypeId} {fs : Array Field} {ts : List TypeId} {d : Kd α} {B : α → Prop} (ht : P.underlying t = some (.struct fs)) (hts : fs.toList.map (fun f => (f.offset, f.type)) = offs P 0 ts) (hty : fs.toList.map (·.type) = ts) (hc : P.cellsOf t = total P ts)
    (h : OpensF enc P w ts d B) (f : β → α) (g : α → β) (hfg : ∀ y, f (g y) = y) : Opens enc P w t (Kd.iso d f) (fun x => B (f x)) := by
  intro fuel cs x hx hw
  obtain ⟨xs, n, _, rfl, hl, hn, hi⟩ := DataW.trod_struct ht hx
  have hlen : xs.length = ts.length := by
    rw [hn, ← hty, List.length_map]
    simp
  have hF : Fields enc P w n ts (cs.drop 0) (xs.map (·.1)) := fields_of ts 0 xs hlen (by rw [hl, hc, Nat.zero_add]) (fun i p hp => by
    rw [← hts, List.getElem?_map] at hp
    obtain ⟨fl, hfl, rfl⟩ := Option.map_eq_some_iff.1 hp
    exact hi i fl (by simpa using hfl))
  rw [List.drop_zero] at hF
  obtain ⟨y, h1, h2⟩ := h n cs (xs.map (·.1)) hF (fun m hm => hw m (by
    simp only [DataW.weights, ht]
    rw [hty]
    exact hm))
  exact ⟨g y, by show d.K w (f (g y)) cs; rw [hfg]; exact h1, by show B (f (g y)); rw [hfg]; exact h2⟩
/-- A row's argument. -/
theorem opened {α : Type} {t : TypeId} {d : Kd α} {B : α → Prop} {v : Value} {x : DataW H} {ps : List MemPlace} {ts : List TypeId} {ds : List (DataW H)} {j : Nat} (ho : Opens enc P w t d B) (hsz : (DataW.weightsEach P ts ds).all (· ≤ reachBytes) = true) (ht : ts[j]? = some t) (hd : ds[j]? = some x)
    (h : DataW.Trod enc P w 0 (fun _ => true) true t v x ps) : ∃ y, d.K w y v.cells.toList ∧ B y := by
  obtain ⟨fuel, hf⟩ := h
  refine ho fuel _ _ hf (fun n hn => ?_)
  have := List.all_eq_true.1 hsz _ (DataW.weights_mem_each ht hd n hn)
  simpa using this
/-- A slice among a row's arguments. -/
theorem opened_slice {α : Type} {t e : TypeId} {d : Kd α} {B : List α → Prop} {a : Option Addr} {len cap : Nat} {x : DataW H} {ps : List MemPlace} {ts : List TypeId} {ds : List (DataW H)} {j : Nat} (ho : Opens enc P w t (Kd.slice e d) B) (hsz : (DataW.weightsEach P ts ds).all (· ≤ reachBytes) = true) (ht : ts[j]? = some t) (hd : ds[j]? = some x)
    (h : DataW.Trod enc P w 0 (fun _ => true) true t (.slice a len cap) x ps) : ∃ ys : List α, len = ys.length ∧ ys.length ≤ cap ∧ Kd.C d w a ys.length ys ∧ B ys := by
  obtain ⟨ys, ⟨A, c, he, hl, hC⟩, hB⟩ := opened ho hsz ht hd h
  simp [Value.cells] at he
  obtain ⟨rfl, rfl, rfl⟩ := he
  exact ⟨ys, rfl, hl, hC, hB⟩
end
end Go.Proofs.Ytfgfdjlimhlcjaa.Open
