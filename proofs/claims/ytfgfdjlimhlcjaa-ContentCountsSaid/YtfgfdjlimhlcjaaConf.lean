/- Valid outlines as lists of codes: under a topic other than at it there lies, for each code, exactly one kid; every topic is a kid of exactly one topic or of the empty code. No program here. -/
import Derived.Test.YtfgfdjlimhlcjaaConc
namespace Go.Proofs.Ytfgfdjlimhlcjaa.Con
open Go.RowKit Go.Proofs.Ytfgfdjlimhlcjaa.QCon Go.Proofs.YtfgfdjlimhlcjaaW.PrintWords Go.Proofs.YtfgfdjlimhlcjaaW.PrintLast

theorem less_irrefl : ∀ x : List UInt8, Op.bytesLess x x = false
  | [] => rfl
  | a :: x => by
    have h : ¬ a < a := by rw [UInt8.lt_iff_toNat_lt]; omega
    simp [Op.bytesLess, h, less_irrefl x]
theorem less_trans : ∀ x y z : List UInt8, Op.bytesLess x y = true → Op.bytesLess y z = true → Op.bytesLess x z = true
  | _, _, [], _, h => by simp [Op.bytesLess] at h
  | [], _, _ :: _, _, _ => rfl
  | _ :: _, [], _ :: _, h, _ => by simp [Op.bytesLess] at h
  | a :: x, b :: y, c :: z, h1, h2 => by
    have ih := less_trans x y z
    simp only [Op.bytesLess, Bool.or_eq_true, decide_eq_true_eq, Bool.and_eq_true, beq_iff_eq] at h1 h2 ⊢
    rcases h1 with h1 | ⟨rfl, h1⟩
    · rcases h2 with h2 | ⟨rfl, h2⟩
      · left; rw [UInt8.lt_iff_toNat_lt] at *; omega
      · exact Or.inl h1
    · rcases h2 with h2 | ⟨rfl, h2⟩
      · exact Or.inl h2
      · exact Or.inr ⟨rfl, ih h1 h2⟩
theorem nodup_of_less (l : List (List UInt8)) (h : ∀ j (hj : j + 1 < l.length), Op.bytesLess l[j] l[j + 1] = true) : l.Nodup := by
  have key : ∀ d i (hd : i + d + 1 < l.length), Op.bytesLess (l[i]'(by omega)) l[i + d + 1] = true := by
    intro d
    induction d with
    | zero => intro i hd; exact h i hd
    | succ d ih => intro i hd; exact less_trans _ _ _ (ih i (by omega)) (h (i + d + 1) hd)
  refine List.pairwise_iff_getElem.2 (fun i j hi hj hij e => ?_)
  have := key (j - i - 1) i (by omega)
  have e2 : i + (j - i - 1) + 1 = j := by omega
  simp only [e2] at this
  rw [← e, less_irrefl] at this
  cases this

def parL (c : List UInt8) : List UInt8 × Bool := ((parentV (ba c)).1.data.toList, (parentV (ba c)).2)
theorem parL_spec (l : List UInt8) : (parL l = ([], false) ∧ ¬ (46 : UInt8) ∈ l) ∨ ∃ p q, l = p ++ 46 :: q ∧ ¬ (46 : UInt8) ∈ q ∧ parL l = (p, true) := by
  unfold parL
  rcases parent_spec l with ⟨h, h2⟩ | ⟨p, q, h1, h2, h3⟩
  · exact Or.inl ⟨by rw [h]; rfl, h2⟩
  · exact Or.inr ⟨p, q, h1, h2, by rw [h3]; rfl⟩
structure GoodL (cs : List (List UInt8)) : Prop where
  val : ∀ c ∈ cs, validB c = true
  nd : cs.Nodup
  par : ∀ c ∈ cs, (parL c).2 = true → (parL c).1 ∈ cs
theorem kid_form (x top : List UInt8) (ht : top ≠ []) (h : (parL x).1 = top) : ∃ q, x = top ++ 46 :: q ∧ ¬ (46 : UInt8) ∈ q := by
  rcases parL_spec x with ⟨h1, _⟩ | ⟨p, q, h1, h2, h3⟩
  · rw [h1] at h
    exact absurd h.symm ht
  · rw [h3] at h
    obtain rfl : p = top := h
    exact ⟨q, h1, h2⟩
theorem app_dot : ∀ (t p r q : List UInt8), t ++ 46 :: r = p ++ 46 :: q → ¬ (46 : UInt8) ∈ q → p = t ∨ ∃ s, p = t ++ 46 :: s
  | [], [], _, _, _, _ => Or.inl rfl
  | [], a :: p, r, q, h, _ => by
    injection h with h _
    subst h
    exact Or.inr ⟨p, rfl⟩
  | a :: t, [], r, q, h, hq => by
    injection h with h h'
    exfalso
    apply hq
    rw [← h']
    simp
  | a :: t, b :: p, r, q, h, hq => by
    injection h with h h'
    subst h
    rcases app_dot t p r q h' hq with rfl | ⟨s, rfl⟩
    · exact Or.inl rfl
    · exact Or.inr ⟨s, rfl⟩
theorem one_kid {cs : List (List UInt8)} (G : GoodL cs) (top : List UInt8) : ∀ (n : Nat) (c : List UInt8), c.length ≤ n → c ∈ cs → (∃ r, c = top ++ 46 :: r) → ∃ kid, kid ∈ cs ∧ (parL kid).1 = top ∧ underB c kid = true := by
  intro n
  induction n with
  | zero =>
    intro c hl _ ⟨r, hr⟩
    rw [hr] at hl
    simp at hl
  | succ n ih =>
    intro c hl hc ⟨r, hr⟩
    rcases parL_spec c with ⟨_, h⟩ | ⟨p, q, h1, h2, h3⟩
    · exact absurd (by rw [hr]; simp) h
    · have hp : p ∈ cs := by
        have := G.par c hc (by rw [h3])
        rw [h3] at this
        exact this
      rcases app_dot top p r q (hr.symm.trans h1) h2 with rfl | ⟨s, hs⟩
      · exact ⟨c, hc, by rw [h3], under_refl c⟩
      · obtain ⟨kid, k1, k2, k3⟩ := ih p (by rw [h1] at hl; simp only [List.length_append, List.length_cons] at hl; omega) hp ⟨s, hs⟩
        exact ⟨kid, k1, k2, under_trans c p kid ((under_iff c p).2 (Or.inr (Or.inr ⟨q, h1⟩))) k3⟩
theorem first_seg : ∀ (q q' x y : List UInt8), ¬ (46 : UInt8) ∈ q → ¬ (46 : UInt8) ∈ q' → (x = [] ∨ ∃ z, x = 46 :: z) → (y = [] ∨ ∃ z, y = 46 :: z) → q ++ x = q' ++ y → q = q'
  | [], [], _, _, _, _, _, _, _ => rfl
  | [], b :: q', x, y, _, h', hx, _, h => by
    exfalso
    rcases hx with rfl | ⟨z, rfl⟩
    · cases h
    · injection h with h _
      exact h' (by rw [← h]; exact List.mem_cons_self)
  | a :: q, [], x, y, hq, _, _, hy, h => by
    exfalso
    rcases hy with rfl | ⟨z, rfl⟩
    · cases h
    · injection h with h _
      exact hq (by rw [h]; exact List.mem_cons_self)
  | a :: q, b :: q', x, y, hq, hq', hx, hy, h => by
    injection h with h h'
    rw [h, first_seg q q' x y (fun hm => hq (List.mem_cons_of_mem _ hm)) (fun hm => hq' (List.mem_cons_of_mem _ hm)) hx hy h']
theorem kid_unique (c top k1 k2 : List UInt8) (ht : top ≠ []) (h1 : (parL k1).1 = top) (h2 : (parL k2).1 = top) (u1 : underB c k1 = true) (u2 : underB c k2 = true) : k1 = k2 := by
  obtain ⟨q1, rfl, n1⟩ := kid_form k1 top ht h1
  obtain ⟨q2, rfl, n2⟩ := kid_form k2 top ht h2
  rw [under_iff] at u1 u2
  have f1 : ∃ x, (x = [] ∨ ∃ z, x = 46 :: z) ∧ c = top ++ 46 :: (q1 ++ x) := by
    rcases u1 with h | h | ⟨r, h⟩
    · simp at h
    · exact ⟨[], Or.inl rfl, by rw [h]; simp⟩
    · exact ⟨46 :: r, Or.inr ⟨r, rfl⟩, by rw [h]; simp⟩
  have f2 : ∃ x, (x = [] ∨ ∃ z, x = 46 :: z) ∧ c = top ++ 46 :: (q2 ++ x) := by
    rcases u2 with h | h | ⟨r, h⟩
    · simp at h
    · exact ⟨[], Or.inl rfl, by rw [h]; simp⟩
    · exact ⟨46 :: r, Or.inr ⟨r, rfl⟩, by rw [h]; simp⟩
  obtain ⟨x, hx, e1⟩ := f1
  obtain ⟨y, hy, e2⟩ := f2
  have := e1.symm.trans e2
  have h3 := List.append_cancel_left this
  injection h3 with _ h3
  rw [first_seg q1 q2 x y n1 n2 hx hy h3]
theorem count_one {α : Type} (p : α → Bool) (a : α) : ∀ (l : List α), l.Nodup → a ∈ l → p a = true → (∀ b ∈ l, p b = true → b = a) → l.countP p = 1
  | [], _, h, _, _ => by cases h
  | b :: l, hn, hm, hp, hu => by
    obtain ⟨hb, hl⟩ := List.nodup_cons.1 hn
    rcases List.mem_cons.1 hm with rfl | hm
    · rw [List.countP_cons_of_pos hp, List.countP_eq_zero.2]
      intro x hx hpx
      exact hb (by rw [← hu x (List.mem_cons_of_mem _ hx) hpx]; exact hx)
    · have hpb : ¬ p b = true := fun h => hb (by rw [hu b List.mem_cons_self h]; exact hm)
      rw [List.countP_cons_of_neg hpb]
      exact count_one p a l hl hm hp (fun x hx => hu x (List.mem_cons_of_mem _ hx))
def kidsL (top : List UInt8) (cs : List (List UInt8)) : List (List UInt8) := cs.filter (fun x => decide ((parL x).1 = top))
/-- Each code under a topic lies at it, or under exactly one of its kids. -/
theorem kid_sum {cs : List (List UInt8)} (G : GoodL cs) (top c : List UInt8) (ht : top ∈ cs) (hc : c ∈ cs) :
    (if c = top then 1 else 0) + (kidsL top cs).countP (fun kid => underB c kid) = if underB c top = true then 1 else 0 := by
  have hne : top ≠ [] := valid_ne top (G.val top ht)
  have hk : ∀ kid ∈ kidsL top cs, kid ∈ cs ∧ (parL kid).1 = top := by
    intro kid h
    have := List.mem_filter.1 h
    exact ⟨this.1, by simpa using this.2⟩
  have hku : ∀ kid ∈ kidsL top cs, underB kid top = true := by
    intro kid h
    obtain ⟨q, e, _⟩ := kid_form kid top hne (hk kid h).2
    exact (under_iff kid top).2 (Or.inr (Or.inr ⟨q, e⟩))
  by_cases hu : underB c top = true
  · rw [if_pos hu]
    by_cases he : c = top
    · rw [if_pos he, List.countP_eq_zero.2]
      intro kid hm hcu
      obtain ⟨q, e, _⟩ := kid_form kid top hne (hk kid hm).2
      have := under_anti c kid hcu (by rw [he]; exact hku kid hm)
      rw [he, e] at this
      have := congrArg List.length this
      simp at this
    · rw [if_neg he]
      have hr : ∃ r, c = top ++ 46 :: r := by
        rcases (under_iff c top).1 hu with h | h | h
        · exact absurd h hne
        · exact absurd h he
        · exact h
      obtain ⟨kid, k1, k2, k3⟩ := one_kid G top c.length c (Nat.le_refl _) hc hr
      rw [count_one (fun kid => underB c kid) kid (kidsL top cs) (G.nd.filter _) (List.mem_filter.2 ⟨k1, by simpa using k2⟩) k3 (fun b hb hub => kid_unique c top b kid hne (hk b hb).2 k2 hub k3)]
  · rw [if_neg hu]
    have he : ¬ c = top := fun e => hu (by rw [e]; exact under_refl top)
    rw [if_neg he, List.countP_eq_zero.2]
    intro kid hm hcu
    exact hu (under_trans c kid top hcu (hku kid hm))
/-- Each key is one of a list's. -/
theorem keys_sum {α β : Type} [DecidableEq β] (key : α → β) : ∀ (D : List β), D.Nodup → ∀ (l : List α), (∀ x ∈ l, key x ∈ D) → (D.map fun d => (l.filter (fun x => decide (key x = d))).length).sum = l.length := by
  intro D hD l
  induction l with
  | nil =>
    intro _
    simp only [List.filter_nil, List.length_nil]
    induction D with
    | nil => rfl
    | cons d D ih => simp only [List.map_cons, List.sum_cons, Nat.zero_add]; exact ih (List.nodup_cons.1 hD).2 (fun _ h => by cases h)
  | cons x l ih =>
    intro h
    have ih' := ih (fun y hy => h y (List.mem_cons_of_mem _ hy))
    have hx := h x List.mem_cons_self
    have step : ∀ (E : List β), (E.map fun d => ((x :: l).filter (fun y => decide (key y = d))).length).sum = (E.map fun d => (l.filter (fun y => decide (key y = d))).length).sum + E.countP (fun d => decide (key x = d)) := by
      intro E
      induction E with
      | nil => rfl
      | cons d E ihE =>
        rw [List.map_cons, List.sum_cons, List.map_cons, List.sum_cons, ihE, List.countP_cons, List.filter_cons]
        by_cases hd : decide (key x = d) = true
        · rw [if_pos hd, if_pos hd, List.length_cons]; omega
        · rw [if_neg hd, if_neg hd]; omega
    rw [step, ih', count_one (fun d => decide (key x = d)) (key x) D hD hx (by simp) (fun b _ hb => (of_decide_eq_true hb).symm)]
    rfl
/-- Every topic is a kid of exactly one topic, or of the empty code. -/
theorem kin_sum {cs : List (List UInt8)} (G : GoodL cs) : (kidsL [] cs).length + (cs.map fun c => (kidsL c cs).length).sum = cs.length := by
  have h := keys_sum (fun x => (parL x).1) ([] :: cs) (List.nodup_cons.2 ⟨fun h => valid_ne [] (G.val [] h) rfl, G.nd⟩) cs (fun x hx => by
    rcases parL_spec x with ⟨h, _⟩ | ⟨p, q, _, _, h3⟩
    · rw [h]; exact List.mem_cons_self
    · exact List.mem_cons_of_mem _ (G.par x hx (by rw [h3])))
  rw [List.map_cons, List.sum_cons] at h
  exact h
end Go.Proofs.Ytfgfdjlimhlcjaa.Con
