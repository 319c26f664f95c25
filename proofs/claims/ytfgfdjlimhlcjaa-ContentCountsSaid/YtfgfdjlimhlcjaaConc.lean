/- Content codes: Under is a partial order, a code lies under its parent, and the parent of a valid code is valid. No condition. -/
import Derived.Test.YtfgfdjlimhlcjaaConb
namespace Go.Proofs.Ytfgfdjlimhlcjaa.Con
open Go.RowKit Go.Proofs.Ytfgfdjlimhlcjaa.QCon Go.Proofs.YtfgfdjlimhlcjaaW.PrintWords Go.Proofs.YtfgfdjlimhlcjaaW.PrintLast

theorem under_iff (l t : List UInt8) : underB l t = true ↔ (t = [] ∨ l = t ∨ ∃ r, l = t ++ 46 :: r) := by
  unfold underB
  simp only [Bool.or_eq_true, decide_eq_true_eq, or_assoc]
  constructor
  · rintro (h | h | h)
    · exact Or.inl h
    · exact Or.inr (Or.inl h)
    · refine Or.inr (Or.inr ⟨l.drop (t.length + 1), ?_⟩)
      have := List.take_append_drop (t.length + 1) l
      rw [h] at this
      rw [← this]
      simp
  · rintro (h | h | ⟨r, rfl⟩)
    · exact Or.inl h
    · exact Or.inr (Or.inl h)
    · refine Or.inr (Or.inr ?_)
      rw [show t ++ 46 :: r = (t ++ [46]) ++ r by simp, List.take_left' (by simp)]
theorem under_refl (l : List UInt8) : underB l l = true := (under_iff l l).2 (Or.inr (Or.inl rfl))
theorem under_anti (l t : List UInt8) (h1 : underB l t = true) (h2 : underB t l = true) : l = t := by
  rw [under_iff] at h1 h2
  rcases h1 with rfl | h | ⟨r, rfl⟩
  · rcases h2 with h | h | ⟨r, h⟩
    · exact h
    · exact h.symm
    · cases l <;> cases h
  · exact h
  · rcases h2 with h | h | ⟨r', h⟩
    · simp at h
    · exact h.symm
    · have := congrArg List.length h
      simp only [List.length_append, List.length_cons] at this
      omega
theorem under_trans (l t u : List UInt8) (h1 : underB l t = true) (h2 : underB t u = true) : underB l u = true := by
  rw [under_iff] at h1 h2 ⊢
  rcases h2 with rfl | rfl | ⟨r, rfl⟩
  · exact Or.inl rfl
  · exact h1
  · rcases h1 with h | rfl | ⟨r', rfl⟩
    · simp at h
    · exact Or.inr (Or.inr ⟨r, rfl⟩)
    · exact Or.inr (Or.inr ⟨r ++ 46 :: r', by simp⟩)

/-! ### The last point -/
theorem last_spec (l : List UInt8) : ∀ i, i ≤ l.length → (lastD (ba l) i = -1 ∧ ¬ (46 : UInt8) ∈ l.take i) ∨ ∃ p q, l.take i = p ++ 46 :: q ∧ ¬ (46 : UInt8) ∈ q ∧ lastD (ba l) i = (p.length : Int) := by
  intro i
  induction i with
  | zero => intro _; exact Or.inl ⟨rfl, by simp⟩
  | succ i ih =>
    intro hi
    have hlt : i < l.length := by omega
    obtain ⟨hb, _⟩ := bt_drop l i (l[i]) (l.drop (i + 1)) (List.drop_eq_getElem_cons hlt)
    have htk : l.take (i + 1) = l.take i ++ [l[i]] := List.take_succ_eq_append_getElem hlt
    rw [lastD_succ, hb, htk]
    by_cases h : ((l[i]).toNat : Int) = 46
    · have hc : l[i] = 46 := UInt8.toNat_inj.1 (by show _ = 46; omega)
      rw [if_pos h, hc]
      exact Or.inr ⟨l.take i, [], rfl, by simp, by rw [List.length_take]; omega⟩
    · have hc : l[i] ≠ 46 := fun e => h (by rw [e]; rfl)
      rw [if_neg h]
      rcases ih (by omega) with ⟨h1, h2⟩ | ⟨p, q, h1, h2, h3⟩
      · refine Or.inl ⟨h1, ?_⟩
        intro hm
        rcases List.mem_append.1 hm with hm | hm
        · exact h2 hm
        · rcases List.mem_singleton.1 hm with hm
          exact hc hm.symm
      · refine Or.inr ⟨p, q ++ [l[i]], by rw [h1]; simp, ?_, h3⟩
        intro hm
        rcases List.mem_append.1 hm with hm | hm
        · exact h2 hm
        · rcases List.mem_singleton.1 hm with hm
          exact hc hm.symm
theorem parent_spec (l : List UInt8) : (parentV (ba l) = (ba [], false) ∧ ¬ (46 : UInt8) ∈ l) ∨ ∃ p q, l = p ++ 46 :: q ∧ ¬ (46 : UInt8) ∈ q ∧ parentV (ba l) = (ba p, true) := by
  unfold parentV
  rw [ba_size]
  rcases last_spec l l.length (Nat.le_refl _) with ⟨h1, h2⟩ | ⟨p, q, h1, h2, h3⟩
  · rw [List.take_length] at h2
    rw [h1, if_pos (by decide)]
    exact Or.inl ⟨rfl, h2⟩
  · rw [List.take_length] at h1
    rw [h3, if_neg (by omega), ba_extract, List.drop_zero, Nat.sub_zero, Int.toNat_natCast]
    refine Or.inr ⟨p, q, h1, h2, ?_⟩
    rw [h1, List.take_left' rfl]
theorem splitD_eq (c : UInt8) (l : List UInt8) : splitD (c :: l) = if c = 46 then [] :: splitD l else match splitD l with
    | h :: t => (c :: h) :: t
    | [] => [[c]] := rfl
theorem split_app : ∀ (p q : List UInt8), splitD (p ++ 46 :: q) = splitD p ++ splitD q
  | [], q => rfl
  | c :: p, q => by
    have ih := split_app p q
    obtain ⟨h, t, hs⟩ := splitD_cons p
    show splitD (c :: (p ++ 46 :: q)) = _
    rw [splitD_eq, splitD_eq c p, ih, hs]
    by_cases hc : c = 46
    · rw [if_pos hc, if_pos hc]; rfl
    · rw [if_neg hc, if_neg hc]; rfl
theorem split_none : ∀ (q : List UInt8), ¬ (46 : UInt8) ∈ q → splitD q = [q]
  | [], _ => rfl
  | c :: q, h => by
    have ih := split_none q (fun hm => h (List.mem_cons_of_mem _ hm))
    rw [splitD_eq, ih, if_neg (fun e => h (by rw [e]; exact List.mem_cons_self))]
theorem valid_parent (p q : List UInt8) (h : validB (p ++ 46 :: q) = true) : validB p = true := by
  unfold validB at h ⊢
  rw [split_app] at h
  simp only [Bool.and_eq_true, decide_eq_true_eq, List.length_append, List.length_cons, List.all_append] at h ⊢
  exact ⟨⟨by omega, by omega⟩, h.2.1⟩
theorem valid_ne (l : List UInt8) (h : validB l = true) : l ≠ [] := by
  rintro rfl
  revert h
  decide
end Go.Proofs.Ytfgfdjlimhlcjaa.Con
