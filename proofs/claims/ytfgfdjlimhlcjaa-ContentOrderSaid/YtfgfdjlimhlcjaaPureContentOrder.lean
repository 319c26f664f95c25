/- For all strings: Under is reflexive, antisymmetric and transitive, a code lies under its parent, and the parent of a valid code is valid. The one condition is the row's own bound on a string's size. -/
import Derived.Test.YtfgfdjlimhlcjaaConc
namespace Go.Proofs.Ytfgfdjlimhlcjaa.Pure
open Go.RowKit Go.Proofs.Ytfgfdjlimhlcjaa.QCon Go.Proofs.Ytfgfdjlimhlcjaa.Con

theorem order_end (a : List UInt8) (ha : a.length ≤ 140737488351232) (k : Nat) (hk : a.length + 60 ≤ k) : examboardlaw13_ContentOrder.j1 (k + 1) (ba a) false = some true := by
  have hs : (ba a).size = a.length := ba_size a
  simp only [examboardlaw13_ContentOrder.j1]
  rw [if_neg (by decide), Parent_tells _ (by omega) _ (by omega), awake_tells k (by omega), Valid_tells a k (by omega)]
  simp only [Option.bind_some]
  rcases parent_spec a with ⟨h, _⟩ | ⟨p, q, hl, _, h⟩
  · rw [h]
    rfl
  · rw [h]
    have hp : p.length ≤ a.length := by rw [hl]; simp
    have hu : underB a p = true := (under_iff a p).2 (Or.inr (Or.inr ⟨q, hl⟩))
    simp only [if_true]
    rw [Under_tells a p (by omega), hu, Valid_tells p k (by omega)]
    simp only [Option.bind_some, if_true]
    by_cases hv : validB a = true
    · rw [if_pos hv, valid_parent p q (by rw [← hl]; exact hv), if_pos rfl]
    · rw [if_neg hv]

theorem ContentOrder : examboardlaw13_ContentOrder.Pure := by
  intro s t u hs ht hu
  obtain ⟨a, rfl⟩ : ∃ a, s = ba a := ⟨s.data.toList, rfl⟩
  obtain ⟨b, rfl⟩ : ∃ b, t = ba b := ⟨t.data.toList, rfl⟩
  obtain ⟨c, rfl⟩ : ∃ c, u = ba c := ⟨u.data.toList, rfl⟩
  rw [ba_size] at hs ht hu
  refine ⟨a.length + 60 + 2, ?_⟩
  have e0 : ∀ x, x = false → examboardlaw13_ContentOrder.j0 (a.length + 60 + 2) (ba a) (ba b) (ba c) x = some true := by
    rintro x rfl
    show examboardlaw13_ContentOrder.j0 (a.length + 60 + 1 + 1) (ba a) (ba b) (ba c) false = some true
    simp only [examboardlaw13_ContentOrder.j0]
    rw [if_neg (by decide), Under_tells a b (by omega), Under_tells b c (by omega), Under_tells a c (by omega)]
    simp only [Option.bind_some]
    by_cases h1 : underB a b = true
    · rw [if_pos h1]
      by_cases h2 : underB b c = true
      · rw [if_pos h2, under_trans a b c h1 h2]
        exact order_end a hs (a.length + 60) (Nat.le_refl _)
      · rw [if_neg h2]
        exact order_end a hs (a.length + 60) (Nat.le_refl _)
    · rw [if_neg h1]
      exact order_end a hs (a.length + 60) (Nat.le_refl _)
  unfold examboardlaw13_ContentOrder.f
  rw [Under_tells a a (by omega), under_refl, Under_tells a b (by omega), Under_tells b a (by omega)]
  simp only [Option.bind_some, if_true]
  by_cases h1 : underB a b = true
  · rw [if_pos h1]
    by_cases h2 : underB b a = true
    · rw [if_pos h2]
      apply e0
      rw [under_anti a b h1 h2]
      simp
    · rw [if_neg h2]
      exact e0 _ rfl
  · rw [if_neg h1]
    exact e0 _ rfl

end Go.Proofs.Ytfgfdjlimhlcjaa.Pure
