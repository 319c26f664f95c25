/- For every kind and every number that are those of an identifier, the check digits are from 2 to 98, and the kind, the number and the check digits, written one after the other, are 1 modulo 97; at any other kind or number the law answers true. No condition but the bounds of int. -/
import Derived.Test.YtkkdabdceooakaaPIdentModx1
namespace Go.Proofs.Ytkkdabdceooakaa.Pure
open Go.RowKit Go.Proofs.Ytkkdabdceooakaa.PIdentMod Go.Proofs.YtkkdabdceooakaaW.PrintWords Go.Proofs.YtkkdabdceooakaaW.PrintLast

theorem w64 (x : Int) (h0 : -9223372036854775808 ≤ x) (h1 : x ≤ 9223372036854775807) : wrap64 x = x := by
  unfold wrap64
  omega

/-- The check digits of a valid kind and number: 98 minus the remainder. -/
theorem check_tells (a b : Int) (h1 : 1 ≤ a) (h2 : a ≤ 6) (h3 : 1 ≤ b) (h4 : b ≤ 9999999) : ident_check.f a b = some (98 - (a * 10000000 + b) * 100 % 97) := by
  unfold ident_check.f
  rw [w64 (a * 10000000) (by omega) (by omega), w64 (a * 10000000 + b) (by omega) (by omega), w64 ((a * 10000000 + b) * 100) (by omega) (by omega), Int.tmod_eq_emod_of_nonneg (by omega), w64 _ (by omega) (by omega)]

theorem IdentMod : examboardlaw09_IdentMod.Pure := by
  intro a b _ _
  refine ⟨1, ?_⟩
  unfold examboardlaw09_IdentMod.f examboardlaw09_valid.f
  by_cases h1 : a ≥ 1
  · rw [if_pos h1]
    by_cases h2 : a ≤ 6
    · rw [if_pos h2]
      by_cases h3 : b ≥ 1
      · rw [if_pos h3]
        by_cases h4 : b ≤ 9999999
        · rw [decide_eq_true h4]
          simp only [Option.bind_some, if_true]
          unfold ident_Check.f
          rw [if_neg (by omega), decide_eq_false (by omega)]
          simp only [ident_Check.j0]
          rw [if_neg (by decide), if_neg (by omega), if_neg (by omega), check_tells a b h1 h2 h3 h4]
          simp only [Option.bind_some, if_true]
          rw [if_pos (by omega), if_pos (by omega), w64 (a * 10000000) (by omega) (by omega), w64 (a * 10000000 + b) (by omega) (by omega), w64 ((a * 10000000 + b) * 100) (by omega) (by omega), w64 _ (by omega) (by omega), Int.tmod_eq_emod_of_nonneg (by omega)]
          have h : ((a * 10000000 + b) * 100 + (98 - (a * 10000000 + b) * 100 % 97)) % 97 = 1 := by omega
          rw [h]
          rfl
        · rw [decide_eq_false h4]
          rfl
      · rw [if_neg h3]
        rfl
    · rw [if_neg h2]
      rfl
  · rw [if_neg h1]
    rfl

end Go.Proofs.Ytkkdabdceooakaa.Pure
