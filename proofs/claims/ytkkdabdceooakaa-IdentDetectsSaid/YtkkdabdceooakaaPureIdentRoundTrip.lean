/- For every kind and number: Print refuses those that are not valid, and what it prints of valid ones has 14 bytes and is parsed as them. No further condition. -/
import Derived.Test.YtkkdabdceooakaaBase3
namespace Go.Proofs.Ytkkdabdceooakaa.Pure
open Go.RowKit Go.Proofs.Ytkkdabdceooakaa.QIdent Go.Proofs.Ytkkdabdceooakaa.Base Go.Proofs.Ytkkdabdceooakaa.Conv

theorem valid_tells (a b : Int) : examboardlaw09_valid.f a b = some (decide (1 ≤ a ∧ a ≤ 6 ∧ 1 ≤ b ∧ b ≤ 9999999)) := by
  unfold examboardlaw09_valid.f
  by_cases h1 : a ≥ 1
  · rw [if_pos h1]
    by_cases h2 : a ≤ 6
    · rw [if_pos h2]
      by_cases h3 : b ≥ 1
      · rw [if_pos h3]
        by_cases h4 : b ≤ 9999999
        · rw [decide_eq_true h4, decide_eq_true ⟨h1, h2, h3, h4⟩]
        · rw [decide_eq_false h4, decide_eq_false (fun h => h4 h.2.2.2)]
      · rw [if_neg h3, decide_eq_false (fun h => h3 h.2.2.1)]
    · rw [if_neg h2, decide_eq_false (fun h => h2 h.2.1)]
  · rw [if_neg h1, decide_eq_false (fun h => h1 h.1)]

theorem IdentRoundTrip : examboardlaw09_IdentRoundTrip.Pure := by
  intro a b _ _
  refine ⟨27, ?_⟩
  unfold examboardlaw09_IdentRoundTrip.f
  rw [show (27 : Nat) = 19 + 8 from rfl, Print_tells 19 a b, valid_tells a b]
  simp only [Option.bind_some]
  unfold printV
  by_cases h1 : a < 1 ∨ 6 < a
  · rw [if_pos h1, decide_eq_false (by omega), if_neg (by decide)]
    rfl
  · rw [if_neg h1]
    by_cases h2 : b < 1 ∨ 9999999 < b
    · rw [if_pos h2, decide_eq_false (by omega), if_neg (by decide)]
      rfl
    · rw [if_neg h2, decide_eq_true (by omega), if_pos rfl]
      rw [show (19 : Nat) + 8 = 0 + 27 from rfl, Parse_tells 0 _]
      simp only [Option.bind_some, if_true]
      have hl := idL_length a b (by omega) (by omega)
      have hp : parseS (strOfNums (idL a b)) = (a, b, 0) := by
        unfold parseS
        rw [size_of, if_pos hl, nums_str _ (idL_bytes a b (by omega) (by omega)), parse_print a b (by omega) (by omega) (by omega) (by omega)]
      rw [hp, size_of, hl]
      simp only [if_true]
      rfl

end Go.Proofs.Ytkkdabdceooakaa.Pure
