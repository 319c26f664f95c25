/- For every string: if Parse accepts it, its kind and number are valid and Print returns just that string for them; if not, Parse returns zeros; and the identifier of the item 1 is accepted. The one condition is the row's own bound on a string's size. -/
import Derived.Test.YtkkdabdceooakaaPureIdentRoundTrip
namespace Go.Proofs.Ytkkdabdceooakaa.Pure
open Go.RowKit Go.Proofs.Ytkkdabdceooakaa.QIdent Go.Proofs.Ytkkdabdceooakaa.Base Go.Proofs.Ytkkdabdceooakaa.Conv

theorem IdentUnique : examboardlaw09_IdentUnique.Pure := by
  intro s _
  refine ⟨30, ?_⟩
  unfold examboardlaw09_IdentUnique.f
  have e : (⟨#[73, 84, 77, 45, 48, 48, 48, 48, 48, 48, 49, 45, 54, 49]⟩ : ByteArray) = strOfNums (idL 1 1) := by
    obtain ⟨p0, p1, p2, hp, h⟩ := idL_fourteen 1 1 (by decide) (by decide)
    rw [h]
    injection hp with hp0 hp
    injection hp with hp1 hp
    injection hp with hp2 _
    rw [← hp0, ← hp1, ← hp2]
    rfl
  have hp : parseS (strOfNums (idL 1 1)) = (1, 1, 0) := by
    unfold parseS
    rw [size_of, if_pos (idL_length 1 1 (by decide) (by decide)), nums_str _ (idL_bytes 1 1 (by decide) (by decide)), parse_print 1 1 (by decide) (by decide) (by decide) (by decide)]
  rw [e, show (30 : Nat) = 3 + 27 from rfl, Parse_tells 3 _, hp]
  simp only [Option.bind_some, if_true, bne_self_eq_false]
  rw [show (3 : Nat) + 27 = 29 + 1 from rfl]
  simp only [examboardlaw09_IdentUnique.j0]
  rw [if_neg (by decide), show (29 : Nat) = 2 + 27 from rfl, Parse_tells 2 s]
  simp only [Option.bind_some]
  unfold parseS
  by_cases hs : s.size = 14
  · rw [if_pos hs]
    have h14 : (nums8 s).length = 14 := by rw [nums8_length]; exact hs
    by_cases hz : (parseV (nums8 s)).2.2 = 0
    · rw [if_pos hz]
      obtain ⟨h1, h2, h3, h4, hl⟩ := print_parse (nums8 s) h14 hz
      generalize (parseV (nums8 s)).1 = a at *
      generalize (parseV (nums8 s)).2.1 = b at *
      rw [show (2 : Nat) + 27 = 21 + 8 from rfl, Print_tells 21 a b]
      have hv : printV a b = (strOfNums (idL a b), 0) := by
        unfold printV
        rw [if_neg (by omega), if_neg (by omega)]
      rw [hv]
      simp only [Option.bind_some]
      rw [if_pos trivial, if_pos (by rw [← hl, str_nums]), valid_tells a b, decide_eq_true ⟨h1, h2, h3, h4⟩]
      rfl
    · rw [if_neg hz]
      obtain ⟨b0, b1, b2, b3, b4, b5, b6, b7, b8, b9, b10, b11, b12, b13, hb⟩ := fourteen _ h14
      rw [hb] at hz ⊢
      rcases parse_ok b0 b1 b2 b3 b4 b5 b6 b7 b8 b9 b10 b11 b12 b13 _ rfl with ⟨_, h1, h2⟩ | ⟨h, _⟩
      · rw [if_pos h1, h2]
        rfl
      · exact absurd h hz
  · rw [if_neg hs, if_neg (by decide), if_pos rfl]
    rfl

end Go.Proofs.Ytkkdabdceooakaa.Pure
