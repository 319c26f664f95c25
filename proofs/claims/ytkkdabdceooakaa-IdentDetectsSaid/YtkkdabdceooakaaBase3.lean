import Derived.Test.YtkkdabdceooakaaBase2
namespace Go.Proofs.Ytkkdabdceooakaa.Base
open Go.RowKit Go.Proofs.Ytkkdabdceooakaa.QIdent Go.Proofs.YtkkdabdceooakaaW.PrintWords Go.Proofs.YtkkdabdceooakaaW.PrintLast Go.Proofs.Ytkkdabdceooakaa.Conv

theorem fourteen (l : List Int) (h : l.length = 14) : ∃ b0 b1 b2 b3 b4 b5 b6 b7 b8 b9 b10 b11 b12 b13, l = [b0, b1, b2, b3, b4, b5, b6, b7, b8, b9, b10, b11, b12, b13] := by
  match l, h with
  | [b0, b1, b2, b3, b4, b5, b6, b7, b8, b9, b10, b11, b12, b13], _ => exact ⟨b0, b1, b2, b3, b4, b5, b6, b7, b8, b9, b10, b11, b12, b13, rfl⟩

/-- Seven digits and their number, either way. -/
theorem numV_seven (x0 x1 x2 x3 x4 x5 x6 : Int) (n : Int) : numV [x0, x1, x2, x3, x4, x5, x6] 0 = some n ↔
    (48 ≤ x0 ∧ x0 ≤ 57 ∧ 48 ≤ x1 ∧ x1 ≤ 57 ∧ 48 ≤ x2 ∧ x2 ≤ 57 ∧ 48 ≤ x3 ∧ x3 ≤ 57 ∧ 48 ≤ x4 ∧ x4 ≤ 57 ∧ 48 ≤ x5 ∧ x5 ≤ 57 ∧ 48 ≤ x6 ∧ x6 ≤ 57 ∧
      n = 1000000 * (x0 - 48) + 100000 * (x1 - 48) + 10000 * (x2 - 48) + 1000 * (x3 - 48) + 100 * (x4 - 48) + 10 * (x5 - 48) + (x6 - 48)) := by
  simp only [numV]
  by_cases c0 : x0 < 48 ∨ 57 < x0
  · rw [if_pos c0]; exact ⟨fun h => (by cases h), fun h => (by omega)⟩
  rw [if_neg c0]
  by_cases c1 : x1 < 48 ∨ 57 < x1
  · rw [if_pos c1]; exact ⟨fun h => (by cases h), fun h => (by omega)⟩
  rw [if_neg c1]
  by_cases c2 : x2 < 48 ∨ 57 < x2
  · rw [if_pos c2]; exact ⟨fun h => (by cases h), fun h => (by omega)⟩
  rw [if_neg c2]
  by_cases c3 : x3 < 48 ∨ 57 < x3
  · rw [if_pos c3]; exact ⟨fun h => (by cases h), fun h => (by omega)⟩
  rw [if_neg c3]
  by_cases c4 : x4 < 48 ∨ 57 < x4
  · rw [if_pos c4]; exact ⟨fun h => (by cases h), fun h => (by omega)⟩
  rw [if_neg c4]
  by_cases c5 : x5 < 48 ∨ 57 < x5
  · rw [if_pos c5]; exact ⟨fun h => (by cases h), fun h => (by omega)⟩
  rw [if_neg c5]
  by_cases c6 : x6 < 48 ∨ 57 < x6
  · rw [if_pos c6]; exact ⟨fun h => (by cases h), fun h => (by omega)⟩
  rw [if_neg c6, Option.some.injEq]
  omega
theorem numV_two (x0 x1 : Int) (n : Int) : numV [x0, x1] 0 = some n ↔ (48 ≤ x0 ∧ x0 ≤ 57 ∧ 48 ≤ x1 ∧ x1 ≤ 57 ∧ n = 10 * (x0 - 48) + (x1 - 48)) := by
  simp only [numV]
  by_cases c0 : x0 < 48 ∨ 57 < x0
  · rw [if_pos c0]; exact ⟨fun h => (by cases h), fun h => (by omega)⟩
  rw [if_neg c0]
  by_cases c1 : x1 < 48 ∨ 57 < x1
  · rw [if_pos c1]; exact ⟨fun h => (by cases h), fun h => (by omega)⟩
  rw [if_neg c1, Option.some.injEq]
  omega
theorem numV_d7 (n : Int) (h0 : 0 ≤ n) (h1 : n ≤ 9999999) : numV (d7 n) 0 = some n := by
  unfold d7
  rw [numV_seven]
  omega
theorem numV_d2 (n : Int) (h0 : 0 ≤ n) (h1 : n ≤ 99) : numV (d2 n) 0 = some n := by
  unfold d2
  rw [numV_two]
  omega

/-- An identifier is accepted: what it must be. -/
theorem parse_ok (b0 b1 b2 b3 b4 b5 b6 b7 b8 b9 b10 b11 b12 b13 : Int) (r : Int × Int × Int) (h : parseV [b0, b1, b2, b3, b4, b5, b6, b7, b8, b9, b10, b11, b12, b13] = r) :
    (r.2.2 ≠ 0 ∧ r.1 = 0 ∧ r.2.1 = 0) ∨ (r.2.2 = 0 ∧ b3 = 45 ∧ b11 = 45 ∧ 1 ≤ r.1 ∧ r.1 ≤ 6 ∧ [b0, b1, b2] = preL r.1 ∧ 1 ≤ r.2.1 ∧ numV [b4, b5, b6, b7, b8, b9, b10] 0 = some r.2.1 ∧ numV [b12, b13] 0 = some (chk r.1 r.2.1)) := by
  subst h
  unfold parseV
  have e3 : rd [b0, b1, b2, b3, b4, b5, b6, b7, b8, b9, b10, b11, b12, b13] 3 = b3 := rfl
  have e11 : rd [b0, b1, b2, b3, b4, b5, b6, b7, b8, b9, b10, b11, b12, b13] 11 = b11 := rfl
  have e7 : ([b0, b1, b2, b3, b4, b5, b6, b7, b8, b9, b10, b11, b12, b13].drop 4).take 7 = [b4, b5, b6, b7, b8, b9, b10] := rfl
  have e2 : [b0, b1, b2, b3, b4, b5, b6, b7, b8, b9, b10, b11, b12, b13].drop 12 = [b12, b13] := rfl
  have et : [b0, b1, b2, b3, b4, b5, b6, b7, b8, b9, b10, b11, b12, b13].take 3 = [b0, b1, b2] := rfl
  rw [e3, e11, e7, e2, et]
  by_cases c : b3 = 45 ∧ b11 = 45
  · rw [if_pos c]
    have hn := numV_nonneg [b4, b5, b6, b7, b8, b9, b10] 0
    have hk := kindV_cases [b0, b1, b2]
    generalize numV [b4, b5, b6, b7, b8, b9, b10] 0 = p at *
    generalize numV [b12, b13] 0 = q at *
    generalize kindV [b0, b1, b2] = kd at *
    cases p with
    | none => exact Or.inl ⟨show (2 : Int) ≠ 0 by decide, rfl, rfl⟩
    | some n =>
      cases q with
      | none => exact Or.inl ⟨show (2 : Int) ≠ 0 by decide, rfl, rfl⟩
      | some cc =>
        have h0 := hn n (by omega) rfl
        show (_ ∨ _)
        simp only []
        by_cases hx : kd = 0
        · rw [if_pos hx]; exact Or.inl ⟨by decide, rfl, rfl⟩
        · rw [if_neg hx]
          by_cases h2 : n = 0
          · rw [if_pos h2]; exact Or.inl ⟨by decide, rfl, rfl⟩
          · rw [if_neg h2]
            by_cases h3 : cc = chk kd n
            · rw [if_pos h3]
              rcases hk with hk | hk
              · exact absurd hk.1 hx
              · exact Or.inr ⟨rfl, c.1, c.2, hk.1, hk.2.1, hk.2.2, by show 1 ≤ n; omega, rfl, by rw [h3]⟩
            · rw [if_neg h3]; exact Or.inl ⟨by decide, rfl, rfl⟩
  · rw [if_neg c]
    exact Or.inl ⟨by decide, rfl, rfl⟩
theorem parse_of (b0 b1 b2 b3 b4 b5 b6 b7 b8 b9 b10 b11 b12 b13 : Int) (a n : Int) (h1 : 1 ≤ a) (h2 : a ≤ 6) (hp : [b0, b1, b2] = preL a) (h3 : b3 = 45) (h11 : b11 = 45) (hn : 1 ≤ n)
    (h7 : numV [b4, b5, b6, b7, b8, b9, b10] 0 = some n) (hc : numV [b12, b13] 0 = some (chk a n)) : parseV [b0, b1, b2, b3, b4, b5, b6, b7, b8, b9, b10, b11, b12, b13] = (a, n, 0) := by
  unfold parseV
  have e3 : rd [b0, b1, b2, b3, b4, b5, b6, b7, b8, b9, b10, b11, b12, b13] 3 = b3 := rfl
  have e11 : rd [b0, b1, b2, b3, b4, b5, b6, b7, b8, b9, b10, b11, b12, b13] 11 = b11 := rfl
  have e7 : ([b0, b1, b2, b3, b4, b5, b6, b7, b8, b9, b10, b11, b12, b13].drop 4).take 7 = [b4, b5, b6, b7, b8, b9, b10] := rfl
  have e2 : [b0, b1, b2, b3, b4, b5, b6, b7, b8, b9, b10, b11, b12, b13].drop 12 = [b12, b13] := rfl
  have et : [b0, b1, b2, b3, b4, b5, b6, b7, b8, b9, b10, b11, b12, b13].take 3 = [b0, b1, b2] := rfl
  rw [e3, e11, e7, e2, et, if_pos ⟨h3, h11⟩, h7, hc, hp, kindV_pre a h1 h2]
  simp only []
  rw [if_neg (by omega), if_neg (by omega), if_pos trivial]

/-- The identifier's fourteen bytes. -/
theorem idL_fourteen (a b : Int) (h1 : 1 ≤ a) (h2 : a ≤ 6) : ∃ p0 p1 p2, preL a = [p0, p1, p2] ∧ idL a b = [p0, p1, p2, 45, 48 + b / 1000000 % 10, 48 + b / 100000 % 10, 48 + b / 10000 % 10, 48 + b / 1000 % 10, 48 + b / 100 % 10, 48 + b / 10 % 10, 48 + b % 10, 45, 48 + chk a b / 10 % 10, 48 + chk a b % 10] := by
  unfold idL d7 d2
  rcases six h1 h2 with rfl | rfl | rfl | rfl | rfl | rfl <;> exact ⟨_, _, _, rfl, rfl⟩
theorem idL_bytes (a b : Int) (h1 : 1 ≤ a) (h2 : a ≤ 6) : Bytes (idL a b) := by
  intro x hx
  unfold idL d7 d2 at hx
  have hp := (preL_six a h1 h2).2
  simp only [List.mem_append, List.mem_cons, List.not_mem_nil, or_false] at hx
  rcases hx with hx | hx | (hx | hx | hx | hx | hx | hx | hx) | hx | hx | hx
  · exact hp x hx
  all_goals omega
theorem idL_length (a b : Int) (h1 : 1 ≤ a) (h2 : a ≤ 6) : (idL a b).length = 14 := by
  obtain ⟨p0, p1, p2, _, h⟩ := idL_fourteen a b h1 h2
  rw [h]
  rfl
theorem parse_print (a b : Int) (h1 : 1 ≤ a) (h2 : a ≤ 6) (h3 : 1 ≤ b) (h4 : b ≤ 9999999) : parseV (idL a b) = (a, b, 0) := by
  obtain ⟨p0, p1, p2, hp, h⟩ := idL_fourteen a b h1 h2
  have hc := chk_range a b
  rw [h]
  exact parse_of _ _ _ _ _ _ _ _ _ _ _ _ _ _ a b h1 h2 hp.symm rfl rfl h3 (numV_d7 b (by omega) h4) (numV_d2 _ (by omega) (by omega))
theorem print_parse (l : List Int) (h14 : l.length = 14) (h : (parseV l).2.2 = 0) : 1 ≤ (parseV l).1 ∧ (parseV l).1 ≤ 6 ∧ 1 ≤ (parseV l).2.1 ∧ (parseV l).2.1 ≤ 9999999 ∧ l = idL (parseV l).1 (parseV l).2.1 := by
  obtain ⟨b0, b1, b2, b3, b4, b5, b6, b7, b8, b9, b10, b11, b12, b13, rfl⟩ := fourteen l h14
  rcases parse_ok b0 b1 b2 b3 b4 b5 b6 b7 b8 b9 b10 b11 b12 b13 _ rfl with ⟨h0, _⟩ | ⟨_, h3, h11, h1, h2, hp, hn, h7, hc⟩
  · exact absurd h h0
  · generalize (parseV [b0, b1, b2, b3, b4, b5, b6, b7, b8, b9, b10, b11, b12, b13]).1 = a at *
    generalize (parseV [b0, b1, b2, b3, b4, b5, b6, b7, b8, b9, b10, b11, b12, b13]).2.1 = n at *
    obtain ⟨p0, p1, p2, hpp, hid⟩ := idL_fourteen a n h1 h2
    rw [numV_seven] at h7
    rw [numV_two] at hc
    rw [hpp] at hp
    injection hp with hp0 hp
    injection hp with hp1 hp
    injection hp with hp2 _
    refine ⟨h1, h2, hn, by omega, ?_⟩
    rw [hid, hp0, hp1, hp2, h3, h11]
    have g0 : b4 = 48 + n / 1000000 % 10 := by omega
    have g1 : b5 = 48 + n / 100000 % 10 := by omega
    have g2 : b6 = 48 + n / 10000 % 10 := by omega
    have g3 : b7 = 48 + n / 1000 % 10 := by omega
    have g4 : b8 = 48 + n / 100 % 10 := by omega
    have g5 : b9 = 48 + n / 10 % 10 := by omega
    have g6 : b10 = 48 + n % 10 := by omega
    generalize chk a n = cc at *
    have g7 : b12 = 48 + cc / 10 % 10 := by omega
    have g8 : b13 = 48 + cc % 10 := by omega
    rw [← g0, ← g1, ← g2, ← g3, ← g4, ← g5, ← g6, ← g7, ← g8]
end Go.Proofs.Ytkkdabdceooakaa.Base
