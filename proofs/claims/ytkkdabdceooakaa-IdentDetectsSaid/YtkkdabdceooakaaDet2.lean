import Derived.Test.YtkkdabdceooakaaDet
import Derived.Test.YtkkdabdceooakaaPureIdentRoundTrip
namespace Go.Proofs.Ytkkdabdceooakaa.Det
open Go.RowKit Go.Proofs.Ytkkdabdceooakaa.QIdent Go.Proofs.YtkkdabdceooakaaW.PrintWords Go.Proofs.YtkkdabdceooakaaW.PrintLast Go.Proofs.Ytkkdabdceooakaa.Conv Go.Proofs.Ytkkdabdceooakaa.Base

theorem preL_inj (a b : Int) (h1 : 1 ≤ a) (h2 : a ≤ 6) (h3 : 1 ≤ b) (h4 : b ≤ 6) (h : preL a = preL b) : a = b := by
  rw [← kindV_pre a h1 h2, h, kindV_pre b h3 h4]
/-- What an accepted identifier of this kind says of its digits. -/
theorem accepted (a p0 p1 p2 z0 z1 z2 z3 z4 z5 z6 u0 u1 : Int) (h1 : 1 ≤ a) (h2 : a ≤ 6) (hp : preL a = [p0, p1, p2]) (h : (parseV [p0, p1, p2, 45, z0, z1, z2, z3, z4, z5, z6, 45, u0, u1]).2.2 = 0) :
    chk a (1000000 * (z0 - 48) + 100000 * (z1 - 48) + 10000 * (z2 - 48) + 1000 * (z3 - 48) + 100 * (z4 - 48) + 10 * (z5 - 48) + (z6 - 48)) = 10 * (u0 - 48) + (u1 - 48) := by
  rcases parse_ok p0 p1 p2 45 z0 z1 z2 z3 z4 z5 z6 45 u0 u1 _ rfl with ⟨h0, _⟩ | ⟨_, _, _, g1, g2, hpp, hn, h7, hc⟩
  · exact absurd h h0
  · generalize (parseV [p0, p1, p2, 45, z0, z1, z2, z3, z4, z5, z6, 45, u0, u1]).1 = b at *
    generalize (parseV [p0, p1, p2, 45, z0, z1, z2, z3, z4, z5, z6, 45, u0, u1]).2.1 = n at *
    obtain rfl := preL_inj a b h1 h2 g1 g2 (hp.trans hpp)
    rw [numV_seven] at h7
    rw [numV_two] at hc
    obtain ⟨_, _, _, _, _, _, _, _, _, _, _, _, _, _, e⟩ := h7
    rw [← e, hc.2.2.2.2]

theorem chk_diff (a m n : Int) : ∃ t, chk a m - chk a n + (m - n) * 100 = 97 * t := by
  unfold chk
  exact ⟨(a * 10000000 + m) * 100 / 97 - (a * 10000000 + n) * 100 / 97, by omega⟩
/-- The kind, the number and their digits. -/
structure Dig (a n p0 p1 p2 x0 x1 x2 x3 x4 x5 x6 y0 y1 : Int) : Prop where
  h1 : 1 ≤ a
  h2 : a ≤ 6
  hp : preL a = [p0, p1, p2]
  hn : n = 1000000 * x0 + 100000 * x1 + 10000 * x2 + 1000 * x3 + 100 * x4 + 10 * x5 + x6
  hc : chk a n = 10 * y0 + y1
  x0 : 0 ≤ x0 ∧ x0 ≤ 9
  x1 : 0 ≤ x1 ∧ x1 ≤ 9
  x2 : 0 ≤ x2 ∧ x2 ≤ 9
  x3 : 0 ≤ x3 ∧ x3 ≤ 9
  x4 : 0 ≤ x4 ∧ x4 ≤ 9
  x5 : 0 ≤ x5 ∧ x5 ≤ 9
  x6 : 0 ≤ x6 ∧ x6 ≤ 9
  y0 : 0 ≤ y0 ∧ y0 ≤ 9
  y1 : 0 ≤ y1 ∧ y1 ≤ 9
theorem wrong0 (a n p0 p1 p2 x0 x1 x2 x3 x4 x5 x6 y0 y1 : Int) (D : Dig a n p0 p1 p2 x0 x1 x2 x3 x4 x5 x6 y0 y1) (e : Int) (he0 : 0 ≤ e) (he1 : e ≤ 9) (hne : x0 ≠ e) (h : (parseV [p0, p1, p2, 45, 48 + e, 48 + x1, 48 + x2, 48 + x3, 48 + x4, 48 + x5, 48 + x6, 45, 48 + y0, 48 + y1]).2.2 = 0) : False := by
  have hh := accepted a p0 p1 p2 _ _ _ _ _ _ _ _ _ D.h1 D.h2 D.hp h
  obtain ⟨t, ht⟩ := chk_diff a _ n
  rw [hh, D.hc] at ht
  have hn := D.hn
  clear hh h
  have b0 := D.x0
  clear D
  have g : (e - x0) * 100000000 = 97 * t := by
    rw [← ht, hn]
    clear ht hn
    omega
  clear ht hn
  omega
theorem wrong1 (a n p0 p1 p2 x0 x1 x2 x3 x4 x5 x6 y0 y1 : Int) (D : Dig a n p0 p1 p2 x0 x1 x2 x3 x4 x5 x6 y0 y1) (e : Int) (he0 : 0 ≤ e) (he1 : e ≤ 9) (hne : x1 ≠ e) (h : (parseV [p0, p1, p2, 45, 48 + x0, 48 + e, 48 + x2, 48 + x3, 48 + x4, 48 + x5, 48 + x6, 45, 48 + y0, 48 + y1]).2.2 = 0) : False := by
  have hh := accepted a p0 p1 p2 _ _ _ _ _ _ _ _ _ D.h1 D.h2 D.hp h
  obtain ⟨t, ht⟩ := chk_diff a _ n
  rw [hh, D.hc] at ht
  have hn := D.hn
  clear hh h
  have b0 := D.x1
  clear D
  have g : (e - x1) * 10000000 = 97 * t := by
    rw [← ht, hn]
    clear ht hn
    omega
  clear ht hn
  omega
theorem wrong2 (a n p0 p1 p2 x0 x1 x2 x3 x4 x5 x6 y0 y1 : Int) (D : Dig a n p0 p1 p2 x0 x1 x2 x3 x4 x5 x6 y0 y1) (e : Int) (he0 : 0 ≤ e) (he1 : e ≤ 9) (hne : x2 ≠ e) (h : (parseV [p0, p1, p2, 45, 48 + x0, 48 + x1, 48 + e, 48 + x3, 48 + x4, 48 + x5, 48 + x6, 45, 48 + y0, 48 + y1]).2.2 = 0) : False := by
  have hh := accepted a p0 p1 p2 _ _ _ _ _ _ _ _ _ D.h1 D.h2 D.hp h
  obtain ⟨t, ht⟩ := chk_diff a _ n
  rw [hh, D.hc] at ht
  have hn := D.hn
  clear hh h
  have b0 := D.x2
  clear D
  have g : (e - x2) * 1000000 = 97 * t := by
    rw [← ht, hn]
    clear ht hn
    omega
  clear ht hn
  omega
theorem wrong3 (a n p0 p1 p2 x0 x1 x2 x3 x4 x5 x6 y0 y1 : Int) (D : Dig a n p0 p1 p2 x0 x1 x2 x3 x4 x5 x6 y0 y1) (e : Int) (he0 : 0 ≤ e) (he1 : e ≤ 9) (hne : x3 ≠ e) (h : (parseV [p0, p1, p2, 45, 48 + x0, 48 + x1, 48 + x2, 48 + e, 48 + x4, 48 + x5, 48 + x6, 45, 48 + y0, 48 + y1]).2.2 = 0) : False := by
  have hh := accepted a p0 p1 p2 _ _ _ _ _ _ _ _ _ D.h1 D.h2 D.hp h
  obtain ⟨t, ht⟩ := chk_diff a _ n
  rw [hh, D.hc] at ht
  have hn := D.hn
  clear hh h
  have b0 := D.x3
  clear D
  have g : (e - x3) * 100000 = 97 * t := by
    rw [← ht, hn]
    clear ht hn
    omega
  clear ht hn
  omega
theorem wrong4 (a n p0 p1 p2 x0 x1 x2 x3 x4 x5 x6 y0 y1 : Int) (D : Dig a n p0 p1 p2 x0 x1 x2 x3 x4 x5 x6 y0 y1) (e : Int) (he0 : 0 ≤ e) (he1 : e ≤ 9) (hne : x4 ≠ e) (h : (parseV [p0, p1, p2, 45, 48 + x0, 48 + x1, 48 + x2, 48 + x3, 48 + e, 48 + x5, 48 + x6, 45, 48 + y0, 48 + y1]).2.2 = 0) : False := by
  have hh := accepted a p0 p1 p2 _ _ _ _ _ _ _ _ _ D.h1 D.h2 D.hp h
  obtain ⟨t, ht⟩ := chk_diff a _ n
  rw [hh, D.hc] at ht
  have hn := D.hn
  clear hh h
  have b0 := D.x4
  clear D
  have g : (e - x4) * 10000 = 97 * t := by
    rw [← ht, hn]
    clear ht hn
    omega
  clear ht hn
  omega
theorem wrong5 (a n p0 p1 p2 x0 x1 x2 x3 x4 x5 x6 y0 y1 : Int) (D : Dig a n p0 p1 p2 x0 x1 x2 x3 x4 x5 x6 y0 y1) (e : Int) (he0 : 0 ≤ e) (he1 : e ≤ 9) (hne : x5 ≠ e) (h : (parseV [p0, p1, p2, 45, 48 + x0, 48 + x1, 48 + x2, 48 + x3, 48 + x4, 48 + e, 48 + x6, 45, 48 + y0, 48 + y1]).2.2 = 0) : False := by
  have hh := accepted a p0 p1 p2 _ _ _ _ _ _ _ _ _ D.h1 D.h2 D.hp h
  obtain ⟨t, ht⟩ := chk_diff a _ n
  rw [hh, D.hc] at ht
  have hn := D.hn
  clear hh h
  have b0 := D.x5
  clear D
  have g : (e - x5) * 1000 = 97 * t := by
    rw [← ht, hn]
    clear ht hn
    omega
  clear ht hn
  omega
theorem wrong6 (a n p0 p1 p2 x0 x1 x2 x3 x4 x5 x6 y0 y1 : Int) (D : Dig a n p0 p1 p2 x0 x1 x2 x3 x4 x5 x6 y0 y1) (e : Int) (he0 : 0 ≤ e) (he1 : e ≤ 9) (hne : x6 ≠ e) (h : (parseV [p0, p1, p2, 45, 48 + x0, 48 + x1, 48 + x2, 48 + x3, 48 + x4, 48 + x5, 48 + e, 45, 48 + y0, 48 + y1]).2.2 = 0) : False := by
  have hh := accepted a p0 p1 p2 _ _ _ _ _ _ _ _ _ D.h1 D.h2 D.hp h
  obtain ⟨t, ht⟩ := chk_diff a _ n
  rw [hh, D.hc] at ht
  have hn := D.hn
  clear hh h
  have b0 := D.x6
  clear D
  have g : (e - x6) * 100 = 97 * t := by
    rw [← ht, hn]
    clear ht hn
    omega
  clear ht hn
  omega
theorem wrong7 (a n p0 p1 p2 x0 x1 x2 x3 x4 x5 x6 y0 y1 : Int) (D : Dig a n p0 p1 p2 x0 x1 x2 x3 x4 x5 x6 y0 y1) (e : Int) (he0 : 0 ≤ e) (he1 : e ≤ 9) (hne : y0 ≠ e) (h : (parseV [p0, p1, p2, 45, 48 + x0, 48 + x1, 48 + x2, 48 + x3, 48 + x4, 48 + x5, 48 + x6, 45, 48 + e, 48 + y1]).2.2 = 0) : False := by
  have hh := accepted a p0 p1 p2 _ _ _ _ _ _ _ _ _ D.h1 D.h2 D.hp h
  obtain ⟨t, ht⟩ := chk_diff a _ n
  rw [hh, D.hc] at ht
  have hn := D.hn
  clear hh h
  have b0 := D.y0
  clear D
  have g : (e - y0) * 10 = 97 * t := by
    rw [← ht, hn]
    clear ht hn
    omega
  clear ht hn
  omega
theorem wrong8 (a n p0 p1 p2 x0 x1 x2 x3 x4 x5 x6 y0 y1 : Int) (D : Dig a n p0 p1 p2 x0 x1 x2 x3 x4 x5 x6 y0 y1) (e : Int) (he0 : 0 ≤ e) (he1 : e ≤ 9) (hne : y1 ≠ e) (h : (parseV [p0, p1, p2, 45, 48 + x0, 48 + x1, 48 + x2, 48 + x3, 48 + x4, 48 + x5, 48 + x6, 45, 48 + y0, 48 + e]).2.2 = 0) : False := by
  have hh := accepted a p0 p1 p2 _ _ _ _ _ _ _ _ _ D.h1 D.h2 D.hp h
  obtain ⟨t, ht⟩ := chk_diff a _ n
  rw [hh, D.hc] at ht
  have hn := D.hn
  clear hh h
  have b0 := D.y1
  clear D
  have g : (e - y1) * 1 = 97 * t := by
    rw [← ht, hn]
    clear ht hn
    omega
  clear ht hn
  omega
theorem swap0 (a n p0 p1 p2 x0 x1 x2 x3 x4 x5 x6 y0 y1 : Int) (D : Dig a n p0 p1 p2 x0 x1 x2 x3 x4 x5 x6 y0 y1) (hne : x0 ≠ x1) (h : (parseV [p0, p1, p2, 45, 48 + x1, 48 + x0, 48 + x2, 48 + x3, 48 + x4, 48 + x5, 48 + x6, 45, 48 + y0, 48 + y1]).2.2 = 0) : False := by
  have hh := accepted a p0 p1 p2 _ _ _ _ _ _ _ _ _ D.h1 D.h2 D.hp h
  obtain ⟨t, ht⟩ := chk_diff a _ n
  rw [hh, D.hc] at ht
  have hn := D.hn
  clear hh h
  have b0 := D.x0
  have b1 := D.x1
  clear D
  have g : (x1 - x0) * 90000000 = 97 * t := by
    rw [← ht, hn]
    clear ht hn
    omega
  clear ht hn
  omega
theorem swap1 (a n p0 p1 p2 x0 x1 x2 x3 x4 x5 x6 y0 y1 : Int) (D : Dig a n p0 p1 p2 x0 x1 x2 x3 x4 x5 x6 y0 y1) (hne : x1 ≠ x2) (h : (parseV [p0, p1, p2, 45, 48 + x0, 48 + x2, 48 + x1, 48 + x3, 48 + x4, 48 + x5, 48 + x6, 45, 48 + y0, 48 + y1]).2.2 = 0) : False := by
  have hh := accepted a p0 p1 p2 _ _ _ _ _ _ _ _ _ D.h1 D.h2 D.hp h
  obtain ⟨t, ht⟩ := chk_diff a _ n
  rw [hh, D.hc] at ht
  have hn := D.hn
  clear hh h
  have b0 := D.x1
  have b1 := D.x2
  clear D
  have g : (x2 - x1) * 9000000 = 97 * t := by
    rw [← ht, hn]
    clear ht hn
    omega
  clear ht hn
  omega
theorem swap2 (a n p0 p1 p2 x0 x1 x2 x3 x4 x5 x6 y0 y1 : Int) (D : Dig a n p0 p1 p2 x0 x1 x2 x3 x4 x5 x6 y0 y1) (hne : x2 ≠ x3) (h : (parseV [p0, p1, p2, 45, 48 + x0, 48 + x1, 48 + x3, 48 + x2, 48 + x4, 48 + x5, 48 + x6, 45, 48 + y0, 48 + y1]).2.2 = 0) : False := by
  have hh := accepted a p0 p1 p2 _ _ _ _ _ _ _ _ _ D.h1 D.h2 D.hp h
  obtain ⟨t, ht⟩ := chk_diff a _ n
  rw [hh, D.hc] at ht
  have hn := D.hn
  clear hh h
  have b0 := D.x2
  have b1 := D.x3
  clear D
  have g : (x3 - x2) * 900000 = 97 * t := by
    rw [← ht, hn]
    clear ht hn
    omega
  clear ht hn
  omega
theorem swap3 (a n p0 p1 p2 x0 x1 x2 x3 x4 x5 x6 y0 y1 : Int) (D : Dig a n p0 p1 p2 x0 x1 x2 x3 x4 x5 x6 y0 y1) (hne : x3 ≠ x4) (h : (parseV [p0, p1, p2, 45, 48 + x0, 48 + x1, 48 + x2, 48 + x4, 48 + x3, 48 + x5, 48 + x6, 45, 48 + y0, 48 + y1]).2.2 = 0) : False := by
  have hh := accepted a p0 p1 p2 _ _ _ _ _ _ _ _ _ D.h1 D.h2 D.hp h
  obtain ⟨t, ht⟩ := chk_diff a _ n
  rw [hh, D.hc] at ht
  have hn := D.hn
  clear hh h
  have b0 := D.x3
  have b1 := D.x4
  clear D
  have g : (x4 - x3) * 90000 = 97 * t := by
    rw [← ht, hn]
    clear ht hn
    omega
  clear ht hn
  omega
theorem swap4 (a n p0 p1 p2 x0 x1 x2 x3 x4 x5 x6 y0 y1 : Int) (D : Dig a n p0 p1 p2 x0 x1 x2 x3 x4 x5 x6 y0 y1) (hne : x4 ≠ x5) (h : (parseV [p0, p1, p2, 45, 48 + x0, 48 + x1, 48 + x2, 48 + x3, 48 + x5, 48 + x4, 48 + x6, 45, 48 + y0, 48 + y1]).2.2 = 0) : False := by
  have hh := accepted a p0 p1 p2 _ _ _ _ _ _ _ _ _ D.h1 D.h2 D.hp h
  obtain ⟨t, ht⟩ := chk_diff a _ n
  rw [hh, D.hc] at ht
  have hn := D.hn
  clear hh h
  have b0 := D.x4
  have b1 := D.x5
  clear D
  have g : (x5 - x4) * 9000 = 97 * t := by
    rw [← ht, hn]
    clear ht hn
    omega
  clear ht hn
  omega
theorem swap5 (a n p0 p1 p2 x0 x1 x2 x3 x4 x5 x6 y0 y1 : Int) (D : Dig a n p0 p1 p2 x0 x1 x2 x3 x4 x5 x6 y0 y1) (hne : x5 ≠ x6) (h : (parseV [p0, p1, p2, 45, 48 + x0, 48 + x1, 48 + x2, 48 + x3, 48 + x4, 48 + x6, 48 + x5, 45, 48 + y0, 48 + y1]).2.2 = 0) : False := by
  have hh := accepted a p0 p1 p2 _ _ _ _ _ _ _ _ _ D.h1 D.h2 D.hp h
  obtain ⟨t, ht⟩ := chk_diff a _ n
  rw [hh, D.hc] at ht
  have hn := D.hn
  clear hh h
  have b0 := D.x5
  have b1 := D.x6
  clear D
  have g : (x6 - x5) * 900 = 97 * t := by
    rw [← ht, hn]
    clear ht hn
    omega
  clear ht hn
  omega
theorem swap6 (a n p0 p1 p2 x0 x1 x2 x3 x4 x5 x6 y0 y1 : Int) (D : Dig a n p0 p1 p2 x0 x1 x2 x3 x4 x5 x6 y0 y1) (hne : x6 ≠ y0) (h : (parseV [p0, p1, p2, 45, 48 + x0, 48 + x1, 48 + x2, 48 + x3, 48 + x4, 48 + x5, 48 + y0, 45, 48 + x6, 48 + y1]).2.2 = 0) : False := by
  have hh := accepted a p0 p1 p2 _ _ _ _ _ _ _ _ _ D.h1 D.h2 D.hp h
  obtain ⟨t, ht⟩ := chk_diff a _ n
  rw [hh, D.hc] at ht
  have hn := D.hn
  clear hh h
  have b0 := D.x6
  have b1 := D.y0
  clear D
  have g : (y0 - x6) * 90 = 97 * t := by
    rw [← ht, hn]
    clear ht hn
    omega
  clear ht hn
  omega
theorem swap7 (a n p0 p1 p2 x0 x1 x2 x3 x4 x5 x6 y0 y1 : Int) (D : Dig a n p0 p1 p2 x0 x1 x2 x3 x4 x5 x6 y0 y1) (hne : y0 ≠ y1) (h : (parseV [p0, p1, p2, 45, 48 + x0, 48 + x1, 48 + x2, 48 + x3, 48 + x4, 48 + x5, 48 + x6, 45, 48 + y1, 48 + y0]).2.2 = 0) : False := by
  have hh := accepted a p0 p1 p2 _ _ _ _ _ _ _ _ _ D.h1 D.h2 D.hp h
  obtain ⟨t, ht⟩ := chk_diff a _ n
  rw [hh, D.hc] at ht
  have hn := D.hn
  clear hh h
  have b0 := D.y0
  have b1 := D.y1
  clear D
  have g : (y1 - y0) * 9 = 97 * t := by
    rw [← ht, hn]
    clear ht hn
    omega
  clear ht hn
  omega


/-- Where digit number i stands. -/
def pl (i : Nat) : Nat := if i < 7 then 4 + i else 5 + i
/-- A wrong digit is detected. -/
theorem wrong_digit (a n e : Int) (h1 : 1 ≤ a) (h2 : a ≤ 6) (h3 : 1 ≤ n) (h4 : n ≤ 9999999) (he0 : 0 ≤ e) (he1 : e ≤ 9) (i : Nat) (hi : i < 9) (hne : (idL a n).getD (pl i) 0 ≠ 48 + e) :
    (parseV ((idL a n).set (pl i) (48 + e))).2.2 ≠ 0 := by
  obtain ⟨p0, p1, p2, hp, hid⟩ := idL_fourteen a n h1 h2
  rw [hid] at hne ⊢
  intro h
  have hn : n = 1000000 * (n / 1000000 % 10) + 100000 * (n / 100000 % 10) + 10000 * (n / 10000 % 10) + 1000 * (n / 1000 % 10) + 100 * (n / 100 % 10) + 10 * (n / 10 % 10) + n % 10 := by omega
  have hc : chk a n = 10 * (chk a n / 10 % 10) + chk a n % 10 := by have := chk_range a n; omega
  have b0 : 0 ≤ n / 1000000 % 10 ∧ n / 1000000 % 10 ≤ 9 := by omega
  have b1 : 0 ≤ n / 100000 % 10 ∧ n / 100000 % 10 ≤ 9 := by omega
  have b2 : 0 ≤ n / 10000 % 10 ∧ n / 10000 % 10 ≤ 9 := by omega
  have b3 : 0 ≤ n / 1000 % 10 ∧ n / 1000 % 10 ≤ 9 := by omega
  have b4 : 0 ≤ n / 100 % 10 ∧ n / 100 % 10 ≤ 9 := by omega
  have b5 : 0 ≤ n / 10 % 10 ∧ n / 10 % 10 ≤ 9 := by omega
  have b6 : 0 ≤ n % 10 ∧ n % 10 ≤ 9 := by omega
  have b7 : 0 ≤ chk a n / 10 % 10 ∧ chk a n / 10 % 10 ≤ 9 := by omega
  have b8 : 0 ≤ chk a n % 10 ∧ chk a n % 10 ≤ 9 := by omega
  match i, hi with
  | 0, _ => exact wrong0 a n p0 p1 p2 _ _ _ _ _ _ _ _ _ ⟨h1, h2, hp, hn, hc, b0, b1, b2, b3, b4, b5, b6, b7, b8⟩ e he0 he1 (fun he => hne (congrArg (fun z => 48 + z) he)) h
  | 1, _ => exact wrong1 a n p0 p1 p2 _ _ _ _ _ _ _ _ _ ⟨h1, h2, hp, hn, hc, b0, b1, b2, b3, b4, b5, b6, b7, b8⟩ e he0 he1 (fun he => hne (congrArg (fun z => 48 + z) he)) h
  | 2, _ => exact wrong2 a n p0 p1 p2 _ _ _ _ _ _ _ _ _ ⟨h1, h2, hp, hn, hc, b0, b1, b2, b3, b4, b5, b6, b7, b8⟩ e he0 he1 (fun he => hne (congrArg (fun z => 48 + z) he)) h
  | 3, _ => exact wrong3 a n p0 p1 p2 _ _ _ _ _ _ _ _ _ ⟨h1, h2, hp, hn, hc, b0, b1, b2, b3, b4, b5, b6, b7, b8⟩ e he0 he1 (fun he => hne (congrArg (fun z => 48 + z) he)) h
  | 4, _ => exact wrong4 a n p0 p1 p2 _ _ _ _ _ _ _ _ _ ⟨h1, h2, hp, hn, hc, b0, b1, b2, b3, b4, b5, b6, b7, b8⟩ e he0 he1 (fun he => hne (congrArg (fun z => 48 + z) he)) h
  | 5, _ => exact wrong5 a n p0 p1 p2 _ _ _ _ _ _ _ _ _ ⟨h1, h2, hp, hn, hc, b0, b1, b2, b3, b4, b5, b6, b7, b8⟩ e he0 he1 (fun he => hne (congrArg (fun z => 48 + z) he)) h
  | 6, _ => exact wrong6 a n p0 p1 p2 _ _ _ _ _ _ _ _ _ ⟨h1, h2, hp, hn, hc, b0, b1, b2, b3, b4, b5, b6, b7, b8⟩ e he0 he1 (fun he => hne (congrArg (fun z => 48 + z) he)) h
  | 7, _ => exact wrong7 a n p0 p1 p2 _ _ _ _ _ _ _ _ _ ⟨h1, h2, hp, hn, hc, b0, b1, b2, b3, b4, b5, b6, b7, b8⟩ e he0 he1 (fun he => hne (congrArg (fun z => 48 + z) he)) h
  | 8, _ => exact wrong8 a n p0 p1 p2 _ _ _ _ _ _ _ _ _ ⟨h1, h2, hp, hn, hc, b0, b1, b2, b3, b4, b5, b6, b7, b8⟩ e he0 he1 (fun he => hne (congrArg (fun z => 48 + z) he)) h
/-- An exchange of two adjacent digits is detected. -/
theorem exchange (a n : Int) (h1 : 1 ≤ a) (h2 : a ≤ 6) (h3 : 1 ≤ n) (h4 : n ≤ 9999999) (i : Nat) (hi : i < 8) (hne : (idL a n).getD (pl i) 0 ≠ (idL a n).getD (pl (i + 1)) 0) :
    (parseV (((idL a n).set (pl i) ((idL a n).getD (pl (i + 1)) 0)).set (pl (i + 1)) ((idL a n).getD (pl i) 0))).2.2 ≠ 0 := by
  obtain ⟨p0, p1, p2, hp, hid⟩ := idL_fourteen a n h1 h2
  rw [hid] at hne ⊢
  intro h
  have hn : n = 1000000 * (n / 1000000 % 10) + 100000 * (n / 100000 % 10) + 10000 * (n / 10000 % 10) + 1000 * (n / 1000 % 10) + 100 * (n / 100 % 10) + 10 * (n / 10 % 10) + n % 10 := by omega
  have hc : chk a n = 10 * (chk a n / 10 % 10) + chk a n % 10 := by have := chk_range a n; omega
  have b0 : 0 ≤ n / 1000000 % 10 ∧ n / 1000000 % 10 ≤ 9 := by omega
  have b1 : 0 ≤ n / 100000 % 10 ∧ n / 100000 % 10 ≤ 9 := by omega
  have b2 : 0 ≤ n / 10000 % 10 ∧ n / 10000 % 10 ≤ 9 := by omega
  have b3 : 0 ≤ n / 1000 % 10 ∧ n / 1000 % 10 ≤ 9 := by omega
  have b4 : 0 ≤ n / 100 % 10 ∧ n / 100 % 10 ≤ 9 := by omega
  have b5 : 0 ≤ n / 10 % 10 ∧ n / 10 % 10 ≤ 9 := by omega
  have b6 : 0 ≤ n % 10 ∧ n % 10 ≤ 9 := by omega
  have b7 : 0 ≤ chk a n / 10 % 10 ∧ chk a n / 10 % 10 ≤ 9 := by omega
  have b8 : 0 ≤ chk a n % 10 ∧ chk a n % 10 ≤ 9 := by omega
  match i, hi with
  | 0, _ => exact swap0 a n p0 p1 p2 _ _ _ _ _ _ _ _ _ ⟨h1, h2, hp, hn, hc, b0, b1, b2, b3, b4, b5, b6, b7, b8⟩ (fun he => hne (congrArg (fun z => 48 + z) he)) h
  | 1, _ => exact swap1 a n p0 p1 p2 _ _ _ _ _ _ _ _ _ ⟨h1, h2, hp, hn, hc, b0, b1, b2, b3, b4, b5, b6, b7, b8⟩ (fun he => hne (congrArg (fun z => 48 + z) he)) h
  | 2, _ => exact swap2 a n p0 p1 p2 _ _ _ _ _ _ _ _ _ ⟨h1, h2, hp, hn, hc, b0, b1, b2, b3, b4, b5, b6, b7, b8⟩ (fun he => hne (congrArg (fun z => 48 + z) he)) h
  | 3, _ => exact swap3 a n p0 p1 p2 _ _ _ _ _ _ _ _ _ ⟨h1, h2, hp, hn, hc, b0, b1, b2, b3, b4, b5, b6, b7, b8⟩ (fun he => hne (congrArg (fun z => 48 + z) he)) h
  | 4, _ => exact swap4 a n p0 p1 p2 _ _ _ _ _ _ _ _ _ ⟨h1, h2, hp, hn, hc, b0, b1, b2, b3, b4, b5, b6, b7, b8⟩ (fun he => hne (congrArg (fun z => 48 + z) he)) h
  | 5, _ => exact swap5 a n p0 p1 p2 _ _ _ _ _ _ _ _ _ ⟨h1, h2, hp, hn, hc, b0, b1, b2, b3, b4, b5, b6, b7, b8⟩ (fun he => hne (congrArg (fun z => 48 + z) he)) h
  | 6, _ => exact swap6 a n p0 p1 p2 _ _ _ _ _ _ _ _ _ ⟨h1, h2, hp, hn, hc, b0, b1, b2, b3, b4, b5, b6, b7, b8⟩ (fun he => hne (congrArg (fun z => 48 + z) he)) h
  | 7, _ => exact swap7 a n p0 p1 p2 _ _ _ _ _ _ _ _ _ ⟨h1, h2, hp, hn, hc, b0, b1, b2, b3, b4, b5, b6, b7, b8⟩ (fun he => hne (congrArg (fun z => 48 + z) he)) h
end Go.Proofs.Ytkkdabdceooakaa.Det
