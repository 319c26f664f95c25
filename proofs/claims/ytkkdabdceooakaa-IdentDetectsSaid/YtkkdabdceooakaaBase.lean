import Derived.Test.YtkkdabdceooakaaQIdentx4
import Derived.Lib.Bytes
namespace Go.Proofs.Ytkkdabdceooakaa.Base
open Go.RowKit Go.Proofs.Ytkkdabdceooakaa.QIdent Go.Proofs.YtkkdabdceooakaaW.PrintWords Go.Proofs.YtkkdabdceooakaaW.PrintLast Go.Proofs.Ytkkdabdceooakaa.Conv

theorem w64 (x : Int) (h0 : -9223372036854775808 ≤ x) (h1 : x ≤ 9223372036854775807) : wrap64 x = x := by
  unfold wrap64
  omega

/-! ### Strings as lists of numbers -/
theorem size_of (xs : List Int) : (strOfNums xs).size = xs.length := strOfNums_size xs
theorem str_append (xs ys : List Int) : strOfNums xs ++ strOfNums ys = strOfNums (xs ++ ys) := by
  apply ByteArray.ext
  apply Array.toList_inj.1
  rw [ByteArray.data_append, Array.toList_append, strOfNums_data, strOfNums_data, strOfNums_data, List.map_append]
theorem str_extract (xs : List Int) (i j : Nat) : (strOfNums xs).extract i j = strOfNums ((xs.drop i).take (j - i)) := by
  apply ByteArray.ext
  apply Array.toList_inj.1
  rw [ByteArray.data_extract, Array.toList_extract, strOfNums_data, strOfNums_data, List.map_take, List.map_drop]
theorem str_nums (s : ByteArray) : strOfNums (nums8 s) = s := by
  apply ByteArray.ext
  apply Array.toList_inj.1
  rw [strOfNums_data]
  unfold nums8
  rw [List.map_map]
  conv => rhs; rw [← List.map_id s.data.toList]
  apply List.map_congr_left
  intro b _
  simp
/-- A list of bytes. -/
def Bytes (l : List Int) : Prop := ∀ x ∈ l, 0 ≤ x ∧ x < 256
theorem nums_bytes (s : ByteArray) : Bytes (nums8 s) := by
  intro x hx
  obtain ⟨b, _, rfl⟩ := List.mem_map.1 hx
  have := b.toNat_lt
  omega
theorem nums_str (l : List Int) (h : Bytes l) : nums8 (strOfNums l) = l := by
  unfold nums8
  rw [strOfNums_data, List.map_map]
  conv => rhs; rw [← List.map_id l]
  apply List.map_congr_left
  intro x hx
  have := h x hx
  simp
  omega
theorem str_inj {l m : List Int} (hl : Bytes l) (hm : Bytes m) (h : strOfNums l = strOfNums m) : l = m := by
  rw [← nums_str l hl, ← nums_str m hm, h]
theorem toList_inj {s t : ByteArray} (h : s.toList = t.toList) : s = t := by
  rw [Lib.toList_data, Lib.toList_data] at h
  apply ByteArray.ext
  exact Array.toList_inj.1 h
theorem bt_str (l : List Int) (h : Bytes l) (i : Int) : bt (strOfNums l) i = rd l i := by
  rw [← rd_nums8, nums_str l h]

/-! ### Check -/
def chk (a b : Int) : Int := 98 - (a * 10000000 + b) * 100 % 97
theorem chk_range (a b : Int) : 2 ≤ chk a b ∧ chk a b ≤ 98 := by unfold chk; omega
theorem check_tells (a b : Int) (h1 : 1 ≤ a) (h2 : a ≤ 6) (h3 : 0 ≤ b) (h4 : b ≤ 9999999) : ident_check.f a b = some (chk a b) := by
  unfold ident_check.f chk
  rw [w64 (a * 10000000) (by omega) (by omega), w64 (a * 10000000 + b) (by omega) (by omega), w64 ((a * 10000000 + b) * 100) (by omega) (by omega), Int.tmod_eq_emod_of_nonneg (by omega), w64 _ (by omega) (by omega)]
def checkV (a b : Int) : Int × Int := if a < 1 ∨ 6 < a then (0, 1) else if b < 1 ∨ 9999999 < b then (0, 3) else (chk a b, 0)
theorem Check_tells (k : Nat) (a b : Int) : ident_Check.f (k + 1) a b = some (checkV a b) := by
  unfold ident_Check.f checkV
  by_cases h1 : a < 1
  · rw [if_pos h1, if_pos (Or.inl h1)]; rfl
  · rw [if_neg h1]
    by_cases h2 : a > 6
    · rw [decide_eq_true h2, if_pos (Or.inr h2)]; rfl
    · rw [decide_eq_false h2, if_neg (by omega)]
      simp only [ident_Check.j0]
      rw [if_neg (by decide)]
      by_cases h3 : b < 1
      · rw [if_pos h3, if_pos (Or.inl h3)]
      · rw [if_neg h3]
        by_cases h4 : b > 9999999
        · rw [if_pos h4, if_pos (Or.inr h4)]
        · rw [if_neg h4, if_neg (by omega), check_tells a b (by omega) (by omega) (by omega) (by omega)]; rfl
/-- The prefix of a kind. -/
def preL (a : Int) : List Int := if a = 1 then [73, 84, 77] else if a = 2 then [70, 82, 77] else if a = 3 then [67, 65, 78] else if a = 4 then [83, 69, 83] else if a = 5 then [82, 65, 84] else if a = 6 then [65, 83, 84] else []
theorem prefix_tells (a : Int) : examboardref09_prefix.f a = some (strOfNums (preL a)) := by
  unfold examboardref09_prefix.f preL
  split
  · rfl
  · split
    · rfl
    · split
      · rfl
      · split
        · rfl
        · split
          · rfl
          · split <;> rfl
theorem six {a : Int} (h1 : 1 ≤ a) (h2 : a ≤ 6) : a = 1 ∨ a = 2 ∨ a = 3 ∨ a = 4 ∨ a = 5 ∨ a = 6 := by omega
theorem preL_six (a : Int) (h1 : 1 ≤ a) (h2 : a ≤ 6) : (preL a).length = 3 ∧ Bytes (preL a) := by
  rcases six h1 h2 with rfl | rfl | rfl | rfl | rfl | rfl <;> exact ⟨rfl, by unfold Bytes; decide⟩
theorem preL_none (a : Int) (h : a < 1 ∨ 6 < a) : preL a = [] := by
  unfold preL
  rw [if_neg (by omega), if_neg (by omega), if_neg (by omega), if_neg (by omega), if_neg (by omega), if_neg (by omega)]
theorem toList_nil_iff (l : List Int) : ((strOfNums l).toList = ([] : List UInt8)) ↔ l = [] := by
  rw [Lib.toList_data, strOfNums_data]
  simp
theorem refCheck_tells (a b : Int) : examboardref09_Check.f a b = some (checkV a b) := by
  unfold examboardref09_Check.f checkV
  rw [prefix_tells]
  simp only [Option.bind_some]
  by_cases h1 : a < 1 ∨ 6 < a
  · rw [if_pos h1, if_pos ((toList_nil_iff _).2 (preL_none a h1))]
  · rw [if_neg h1, if_neg (by rw [toList_nil_iff]; intro h; have := (preL_six a (by omega) (by omega)).1; rw [h] at this; cases this)]
    by_cases h3 : b < 1
    · rw [if_pos h3, if_pos (Or.inl h3)]
    · rw [if_neg h3]
      by_cases h4 : b > 9999999
      · rw [if_pos h4, if_pos (Or.inr h4)]
      · rw [if_neg h4, if_neg (by omega)]
        have := check_tells a b (by omega) (by omega) (by omega) (by omega)
        unfold ident_check.f at this
        rw [Option.some.inj this]

/-! ### Digits -/
def d7 (n : Int) : List Int := [48 + n / 1000000 % 10, 48 + n / 100000 % 10, 48 + n / 10000 % 10, 48 + n / 1000 % 10, 48 + n / 100 % 10, 48 + n / 10 % 10, 48 + n % 10]
def d2 (n : Int) : List Int := [48 + n / 10 % 10, 48 + n % 10]
theorem digit_now (x : Int) (h : 0 ≤ x) : wrap64 (48 + Int.tmod x 10) % 256 = 48 + x % 10 := by
  rw [Int.tmod_eq_emod_of_nonneg h, w64 _ (by omega) (by omega)]
  omega
theorem tenth (x : Int) (h : 0 ≤ x) (h1 : x ≤ 9999999) : wrap64 (Int.tdiv x 10) = x / 10 := by
  rw [Int.tdiv_eq_ediv_of_nonneg h, w64 _ (by omega) (by omega)]
theorem digits_step (k : Nat) (l : List Int) (x i : Int) (hx : 0 ≤ x) (hx1 : x ≤ 9999999) (hi : 0 ≤ i) (hl : i < l.length) (hi1 : i ≤ 100) :
    ident_digits.l0 (k + 1) l x i = ident_digits.l0 k (l.set i.toNat (48 + x % 10)) (x / 10) (i - 1) := by
  simp only [ident_digits.l0]
  rw [if_pos hi, if_pos hi, if_pos hl, digit_now x hx, tenth x hx hx1, w64 (i - 1) (by omega) (by omega)]
theorem digits_end (k : Nat) (l : List Int) (x : Int) : ident_digits.l0 (k + 1) l x (-1) = some (strOfNums l) := by
  simp only [ident_digits.l0]
  rw [if_neg (by omega)]
theorem digits7 (k : Nat) (n : Int) (h0 : 0 ≤ n) (h1 : n ≤ 9999999) : ident_digits.f (k + 8) n 7 = some (strOfNums (d7 n)) := by
  unfold ident_digits.f
  rw [if_pos (by omega), if_pos (by decide), show wrap64 (7 - 1) = 6 by rw [w64 _ (by omega) (by omega)]; rfl, show ((7 : Int).toNat) = 7 from rfl]
  have e : ∀ m : Nat, List.replicate (m + 1) (0 : Int) = 0 :: List.replicate m 0 := fun _ => rfl
  simp only [List.replicate]
  rw [digits_step _ _ _ _ h0 h1 (by omega) (by simp) (by omega)]
  rw [digits_step _ _ _ _ (by omega) (by omega) (by omega) (by simp) (by omega)]
  rw [digits_step _ _ _ _ (by omega) (by omega) (by omega) (by simp) (by omega)]
  rw [digits_step _ _ _ _ (by omega) (by omega) (by omega) (by simp) (by omega)]
  rw [digits_step _ _ _ _ (by omega) (by omega) (by omega) (by simp) (by omega)]
  rw [digits_step _ _ _ _ (by omega) (by omega) (by omega) (by simp) (by omega)]
  rw [digits_step _ _ _ _ (by omega) (by omega) (by omega) (by simp) (by omega)]
  simp only [Int.reduceSub, Int.reduceToNat, digits_end, List.set]
  congr 2
  unfold d7
  rw [show n / 10 / 10 = n / 100 by omega, show n / 100 / 10 = n / 1000 by omega, show n / 1000 / 10 = n / 10000 by omega, show n / 10000 / 10 = n / 100000 by omega, show n / 100000 / 10 = n / 1000000 by omega]
theorem digits2 (k : Nat) (n : Int) (h0 : 0 ≤ n) (h1 : n ≤ 9999999) : ident_digits.f (k + 3) n 2 = some (strOfNums (d2 n)) := by
  unfold ident_digits.f
  rw [if_pos (by omega), if_pos (by decide), show wrap64 (2 - 1) = 1 by rw [w64 _ (by omega) (by omega)]; rfl, show ((2 : Int).toNat) = 2 from rfl]
  simp only [List.replicate]
  rw [digits_step _ _ _ _ h0 h1 (by omega) (by simp) (by omega)]
  rw [digits_step _ _ _ _ (by omega) (by omega) (by omega) (by simp) (by omega)]
  simp only [Int.reduceSub, Int.reduceToNat, digits_end, List.set]
  rfl
theorem refdigits_step (k : Nat) (l : List Int) (x i m : Int) (hx : 0 ≤ x) (hx1 : x ≤ 9999999) (hi : 0 ≤ i) (hl : i < m) (hi1 : i ≤ 100) (hs : l.length ≤ 100) :
    examboardref09_digits.l0 (k + 1) x m (strOfNums l) i = examboardref09_digits.l0 k (x / 10) m (strOfNums ((48 + x % 10) :: l)) (i + 1) := by
  simp only [examboardref09_digits.l0, Option.bind_some]
  rw [if_pos hl, if_pos (by rw [size_of, size_of]; simp; omega), digit_now x hx, tenth x hx hx1, str_append, w64 (i + 1) (by omega) (by omega)]
  rfl
theorem refdigits_end (k : Nat) (x m : Int) (s : ByteArray) : examboardref09_digits.l0 (k + 1) x m s m = some s := by
  simp only [examboardref09_digits.l0]
  rw [if_neg (by omega)]
theorem refdigits7 (k : Nat) (n : Int) (h0 : 0 ≤ n) (h1 : n ≤ 9999999) : examboardref09_digits.f (k + 8) n 7 = some (strOfNums (d7 n)) := by
  unfold examboardref09_digits.f
  rw [show (⟨#[]⟩ : ByteArray) = strOfNums [] from rfl]
  rw [refdigits_step _ _ _ _ _ h0 h1 (by omega) (by omega) (by omega) (by simp)]
  rw [refdigits_step _ _ _ _ _ (by omega) (by omega) (by omega) (by omega) (by omega) (by simp)]
  rw [refdigits_step _ _ _ _ _ (by omega) (by omega) (by omega) (by omega) (by omega) (by simp)]
  rw [refdigits_step _ _ _ _ _ (by omega) (by omega) (by omega) (by omega) (by omega) (by simp)]
  rw [refdigits_step _ _ _ _ _ (by omega) (by omega) (by omega) (by omega) (by omega) (by simp)]
  rw [refdigits_step _ _ _ _ _ (by omega) (by omega) (by omega) (by omega) (by omega) (by simp)]
  rw [refdigits_step _ _ _ _ _ (by omega) (by omega) (by omega) (by omega) (by omega) (by simp)]
  simp only [Int.reduceAdd, refdigits_end]
  congr 2
  unfold d7
  rw [show n / 10 / 10 = n / 100 by omega, show n / 100 / 10 = n / 1000 by omega, show n / 1000 / 10 = n / 10000 by omega, show n / 10000 / 10 = n / 100000 by omega, show n / 100000 / 10 = n / 1000000 by omega]
theorem refdigits2 (k : Nat) (n : Int) (h0 : 0 ≤ n) (h1 : n ≤ 9999999) : examboardref09_digits.f (k + 3) n 2 = some (strOfNums (d2 n)) := by
  unfold examboardref09_digits.f
  rw [show (⟨#[]⟩ : ByteArray) = strOfNums [] from rfl]
  rw [refdigits_step _ _ _ _ _ h0 h1 (by omega) (by omega) (by omega) (by simp)]
  rw [refdigits_step _ _ _ _ _ (by omega) (by omega) (by omega) (by omega) (by omega) (by simp)]
  simp only [Int.reduceAdd, refdigits_end]
  rfl

/-! ### Print -/
/-- The identifier, byte by byte. -/
def idL (a b : Int) : List Int := preL a ++ ([45] ++ (d7 b ++ ([45] ++ d2 (chk a b))))
def printV (a b : Int) : ByteArray × Int := if a < 1 ∨ 6 < a then (strOfNums [], 1) else if b < 1 ∨ 9999999 < b then (strOfNums [], 3) else (strOfNums (idL a b), 0)
theorem prefixes_cut (a : Int) (h1 : 1 ≤ a) (h2 : a ≤ 6) : (⟨#[73, 84, 77, 70, 82, 77, 67, 65, 78, 83, 69, 83, 82, 65, 84, 65, 83, 84]⟩ : ByteArray).extract (3 * a - 3).toNat (3 * a).toNat = strOfNums (preL a) := by
  rw [show (⟨#[73, 84, 77, 70, 82, 77, 67, 65, 78, 83, 69, 83, 82, 65, 84, 65, 83, 84]⟩ : ByteArray) = strOfNums [73, 84, 77, 70, 82, 77, 67, 65, 78, 83, 69, 83, 82, 65, 84, 65, 83, 84] from rfl, str_extract]
  rcases six h1 h2 with rfl | rfl | rfl | rfl | rfl | rfl <;> rfl
theorem Print_tells (k : Nat) (a b : Int) : ident_Print.f (k + 8) a b = some (printV a b) := by
  unfold ident_Print.f printV
  rw [Check_tells (k + 7) a b]
  simp only [Option.bind_some]
  unfold checkV
  by_cases h1 : a < 1 ∨ 6 < a
  · rw [if_pos h1, if_pos h1, if_neg (by decide)]; rfl
  · rw [if_neg h1, if_neg h1]
    by_cases h3 : b < 1 ∨ 9999999 < b
    · rw [if_pos h3, if_pos h3, if_neg (by decide)]; rfl
    · rw [if_neg h3, if_neg h3, if_pos rfl]
      have hc := chk_range a b
      have hp := (preL_six a (by omega) (by omega)).1
      rw [w64 (3 * a) (by omega) (by omega), w64 (3 * a - 3) (by omega) (by omega), if_pos (by omega), if_pos (by omega), if_pos (by omega), prefixes_cut a (by omega) (by omega)]
      rw [show (⟨#[45]⟩ : ByteArray) = strOfNums [45] from rfl, digits7 k b (by omega) (by omega), show k + 8 = k + 5 + 3 from rfl, digits2 (k + 5) (chk a b) (by omega) (by omega)]
      simp only [Option.bind_some, str_append, size_of, List.length_append, List.length_cons, List.length_nil, hp, d7, d2]
      rw [if_pos (by omega), if_pos (by omega), if_pos (by omega), if_pos (by omega)]
      unfold idL d7 d2
      simp only [List.append_assoc]
theorem refPrint_tells (k : Nat) (a b : Int) : examboardref09_Print.f (k + 8) a b = some (printV a b) := by
  unfold examboardref09_Print.f printV
  rw [refCheck_tells a b]
  simp only [Option.bind_some]
  unfold checkV
  by_cases h1 : a < 1 ∨ 6 < a
  · rw [if_pos h1, if_pos h1, if_neg (by decide)]; rfl
  · rw [if_neg h1, if_neg h1]
    by_cases h3 : b < 1 ∨ 9999999 < b
    · rw [if_pos h3, if_pos h3, if_neg (by decide)]; rfl
    · rw [if_neg h3, if_neg h3, if_pos rfl]
      have hc := chk_range a b
      have hp := (preL_six a (by omega) (by omega)).1
      rw [prefix_tells, show (⟨#[45]⟩ : ByteArray) = strOfNums [45] from rfl, refdigits7 k b (by omega) (by omega), show k + 8 = k + 5 + 3 from rfl, refdigits2 (k + 5) (chk a b) (by omega) (by omega)]
      simp only [Option.bind_some, str_append, size_of, List.length_append, List.length_cons, List.length_nil, hp, d7, d2]
      rw [if_pos (by omega), if_pos (by omega), if_pos (by omega), if_pos (by omega)]
      unfold idL d7 d2
      simp only [List.append_assoc]
end Go.Proofs.Ytkkdabdceooakaa.Base
