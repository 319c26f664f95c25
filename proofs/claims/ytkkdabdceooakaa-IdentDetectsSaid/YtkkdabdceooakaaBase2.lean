import Derived.Test.YtkkdabdceooakaaBase
namespace Go.Proofs.Ytkkdabdceooakaa.Base
open Go.RowKit Go.Proofs.Ytkkdabdceooakaa.QIdent Go.Proofs.YtkkdabdceooakaaW.PrintWords Go.Proofs.YtkkdabdceooakaaW.PrintLast Go.Proofs.Ytkkdabdceooakaa.Conv

/-! ### Numbers out of digits -/
def numV : List Int → Int → Option Int
  | [], n => some n
  | c :: cs, n => if c < 48 ∨ 57 < c then none else numV cs (10 * n + (c - 48))
def pairV : Option Int → Int × Bool
  | some v => (v, true)
  | none => (0, false)
def minusV : Option Int → Int
  | some v => v
  | none => -1
def ten : Nat → Int
  | 0 => 1
  | i + 1 => 10 * ten i
theorem ten_pos : ∀ i, 1 ≤ ten i
  | 0 => by unfold ten; omega
  | i + 1 => by have := ten_pos i; unfold ten; omega
theorem ten_mono (i : Nat) : ∀ d, ten i ≤ ten (i + d)
  | 0 => Int.le_refl _
  | d + 1 => by
    have h1 := ten_mono i d
    have h2 := ten_pos (i + d)
    show ten i ≤ 10 * ten (i + d)
    omega
theorem ten_le (i : Nat) (h : i ≤ 14) : ten i ≤ 100000000000000 := by
  have h1 := ten_mono i (14 - i)
  rw [show i + (14 - i) = 14 by omega, show ten 14 = 100000000000000 from rfl] at h1
  exact h1
theorem number_from (l : List Int) (hb : Bytes l) : ∀ (m : List Int) (i n : Nat) (k : Nat), l.drop i = m → i + m.length = l.length → l.length ≤ 15 → (n : Int) < ten i → m.length < k →
    Hand.ident_number.l0 k (strOfNums l) n i = some (pairV (numV m n)) ∧ examboardref09_number.l0 k (strOfNums l) n i = some (minusV (numV m n)) := by
  intro m
  induction m with
  | nil =>
    intro i n k hm hl h15 hn hk
    obtain ⟨k, rfl⟩ : ∃ j, k = j + 1 := ⟨k - 1, by omega⟩
    simp only [Hand.ident_number.l0, examboardref09_number.l0, size_of]
    simp only [List.length_nil, Nat.add_zero] at hl
    rw [if_neg (by omega), if_neg (by omega)]
    exact ⟨rfl, rfl⟩
  | cons c m ih =>
    intro i n k hm hl h15 hn hk
    obtain ⟨k, rfl⟩ : ∃ j, k = j + 1 := ⟨k - 1, by omega⟩
    simp only [List.length_cons] at hl hk
    have hc : l[i]? = some c := by
      have := congrArg List.head? hm
      rw [List.head?_drop] at this
      simpa using this
    have hrd : rd l (i : Int) = c := by
      unfold rd
      rw [Int.toNat_natCast, List.getD_eq_getElem?_getD, hc]
      rfl
    have hcb := hb c (List.mem_of_getElem? hc)
    have hp := ten_le i (by omega)
    have hp1 : ten (i + 1) = 10 * ten i := rfl
    simp only [Hand.ident_number.l0, examboardref09_number.l0, size_of, bt_str l hb, hrd]
    have hlt : (i : Int) < (l.length : Int) := by omega
    have h0i : 0 ≤ (i : Int) := by omega
    rw [if_pos hlt, if_pos hlt, if_pos h0i, if_pos h0i]
    by_cases h1 : c < 48
    · rw [if_pos h1, if_pos h1]
      simp only [numV, if_pos (Or.inl h1 : c < 48 ∨ 57 < c)]
      exact ⟨rfl, rfl⟩
    · rw [if_neg h1, if_neg h1]
      by_cases h2 : c > 57
      · rw [if_pos h2, if_pos h2]
        simp only [numV, if_pos (Or.inr h2 : c < 48 ∨ 57 < c)]
        exact ⟨rfl, rfl⟩
      · rw [if_neg h2, if_neg h2]
        simp only [numV, if_neg (show ¬ (c < 48 ∨ 57 < c) by omega)]
        have e1 : wrap64 (wrap64 (10 * (n : Int)) + (c - 48) % 256) = ((10 * n + (c - 48).toNat : Nat) : Int) := by
          rw [w64 (10 * (n : Int)) (by omega) (by omega), w64 _ (by omega) (by omega)]
          omega
        have e2 : wrap64 ((i : Int) + 1) = ((i + 1 : Nat) : Int) := by
          rw [w64 _ (by omega) (by omega)]
          omega
        have e3 : (10 * (n : Int) + (c - 48)) = ((10 * n + (c - 48).toNat : Nat) : Int) := by omega
        rw [e1, e2, e3]
        clear e1 e2 e3
        exact ih (i + 1) (10 * n + (c - 48).toNat) k (by rw [← List.drop_drop, hm]; rfl) (by omega) h15 (by rw [hp1]; omega) (by omega)
theorem number_tells (k : Nat) (l : List Int) (hb : Bytes l) (hl : l.length ≤ 15) (hk : l.length < k) : Hand.ident_number.f k (strOfNums l) = some (pairV (numV l 0)) := by
  unfold Hand.ident_number.f
  rw [if_pos (by rw [size_of]; omega)]
  exact (number_from l hb l 0 0 k rfl (by omega) hl (by decide) hk).1
theorem refnumber_tells (k : Nat) (l : List Int) (hb : Bytes l) (hl : l.length ≤ 15) (hk : l.length < k) : examboardref09_number.f k (strOfNums l) = some (minusV (numV l 0)) := by
  unfold examboardref09_number.f
  exact (number_from l hb l 0 0 k rfl (by omega) hl (by decide) hk).2
theorem numV_nonneg (l : List Int) : ∀ n v, 0 ≤ n → numV l n = some v → 0 ≤ v := by
  induction l with
  | nil => intro n v hn h; simp only [numV, Option.some.injEq] at h; omega
  | cons c m ih =>
    intro n v hn h
    simp only [numV] at h
    split at h
    · cases h
    · exact ih _ v (by omega) h

/-! ### Kinds -/
def pick (p : List Int) (j x : Int) : Int := if p = preL j then j else x
def kindV (p : List Int) : Int := pick p 6 (pick p 5 (pick p 4 (pick p 3 (pick p 2 (pick p 1 0)))))
theorem kindV_cases (p : List Int) : (kindV p = 0 ∧ ∀ j, 1 ≤ j → j ≤ 6 → p ≠ preL j) ∨ (1 ≤ kindV p ∧ kindV p ≤ 6 ∧ p = preL (kindV p)) := by
  unfold kindV pick
  by_cases h6 : p = preL 6
  · rw [if_pos h6]; exact Or.inr ⟨by decide, by decide, h6⟩
  · rw [if_neg h6]
    by_cases h5 : p = preL 5
    · rw [if_pos h5]; exact Or.inr ⟨by decide, by decide, h5⟩
    · rw [if_neg h5]
      by_cases h4 : p = preL 4
      · rw [if_pos h4]; exact Or.inr ⟨by decide, by decide, h4⟩
      · rw [if_neg h4]
        by_cases h3 : p = preL 3
        · rw [if_pos h3]; exact Or.inr ⟨by decide, by decide, h3⟩
        · rw [if_neg h3]
          by_cases h2 : p = preL 2
          · rw [if_pos h2]; exact Or.inr ⟨by decide, by decide, h2⟩
          · rw [if_neg h2]
            by_cases h1 : p = preL 1
            · rw [if_pos h1]; exact Or.inr ⟨by decide, by decide, h1⟩
            · rw [if_neg h1]
              refine Or.inl ⟨rfl, fun j a b => ?_⟩
              rcases six a b with rfl | rfl | rfl | rfl | rfl | rfl <;> assumption
theorem kindV_pre (a : Int) (h1 : 1 ≤ a) (h2 : a ≤ 6) : kindV (preL a) = a := by
  rcases six h1 h2 with rfl | rfl | rfl | rfl | rfl | rfl <;> decide

/-! ### Parse -/
/-- What Parse says of 14 bytes. -/
def parseV (l : List Int) : Int × Int × Int :=
  if rd l 3 = 45 ∧ rd l 11 = 45 then
    match numV ((l.drop 4).take 7) 0, numV (l.drop 12) 0 with
    | some n, some c => if kindV (l.take 3) = 0 then (0, 0, 2) else if n = 0 then (0, 0, 3) else if c = chk (kindV (l.take 3)) n then (kindV (l.take 3), n, 0) else (0, 0, 12)
    | _, _ => (0, 0, 2)
  else (0, 0, 2)
theorem prefix_asks (l p : List Int) (hb : Bytes l) (hp : Bytes p) (h3 : p.length = 3) (h14 : l.length = 14) : strings_HasPrefix.f (strOfNums l) (strOfNums p) = some (decide (l.take 3 = p)) := by
  unfold strings_HasPrefix.f stringslite_HasPrefix.f
  rw [size_of, size_of, if_pos (by omega), if_pos (by omega), if_pos (by omega), h3, str_extract]
  simp only [Option.bind_some, Int.toNat_natCast, List.drop_zero, Nat.sub_zero]
  congr 1
  have hbt : Bytes (l.take 3) := fun x hx => hb x (List.mem_of_mem_take hx)
  by_cases h : l.take 3 = p
  · rw [decide_eq_true h, h, beq_self_eq_true]
  · rw [decide_eq_false h, beq_eq_false_iff_ne]
    intro he
    exact h (str_inj hbt hp (toList_inj he))
theorem numV_bound (l : List Int) : ∀ n v, 0 ≤ n → numV l n = some v → v ≤ n * 10 ^ l.length + (10 ^ l.length - 1) := by
  induction l with
  | nil => intro n v hn h; simp only [numV, Option.some.injEq] at h; simp; omega
  | cons c m ih =>
    intro n v hn h
    simp only [numV] at h
    split at h
    · cases h
    · rename_i hc
      have := ih _ v (by omega) h
      have hp : (0 : Int) ≤ 10 ^ m.length := Int.pow_nonneg (by omega)
      rw [List.length_cons, Int.pow_succ]
      have e : (10 * n + (c - 48)) * 10 ^ m.length ≤ (10 * n + 9) * 10 ^ m.length := Int.mul_le_mul_of_nonneg_right (by omega) hp
      have e2 : (10 * n + 9) * 10 ^ m.length = 10 * n * 10 ^ m.length + 9 * 10 ^ m.length := by rw [Int.add_mul]
      have e3 : n * (10 ^ m.length * 10) = 10 * n * 10 ^ m.length := by rw [Int.mul_comm (10 ^ m.length) 10, ← Int.mul_assoc, Int.mul_comm n 10]
      omega
theorem cut_ask (k : Nat) (l : List Int) (hb : Bytes l) (h14 : l.length = 14) (x j : Int) (h1 : 1 ≤ j) (h2 : j ≤ 6) : ident_Parse.l0 (k + 1) (strOfNums l) x j = ident_Parse.l0 k (strOfNums l) (pick (l.take 3) j x) (j + 1) := by
  have hp := preL_six j h1 h2
  simp only [ident_Parse.l0]
  rw [if_pos h2, w64 (3 * j) (by omega) (by omega), w64 (3 * j - 3) (by omega) (by omega), if_pos (by omega), if_pos (by omega), if_pos (by omega), prefixes_cut j h1 h2, prefix_asks l _ hb hp.2 hp.1 h14, w64 (j + 1) (by omega) (by omega)]
  simp only [Option.bind_some, decide_eq_true_eq]
  unfold pick
  by_cases h : l.take 3 = preL j
  · rw [if_pos h, if_pos h]
  · rw [if_neg h, if_neg h]
theorem refcut_ask (k : Nat) (l : List Int) (hb : Bytes l) (h14 : l.length = 14) (x j : Int) (h1 : 1 ≤ j) (h2 : j ≤ 6) : examboardref09_Parse.l0 (k + 1) (strOfNums l) x j = examboardref09_Parse.l0 k (strOfNums l) (pick (l.take 3) j x) (j + 1) := by
  have hp := preL_six j h1 h2
  have hbt : Bytes (l.take 3) := fun x hx => hb x (List.mem_of_mem_take hx)
  simp only [examboardref09_Parse.l0]
  rw [if_pos h2, prefix_tells, size_of, h14, str_extract]
  simp only [Option.bind_some, List.drop_zero, Nat.sub_zero]
  rw [if_pos (by omega), if_pos (by omega), w64 (j + 1) (by omega) (by omega)]
  unfold pick
  by_cases h : l.take 3 = preL j
  · rw [if_pos (by rw [h]), if_pos h]
  · rw [if_neg h, if_neg (fun he => h (str_inj hbt hp.2 (toList_inj he.symm)))]
theorem take_all (l : List Int) (h : l.length = 14) : (l.drop 12).take (14 - 12) = l.drop 12 := List.take_of_length_le (by rw [List.length_drop]; omega)
theorem Parse_end (k : Nat) (l : List Int) (hb : Bytes l) (h14 : l.length = 14) (x : Int) (hx : x = 0 ∨ (1 ≤ x ∧ x ≤ 6)) :
    ident_Parse.l0 (k + 20) (strOfNums l) x 7 = some (match numV ((l.drop 4).take 7) 0, numV (l.drop 12) 0 with
    | some n, some c => if x = 0 then (0, 0, 2) else if n = 0 then (0, 0, 3) else if c = chk x n then (x, n, 0) else (0, 0, 12)
    | _, _ => (0, 0, 2)) := by
  have b7 : Bytes ((l.drop 4).take 7) := fun x hx => hb x (List.mem_of_mem_drop (List.mem_of_mem_take hx))
  have b2 : Bytes (l.drop 12) := fun x hx => hb x (List.mem_of_mem_drop hx)
  simp only [ident_Parse.l0, size_of, h14]
  rw [if_neg (by omega), if_pos (by omega), if_pos (by omega), str_extract, str_extract, take_all l h14]
  rw [number_tells _ _ b7 (by simp; omega) (by simp; omega), number_tells _ _ b2 (by simp; omega) (by simp; omega)]
  simp only [Option.bind_some]
  rw [if_pos (by omega)]
  have hn := numV_nonneg ((l.drop 4).take 7) 0
  have hn2 := numV_bound ((l.drop 4).take 7) 0
  have e7 : ((l.drop 4).take 7).length = 7 := by simp; omega
  rw [e7] at hn2
  generalize numV ((l.drop 4).take 7) 0 = p at *
  generalize numV (l.drop 12) 0 = q at *
  by_cases hx0 : x = 0
  · rw [if_pos hx0]
    simp only [ident_Parse.j2]
    rw [if_pos trivial]
    cases p <;> cases q <;> simp [hx0]
  · rw [if_neg hx0]
    cases p with
    | none => simp only [pairV]; simp [ident_Parse.j2]
    | some n =>
      have h0 := hn n (by omega) rfl
      have h1 := hn2 n (by omega) rfl
      cases q with
      | none => simp only [pairV]; simp [ident_Parse.j2]
      | some c =>
        rw [show pairV (some n) = (n, true) from rfl, show pairV (some c) = (c, true) from rfl]
        simp only [Bool.not_true, if_true]
        simp only [ident_Parse.j2]
        rw [if_neg (show ¬ (false = true) by decide), if_neg hx0]
        by_cases h2 : n = 0
        · rw [if_pos h2, if_pos h2]
        · rw [if_neg h2, if_neg h2, check_tells x n (by omega) (by omega) h0 (by omega)]
          simp only [Option.bind_some]
          split <;> rfl
theorem refParse_end (k : Nat) (l : List Int) (hb : Bytes l) (h14 : l.length = 14) (x : Int) (hx : x = 0 ∨ (1 ≤ x ∧ x ≤ 6)) :
    examboardref09_Parse.l0 (k + 20) (strOfNums l) x 7 = some (match numV ((l.drop 4).take 7) 0, numV (l.drop 12) 0 with
    | some n, some c => if x = 0 then (0, 0, 2) else if n = 0 then (0, 0, 3) else if c = chk x n then (x, n, 0) else (0, 0, 12)
    | _, _ => (0, 0, 2)) := by
  have b7 : Bytes ((l.drop 4).take 7) := fun x hx => hb x (List.mem_of_mem_drop (List.mem_of_mem_take hx))
  have b2 : Bytes (l.drop 12) := fun x hx => hb x (List.mem_of_mem_drop hx)
  simp only [examboardref09_Parse.l0, size_of, h14]
  rw [if_neg (by omega), if_pos (by omega), if_pos (by omega), str_extract, str_extract, take_all l h14]
  rw [refnumber_tells _ _ b7 (by simp; omega) (by simp; omega), refnumber_tells _ _ b2 (by simp; omega) (by simp; omega)]
  simp only [Option.bind_some]
  rw [if_pos (by omega)]
  have hn := numV_nonneg ((l.drop 4).take 7) 0
  have hn2 := numV_bound ((l.drop 4).take 7) 0
  have hc := numV_nonneg (l.drop 12) 0
  have e7 : ((l.drop 4).take 7).length = 7 := by simp; omega
  rw [e7] at hn2
  generalize numV ((l.drop 4).take 7) 0 = p at *
  generalize numV (l.drop 12) 0 = q at *
  by_cases hx0 : x = 0
  · rw [if_pos hx0]
    simp only [examboardref09_Parse.j2]
    rw [if_pos trivial]
    cases p <;> cases q <;> simp [hx0]
  · rw [if_neg hx0]
    cases p with
    | none => simp only [minusV]; simp [examboardref09_Parse.j2]
    | some n =>
      have h0 := hn n (by omega) rfl
      have h1 := hn2 n (by omega) rfl
      rw [show minusV (some n) = n from rfl, if_neg (by omega)]
      cases q with
      | none => simp [examboardref09_Parse.j2, minusV]
      | some c =>
        have h3 := hc c (by omega) rfl
        rw [show minusV (some c) = c from rfl, decide_eq_false (show ¬ c < 0 by omega)]
        simp only [examboardref09_Parse.j2]
        rw [if_neg (show ¬ (false = true) by decide), if_neg hx0]
        by_cases h2 : n = 0
        · rw [if_pos h2, if_pos h2]
        · rw [if_neg h2, if_neg h2, refCheck_tells x n]
          have hk : checkV x n = (chk x n, 0) := by
            unfold checkV
            rw [if_neg (by omega), if_neg (by omega)]
          rw [hk]
          simp only [Option.bind_some]
          split <;> rfl
theorem Parse_14 (k : Nat) (l : List Int) (hb : Bytes l) (h14 : l.length = 14) : ident_Parse.f (k + 27) (strOfNums l) = some (parseV l) := by
  unfold ident_Parse.f parseV
  rw [size_of, bt_str l hb, bt_str l hb, if_pos (by omega), if_pos (by omega)]
  by_cases h3 : rd l 3 = 45
  · rw [if_pos h3, if_pos (by omega)]
    by_cases h11 : rd l 11 = 45
    · rw [if_pos ⟨h3, h11⟩, h11]
      simp only [ident_Parse.j0]
      rw [if_neg (by decide), cut_ask _ l hb h14 0 1 (by omega) (by omega), cut_ask _ l hb h14 _ _ (by omega) (by omega), cut_ask _ l hb h14 _ _ (by omega) (by omega), cut_ask _ l hb h14 _ _ (by omega) (by omega), cut_ask _ l hb h14 _ _ (by omega) (by omega), cut_ask _ l hb h14 _ _ (by omega) (by omega)]
      exact Parse_end k l hb h14 (kindV (l.take 3)) (by rcases kindV_cases (l.take 3) with h | h <;> omega)
    · rw [if_neg (by omega), show (rd l 11 != 45) = true by simpa using h11]
      rfl
  · rw [if_neg h3, if_neg (by omega)]
    rfl
theorem refParse_14 (k : Nat) (l : List Int) (hb : Bytes l) (h14 : l.length = 14) : examboardref09_Parse.f (k + 27) (strOfNums l) = some (parseV l) := by
  unfold examboardref09_Parse.f parseV
  rw [size_of, bt_str l hb, bt_str l hb, if_pos (by omega), if_pos (by omega)]
  by_cases h3 : rd l 3 = 45
  · rw [if_pos h3, if_pos (by omega)]
    by_cases h11 : rd l 11 = 45
    · rw [if_pos ⟨h3, h11⟩, h11]
      simp only [examboardref09_Parse.j0]
      rw [if_neg (by decide), refcut_ask _ l hb h14 0 1 (by omega) (by omega), refcut_ask _ l hb h14 _ _ (by omega) (by omega), refcut_ask _ l hb h14 _ _ (by omega) (by omega), refcut_ask _ l hb h14 _ _ (by omega) (by omega), refcut_ask _ l hb h14 _ _ (by omega) (by omega), refcut_ask _ l hb h14 _ _ (by omega) (by omega)]
      exact refParse_end k l hb h14 (kindV (l.take 3)) (by rcases kindV_cases (l.take 3) with h | h <;> omega)
    · rw [if_neg (by omega), show (rd l 11 != 45) = true by simpa using h11]
      rfl
  · rw [if_neg h3, if_neg (by omega)]
    rfl
/-- What Parse says of any string. -/
def parseS (s : ByteArray) : Int × Int × Int := if s.size = 14 then parseV (nums8 s) else (0, 0, 2)
theorem Parse_tells (k : Nat) (s : ByteArray) : ident_Parse.f (k + 27) s = some (parseS s) := by
  unfold parseS
  by_cases h : s.size = 14
  · rw [if_pos h]
    have := Parse_14 k (nums8 s) (nums_bytes s) (by rw [nums8_length]; exact h)
    rwa [str_nums] at this
  · rw [if_neg h]
    unfold ident_Parse.f
    rw [if_neg (by omega)]
    rfl
theorem refParse_tells (k : Nat) (s : ByteArray) : examboardref09_Parse.f (k + 27) s = some (parseS s) := by
  unfold parseS
  by_cases h : s.size = 14
  · rw [if_pos h]
    have := refParse_14 k (nums8 s) (nums_bytes s) (by rw [nums8_length]; exact h)
    rwa [str_nums] at this
  · rw [if_neg h]
    unfold examboardref09_Parse.f
    rw [if_neg (by omega)]
    rfl
end Go.Proofs.Ytkkdabdceooakaa.Base
