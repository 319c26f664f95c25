import Derived.Test.YtkkdabdceooakaaDet2
namespace Go.Proofs.Ytkkdabdceooakaa.Det
open Go.RowKit Go.Proofs.Ytkkdabdceooakaa.QIdent Go.Proofs.YtkkdabdceooakaaW.PrintWords Go.Proofs.YtkkdabdceooakaaW.PrintLast Go.Proofs.Ytkkdabdceooakaa.Conv Go.Proofs.Ytkkdabdceooakaa.Base

theorem digitAt_tells (m : Nat) (h : m < 9) : examboardlaw09_digitAt.f (m : Int) = some ((pl m : Nat) : Int) := by
  unfold examboardlaw09_digitAt.f pl
  by_cases h7 : m < 7
  · rw [if_pos (by omega), if_pos h7, w64 _ (by omega) (by omega)]
    congr 1
  · rw [if_neg (by omega), if_neg h7, w64 _ (by omega) (by omega)]
    congr 1
theorem pl_lt (m : Nat) (h : m < 9) : pl m < 14 := by
  unfold pl
  split <;> omega
theorem pl_ne (m : Nat) : pl m ≠ pl (m + 1) := by
  unfold pl
  split <;> split <;> omega
theorem bytes_set {l : List Int} (hb : Bytes l) (i : Nat) (x : Int) (h0 : 0 ≤ x) (h1 : x < 256) : Bytes (l.set i x) := by
  intro y hy
  rcases List.mem_or_eq_of_mem_set hy with h | h
  · exact hb y h
  · omega
theorem bytes_get {l : List Int} (hb : Bytes l) (i : Nat) : 0 ≤ l.getD i 0 ∧ l.getD i 0 < 256 := by
  rw [List.getD_eq_getElem?_getD]
  by_cases h : i < l.length
  · rw [List.getElem?_eq_getElem h]
    exact hb _ (List.getElem_mem h)
  · rw [List.getElem?_eq_none (by omega)]
    exact ⟨Int.le_refl _, by decide⟩
theorem parse_list {m : List Int} (hb : Bytes m) (h14 : m.length = 14) : ident_Parse.f 35 (strOfNums m) = some ((parseV m).1, (parseV m).2.1, (parseV m).2.2) := by
  rw [show (35 : Nat) = 8 + 27 from rfl, Parse_tells 8 _]
  unfold parseS
  rw [size_of, if_pos h14, nums_str m hb]

/-- A wrong digit, and an exchange of two adjacent digits that differ, are detected. -/
theorem detects (a n i d : Int) (w : World) (wd : (Lit.int .u8 d).wf = true) :
    Calls Try.prog 8 #[.int .i64 a, .int .i64 n, .int .i64 i, .int .u8 d] w fun e w' => e = .returned (.bool true) ∧ Below w.heap.size w w' := by
  have hd : 0 ≤ d ∧ d ≤ 255 := by
    have h : IntKind.u8.min ≤ d ∧ d ≤ IntKind.u8.max := by simpa [Lit.wf] using wd
    exact h
  by_cases hv : 1 ≤ a ∧ a ≤ 6 ∧ 1 ≤ n ∧ n ≤ 9999999
  · have hvt := Pure.valid_tells a n
    rw [decide_eq_true hv] at hvt
    obtain ⟨h1, h2, h3, h4⟩ := hv
    by_cases hi : i < 0 ∨ 8 < i
    · exact walk_out a n i d true w hvt (Or.inr hi)
    · obtain ⟨m, rfl⟩ : ∃ m : Nat, i = (m : Int) := ⟨i.toNat, by omega⟩
      have hm : m < 9 := by omega
      have hl := idL_length a n h1 h2
      have hb := idL_bytes a n h1 h2
      have hP : ident_Print.f 35 a n = some (strOfNums (idL a n), 0) := by
        rw [show (35 : Nat) = 27 + 8 from rfl, Print_tells 27 a n]
        unfold printV
        rw [if_neg (by omega), if_neg (by omega)]
      have hS := parse_list hb hl
      rw [parse_print a n h1 h2 h3 h4] at hS
      have hD := digitAt_tells m hm
      have hp := pl_lt m hm
      have e0 : 0 ≤ d % 10 ∧ d % 10 ≤ 9 := by omega
      have hA := parse_list (bytes_set hb (pl m) (48 + d % 10) (by omega) (by omega)) (by rw [List.length_set]; exact hl)
      have hA0 := wrong_digit a n (d % 10) h1 h2 h3 h4 e0.1 e0.2 m hm
      by_cases h8 : m = 8
      · by_cases hc : (idL a n).getD (pl m) 0 = 48 + d % 10
        · exact walk_same8 35 a n m d (idL a n) (pl m) (pl m) a n _ _ w hvt hP hS hb hl (by omega) (by omega) hD hp hp rfl rfl hd.1 hd.2 hc (by omega)
        · exact walk_diff8 35 a n m d (idL a n) (pl m) (pl m) a n _ _ w hvt hP hS hb hl (by omega) (by omega) hD hp hp rfl rfl hd.1 hd.2 _ _ _ hA (hA0 hc) hc (by omega)
      · have hD2 := digitAt_tells (m + 1) (by omega)
        have hq := pl_lt (m + 1) (by omega)
        have hE := parse_list (bytes_set (bytes_set hb (pl m) ((idL a n).getD (pl (m + 1)) 0) (bytes_get hb _).1 (bytes_get hb _).2) (pl (m + 1)) ((idL a n).getD (pl m) 0) (bytes_get hb _).1 (bytes_get hb _).2) (by rw [List.length_set, List.length_set]; exact hl)
        have hE0 := exchange a n h1 h2 h3 h4 m (by omega)
        by_cases hc : (idL a n).getD (pl m) 0 = 48 + d % 10
        · by_cases he : (idL a n).getD (pl m) 0 = (idL a n).getD (pl (m + 1)) 0
          · exact walk_same_eq 35 a n m d (idL a n) (pl m) (pl (m + 1)) a n _ _ w hvt hP hS hb hl (by omega) (by omega) hD hp hq rfl rfl hd.1 hd.2 hc (by omega) hD2 he
          · exact walk_same_ne 35 a n m d (idL a n) (pl m) (pl (m + 1)) a n _ _ w hvt hP hS hb hl (by omega) (by omega) hD hp hq rfl rfl hd.1 hd.2 hc (by omega) hD2 he (pl_ne m) _ _ _ hE (hE0 he)
        · by_cases he : (idL a n).getD (pl m) 0 = (idL a n).getD (pl (m + 1)) 0
          · exact walk_diff_eq 35 a n m d (idL a n) (pl m) (pl (m + 1)) a n _ _ w hvt hP hS hb hl (by omega) (by omega) hD hp hq rfl rfl hd.1 hd.2 _ _ _ hA (hA0 hc) hc (by omega) hD2 he
          · exact walk_diff_ne 35 a n m d (idL a n) (pl m) (pl (m + 1)) a n _ _ w hvt hP hS hb hl (by omega) (by omega) hD hp hq rfl rfl hd.1 hd.2 _ _ _ hA (hA0 hc) hc (by omega) hD2 he (pl_ne m) _ _ _ hE (hE0 he)
  · have hvt := Pure.valid_tells a n
    rw [decide_eq_false hv] at hvt
    exact walk_out a n i d false w hvt (Or.inl rfl)
end Go.Proofs.Ytkkdabdceooakaa.Det
