/- content.Check: it always answers, and where it answers OK the outline is valid in the chapter's sense. The condition: M bounds each string's size. -/
import Derived.Test.YtfgfdjlimhlcjaaConf
import Derived.Test.YtfgfdjlimhlcjaaCond
namespace Go.Proofs.Ytfgfdjlimhlcjaa.Con
open Go.RowKit Go.Proofs.Ytfgfdjlimhlcjaa.QCon Go.Proofs.YtfgfdjlimhlcjaaW.PrintWords Go.Proofs.YtfgfdjlimhlcjaaW.PrintLast Go.Proofs.Ytfgfdjlimhlcjaa.Hand

theorem title_loop (s : ByteArray) (hs : s.size ≤ 4611686018427387904) : ∀ (d i : Nat), i + d = s.size → ∃ b, ∀ k, d < k → content_title.l0 k s (s.size : Int) (i : Int) = some b := by
  intro d
  induction d with
  | zero =>
    intro i hi
    refine ⟨if (s.size : Int) ≥ 1 then decide ((s.size : Int) ≤ 60) else false, fun k hk => ?_⟩
    obtain ⟨k, rfl⟩ : ∃ j, k = j + 1 := ⟨k - 1, by omega⟩
    simp only [content_title.l0]
    rw [if_neg (by omega)]
    split <;> rfl
  | succ d ih =>
    intro i hi
    obtain ⟨b, hb⟩ := ih (i + 1) (by omega)
    refine ⟨if bt s (i : Int) < 32 then false else if bt s (i : Int) > 126 then false else b, fun k hk => ?_⟩
    obtain ⟨k, rfl⟩ : ∃ j, k = j + 1 := ⟨k - 1, by omega⟩
    have h1 := hb k (by omega)
    simp only [content_title.l0]
    rw [step1 i (by omega), h1, if_pos (by omega), if_pos (by omega), if_pos (by omega)]
    split
    · rfl
    · split <;> rfl
theorem title_tells (s : ByteArray) (hs : s.size ≤ 4611686018427387904) : ∃ b, ∀ k, s.size < k → content_title.f k s = some b := title_loop s hs s.size 0 (by omega)

def nm (o : List S42) (i : Nat) : ByteArray := (o.getD i z42).f0
/-- What Check has seen of topic i. -/
def GoodAt (o : List S42) (i : Nat) : Prop :=
  validB (nm o i).data.toList = true ∧ (0 < i → Op.bytesLess (nm o (i - 1)).toList (nm o i).toList = true) ∧ ((parentV (nm o i)).2 = true → ∃ j, j < i ∧ (nm o j).toList = (parentV (nm o i)).1.toList)
theorem rd42_nm (o : List S42) (i : Nat) : (rd_T42 o (i : Int)).f0 = nm o i := by
  unfold rd_T42 nm
  rw [Int.toNat_natCast]
theorem find_loop (o : List S42) (i : Nat) (hi : i < o.length) (h200 : o.length ≤ 200) (p : ByteArray) (K : Nat) (r : Int × Int) (hn : ∀ k, K < k → content_Check.l0 k o o (o.length : Int) ((i + 1 : Nat) : Int) = some r) : ∀ (j : Nat), j ≤ i →
    ∃ r', (∀ k, K + j + 1 < k → content_Check.l1 k o (i : Int) p ((j : Int) - 1) o (o.length : Int) (i : Int) = some r') ∧ (r'.1 = 0 → r' = r ∧ ∃ q, q < j ∧ (nm o q).toList = p.toList) := by
  intro j
  induction j with
  | zero =>
    intro _
    refine ⟨(6, (i : Int)), fun k hk => ?_, fun h => by simp at h⟩
    obtain ⟨k, rfl⟩ : ∃ m, k = m + 1 := ⟨k - 1, by omega⟩
    simp only [content_Check.l1]
    rw [if_neg (by omega)]
  | succ j ih =>
    intro hj
    obtain ⟨r', h1, h2⟩ := ih (by omega)
    by_cases he : (nm o j).toList = p.toList
    · refine ⟨r, fun k hk => ?_, fun _ => ⟨rfl, j, by omega, he⟩⟩
      obtain ⟨k, rfl⟩ : ∃ m, k = m + 1 := ⟨k - 1, by omega⟩
      have := hn k (by omega)
      rw [show (((j + 1 : Nat) : Int) - 1) = (j : Int) by omega]
      simp only [content_Check.l1]
      rw [step1 i (by omega), this, rd42_nm, if_pos (by omega), if_pos (by omega), if_pos (by omega), if_pos he]
    · refine ⟨r', fun k hk => ?_, fun h => ?_⟩
      · obtain ⟨k, rfl⟩ : ∃ m, k = m + 1 := ⟨k - 1, by omega⟩
        have := h1 k (by omega)
        rw [show (((j + 1 : Nat) : Int) - 1) = (j : Int) by omega]
        simp only [content_Check.l1]
        rw [w64 ((j : Int) - 1) (by omega) (by omega), this, rd42_nm, if_pos (by omega), if_pos (by omega), if_pos (by omega), if_neg he]
      · obtain ⟨e, q, hq, hqe⟩ := h2 h
        exact ⟨e, q, by omega, hqe⟩
theorem nm_mem (o : List S42) (i : Nat) (h : i < o.length) : o.getD i z42 ∈ o := by
  rw [List.getD_eq_getElem?_getD, List.getElem?_eq_getElem h]
  exact List.getElem_mem h
theorem check_loop (M : Nat) (hM : M ≤ 4611686018427387904) (o : List S42) (h200 : o.length ≤ 200) (hs : ∀ t ∈ o, t.f0.size ≤ M ∧ t.f1.size ≤ M) : ∀ (d i : Nat), i + d = o.length →
    ∃ r, (∀ k, M + 60 + d * 210 < k → content_Check.l0 k o o (o.length : Int) (i : Int) = some r) ∧ (r.1 = 0 → ∀ j, i ≤ j → j < o.length → GoodAt o j) := by
  intro d
  induction d with
  | zero =>
    intro i hi
    refine ⟨(0, 0), fun k hk => ?_, fun _ j h1 h2 => by omega⟩
    obtain ⟨k, rfl⟩ : ∃ m, k = m + 1 := ⟨k - 1, by omega⟩
    simp only [content_Check.l0]
    rw [if_neg (by omega)]
  | succ d ih =>
    intro i hi
    have hlt : i < o.length := by omega
    obtain ⟨r, hr, hgood⟩ := ih (i + 1) (by omega)
    have hsz := hs _ (nm_mem o i hlt)
    have hn0 : (rd_T42 o (i : Int)).f0 = nm o i := rd42_nm o i
    have hn1 : (rd_T42 o (i : Int)).f1.size ≤ M := by unfold rd_T42; rw [Int.toNat_natCast]; exact hsz.2
    have hnm : (nm o i).size ≤ M := hsz.1
    obtain ⟨tb, htb⟩ := title_tells (rd_T42 o (i : Int)).f1 (by omega)
    have hval : ∀ k, 60 ≤ k → content_Valid.f k (nm o i) = some (validB (nm o i).data.toList) := fun k hk => Valid_tells (nm o i).data.toList k hk
    -- behind the order's test
    have hj : ∃ r', (∀ k, M + 60 + d * 210 + 205 < k → content_Check.j1 k o (i : Int) o (o.length : Int) (i : Int) (nm o i) (rd_T42 o (i : Int)).f1 = some r') ∧ (r'.1 = 0 → r' = r ∧ ((parentV (nm o i)).2 = true → ∃ q, q < i ∧ (nm o q).toList = (parentV (nm o i)).1.toList)) := by
      obtain ⟨r', h1, h2⟩ := find_loop o i hlt h200 (parentV (nm o i)).1 (M + 60 + d * 210) r (fun k hk => hr k hk) i (Nat.le_refl _)
      by_cases hp : (parentV (nm o i)).2 = true
      · refine ⟨r', fun k hk => ?_, fun h => ⟨(h2 h).1, fun _ => (h2 h).2⟩⟩
        obtain ⟨k, rfl⟩ : ∃ m, k = m + 1 := ⟨k - 1, by omega⟩
        have h3 := h1 k (by omega)
        simp only [content_Check.j1]
        rw [Parent_tells (nm o i) (by omega) k (by omega)]
        simp only [Option.bind_some]
        rw [if_pos hp, w64 ((i : Int) - 1) (by omega) (by omega), h3]
      · refine ⟨r, fun k hk => ?_, fun _ => ⟨rfl, fun h => absurd h hp⟩⟩
        obtain ⟨k, rfl⟩ : ∃ m, k = m + 1 := ⟨k - 1, by omega⟩
        have h3 := hr k (by omega)
        simp only [content_Check.j1]
        rw [Parent_tells (nm o i) (by omega) k (by omega)]
        simp only [Option.bind_some]
        rw [if_neg hp, step1 i (by omega), h3]
    obtain ⟨r', hj1, hj2⟩ := hj
    by_cases hv : validB (nm o i).data.toList = true
    · by_cases ht : tb = true
      · by_cases h0 : 0 < i
        · by_cases hb : Op.bytesLess (nm o (i - 1)).toList (nm o i).toList = true
          · refine ⟨r', fun k hk => ?_, fun h j h1 h2 => ?_⟩
            · obtain ⟨k, rfl⟩ : ∃ m, k = m + 1 := ⟨k - 1, by omega⟩
              have hjk := hj1 k (by omega)
              have htk := htb k (by omega)
              have e1 : (((i : Int) - 1)) = ((i - 1 : Nat) : Int) := by omega
              simp only [content_Check.l0]
              rw [hn0, hval k (by omega), htk, w64 ((i : Int) - 1) (by omega) (by omega), e1, rd42_nm, hjk, if_pos (by omega), if_pos (by omega), if_pos (by omega)]
              simp only [Option.bind_some]
              rw [if_pos hv, if_pos ht, if_pos (by omega), if_pos (by omega), if_pos (by omega), if_pos hb]
            · obtain ⟨e, hp⟩ := hj2 h
              by_cases hji : j = i
              · subst hji
                exact ⟨hv, fun _ => hb, hp⟩
              · exact hgood (by rw [← e]; exact h) j (by omega) h2
          · refine ⟨(23, (i : Int)), fun k hk => ?_, fun h => by simp at h⟩
            obtain ⟨k, rfl⟩ : ∃ m, k = m + 1 := ⟨k - 1, by omega⟩
            have htk := htb k (by omega)
            have e1 : (((i : Int) - 1)) = ((i - 1 : Nat) : Int) := by omega
            simp only [content_Check.l0]
            rw [hn0, hval k (by omega), htk, w64 ((i : Int) - 1) (by omega) (by omega), e1, rd42_nm, if_pos (by omega), if_pos (by omega), if_pos (by omega)]
            simp only [Option.bind_some]
            rw [if_pos hv, if_pos ht, if_pos (by omega), if_pos (by omega), if_pos (by omega), if_neg hb]
        · refine ⟨r', fun k hk => ?_, fun h j h1 h2 => ?_⟩
          · obtain ⟨k, rfl⟩ : ∃ m, k = m + 1 := ⟨k - 1, by omega⟩
            have hjk := hj1 k (by omega)
            have htk := htb k (by omega)
            simp only [content_Check.l0]
            rw [hn0, hval k (by omega), htk, hjk, if_pos (by omega), if_pos (by omega), if_pos (by omega)]
            simp only [Option.bind_some]
            rw [if_pos hv, if_pos ht, if_neg (by omega)]
          · obtain ⟨e, hp⟩ := hj2 h
            by_cases hji : j = i
            · subst hji
              exact ⟨hv, fun h => absurd h h0, hp⟩
            · exact hgood (by rw [← e]; exact h) j (by omega) h2
      · refine ⟨(1, (i : Int)), fun k hk => ?_, fun h => by simp at h⟩
        obtain ⟨k, rfl⟩ : ∃ m, k = m + 1 := ⟨k - 1, by omega⟩
        have htk := htb k (by omega)
        simp only [content_Check.l0]
        rw [hn0, hval k (by omega), htk, if_pos (by omega), if_pos (by omega), if_pos (by omega)]
        simp only [Option.bind_some]
        rw [if_pos hv, if_neg ht]
    · refine ⟨(2, (i : Int)), fun k hk => ?_, fun h => by simp at h⟩
      obtain ⟨k, rfl⟩ : ∃ m, k = m + 1 := ⟨k - 1, by omega⟩
      simp only [content_Check.l0]
      rw [hn0, hval k (by omega), if_pos (by omega), if_pos (by omega), if_pos (by omega)]
      simp only [Option.bind_some]
      rw [if_neg hv]
theorem Check_tells (M : Nat) (hM : M ≤ 4611686018427387904) (o : List S42) (hs : ∀ t ∈ o, t.f0.size ≤ M ∧ t.f1.size ≤ M) :
    ∃ r, (∀ k, M + 50000 < k → content_Check.f k o = some r) ∧ (r.1 = 0 → o.length ≤ 200 ∧ ∀ j, j < o.length → GoodAt o j) := by
  by_cases h : (o.length : Int) > 200
  · refine ⟨(5, 200), fun k _ => ?_, fun h => by simp at h⟩
    unfold content_Check.f
    rw [if_pos h]
  · obtain ⟨r, h1, h2⟩ := check_loop M hM o (by omega) hs o.length 0 (by omega)
    refine ⟨r, fun k hk => ?_, fun h0 => ⟨by omega, fun j hj => h2 h0 j (by omega) hj⟩⟩
    unfold content_Check.f
    rw [if_neg h]
    exact h1 k (by omega)

/-! ### The outline's codes -/
def codes (o : List S42) : List (List UInt8) := o.map (fun t => t.f0.data.toList)
theorem codes_get (o : List S42) (i : Nat) (h : i < (codes o).length) : (codes o)[i] = (nm o i).data.toList := by
  have h' : i < o.length := by unfold codes at h; rw [List.length_map] at h; exact h
  simp only [codes, nm, List.getElem_map]
  rw [List.getD_eq_getElem?_getD, List.getElem?_eq_getElem h']
  rfl
theorem goodL {o : List S42} (h : ∀ j, j < o.length → GoodAt o j) : GoodL (codes o) := by
  have hl : (codes o).length = o.length := by unfold codes; rw [List.length_map]
  refine ⟨fun c hc => ?_, nodup_of_less _ (fun j hj => ?_), fun c hc hp => ?_⟩
  · obtain ⟨i, hi, rfl⟩ := List.mem_iff_getElem.1 hc
    rw [codes_get]
    exact (h i (by omega)).1
  · rw [codes_get, codes_get]
    have := (h (j + 1) (by omega)).2.1 (by omega)
    rw [Lib.toList_data, Lib.toList_data] at this
    exact this
  · obtain ⟨i, hi, rfl⟩ := List.mem_iff_getElem.1 hc
    rw [codes_get] at hp ⊢
    unfold parL at hp ⊢
    rw [ba_data] at hp ⊢
    obtain ⟨j, hj, he⟩ := (h i (by omega)).2.2 hp
    rw [Lib.toList_data, Lib.toList_data] at he
    rw [← he, ← codes_get o j (by omega)]
    exact List.getElem_mem _
theorem kidsV_L (c : ByteArray) : ∀ o : List S42, (kidsV c o).map (fun s => s.data.toList) = kidsL c.data.toList (codes o)
  | [] => rfl
  | t :: o => by
    have ih := kidsV_L c o
    unfold kidsV kidsL codes
    rw [List.map_cons, List.filter_cons]
    have e : decide ((parL t.f0.data.toList).1 = c.data.toList) = decide ((parentV t.f0).1.toList = c.toList) := by
      unfold parL
      rw [ba_data, Lib.toList_data, Lib.toList_data]
    rw [e]
    by_cases h : (parentV t.f0).1.toList = c.toList
    · rw [if_pos h, decide_eq_true h, if_pos rfl, List.map_cons, ih]
      rfl
    · rw [if_neg h, decide_eq_false h, if_neg (by decide), ih]
      rfl
end Go.Proofs.Ytfgfdjlimhlcjaa.Con
