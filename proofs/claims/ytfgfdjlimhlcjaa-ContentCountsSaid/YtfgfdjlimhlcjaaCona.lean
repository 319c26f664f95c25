/- Content codes as lists of bytes: what Parent, Valid and Under return, the code's and the reference's alike. The condition: a string's size is below 2^62. -/
import Derived.Test.YtfgfdjlimhlcjaaQConx6
namespace Go.Proofs.Ytfgfdjlimhlcjaa.Con
open Go.RowKit Go.Proofs.Ytfgfdjlimhlcjaa.QCon Go.Proofs.Ytfgfdjlimhlcjaa.QCutA Go.Proofs.YtfgfdjlimhlcjaaW.PrintWords Go.Proofs.YtfgfdjlimhlcjaaW.PrintLast Go.Proofs.Ytfgfdjlimhlcjaa.Hand

theorem w64 (x : Int) (h0 : -9223372036854775808 ≤ x) (h1 : x ≤ 9223372036854775807) : wrap64 x = x := by
  unfold wrap64
  omega
theorem step1 (i : Nat) (h : i ≤ 4611686018427387904) : wrap64 ((i : Int) + 1) = ((i + 1 : Nat) : Int) := by
  rw [w64 _ (by omega) (by omega)]
  omega
theorem awake_60 : examboardlaw13_awake.f 60 = some true := by decide +kernel
theorem awake_tells (k : Nat) (h : 60 ≤ k) : examboardlaw13_awake.f k = some true := at_rounds (fun k => examboardlaw13_awake.mono k) h awake_60

/-! ### Parent -/
def lastD (s : ByteArray) : Nat → Int
  | 0 => -1
  | i + 1 => if bt s (i : Int) = 46 then (i : Int) else lastD s i
theorem lastD_succ (s : ByteArray) (i : Nat) : lastD s (i + 1) = if bt s (i : Int) = 46 then (i : Int) else lastD s i := rfl
theorem lastD_range (s : ByteArray) : ∀ i, -1 ≤ lastD s i ∧ lastD s i < i
  | 0 => by simp [lastD]
  | i + 1 => by
    have := lastD_range s i
    rw [lastD_succ]
    split <;> omega
def parentV (s : ByteArray) : ByteArray × Bool := if lastD s s.size < 0 then ((⟨#[]⟩ : ByteArray), false) else (s.extract 0 (lastD s s.size).toNat, true)
theorem last_loop (s : ByteArray) (hs : s.size ≤ 4611686018427387904) : ∀ (i k : Nat), i ≤ s.size → i < k → bytealg_LastIndexByteString.l0 k s 46 ((i : Int) - 1) = some (lastD s i) := by
  intro i
  induction i with
  | zero =>
    intro k hi hk
    obtain ⟨k, rfl⟩ : ∃ j, k = j + 1 := ⟨k - 1, by omega⟩
    simp only [bytealg_LastIndexByteString.l0]
    rw [if_neg (by omega)]
    rfl
  | succ i ih =>
    intro k hi hk
    obtain ⟨k, rfl⟩ : ∃ j, k = j + 1 := ⟨k - 1, by omega⟩
    have e : ((i + 1 : Nat) : Int) - 1 = (i : Int) := by omega
    rw [e]
    simp only [bytealg_LastIndexByteString.l0]
    rw [if_pos (by omega), if_pos (by omega), if_pos (by omega), w64 _ (by omega) (by omega), ih k (by omega) (by omega), lastD_succ]
    split <;> rfl
theorem Parent_tells (s : ByteArray) (hs : s.size ≤ 4611686018427387904) (k : Nat) (hk : s.size < k) : content_Parent.f k s = some (parentV s) := by
  unfold content_Parent.f strings_LastIndexByte.f bytealg_LastIndexByteString.f
  rw [w64 _ (by omega) (by omega), last_loop s hs s.size k (Nat.le_refl _) hk]
  simp only [Option.bind_some]
  have h := lastD_range s s.size
  unfold parentV
  by_cases h0 : lastD s s.size < 0
  · rw [if_pos h0, if_pos h0]
  · rw [if_neg h0, if_neg h0, if_pos (by omega), if_pos (by omega)]
theorem refParent_loop (s : ByteArray) (hs : s.size ≤ 4611686018427387904) : ∀ (i k : Nat), i ≤ s.size → i < k → examboardref13_Parent.l0 k s ((i : Int) - 1) = some (if lastD s i < 0 then ((⟨#[]⟩ : ByteArray), false) else (s.extract 0 (lastD s i).toNat, true)) := by
  intro i
  induction i with
  | zero =>
    intro k hi hk
    obtain ⟨k, rfl⟩ : ∃ j, k = j + 1 := ⟨k - 1, by omega⟩
    simp only [examboardref13_Parent.l0]
    rw [if_neg (by omega)]
    rfl
  | succ i ih =>
    intro k hi hk
    obtain ⟨k, rfl⟩ : ∃ j, k = j + 1 := ⟨k - 1, by omega⟩
    have e : ((i + 1 : Nat) : Int) - 1 = (i : Int) := by omega
    rw [e]
    simp only [examboardref13_Parent.l0]
    rw [if_pos (by omega), if_pos (by omega), if_pos (by omega), w64 _ (by omega) (by omega), ih k (by omega) (by omega), lastD_succ]
    by_cases h : bt s (i : Int) = 46
    · rw [if_pos h, if_pos h, if_pos (by omega), if_neg (by omega)]
    · rw [if_neg h, if_neg h]
theorem refParent_tells (s : ByteArray) (hs : s.size ≤ 4611686018427387904) (k : Nat) (hk : s.size < k) : examboardref13_Parent.f k s = some (parentV s) := by
  unfold examboardref13_Parent.f
  rw [w64 _ (by omega) (by omega), refParent_loop s hs s.size k (Nat.le_refl _) hk]
  rfl

/-! ### Strings and lists of bytes -/
def ba (l : List UInt8) : ByteArray := ⟨l.toArray⟩
theorem ba_size (l : List UInt8) : (ba l).size = l.length := by
  show l.toArray.size = _
  simp
theorem ba_data (s : ByteArray) : ba s.data.toList = s := rfl
theorem data_ba (l : List UInt8) : (ba l).data.toList = l := rfl
theorem size_data (s : ByteArray) : s.data.toList.length = s.size := rfl
theorem ba_inj {l m : List UInt8} (h : ba l = ba m) : l = m := by rw [← data_ba l, h, data_ba]
theorem eq_of_toList {s t : ByteArray} (h : s.toList = t.toList) : s = t := by
  rw [Lib.toList_data, Lib.toList_data] at h
  exact ByteArray.ext (Array.toList_inj.1 h)
theorem ba_extract (l : List UInt8) (i j : Nat) : (ba l).extract i j = ba ((l.drop i).take (j - i)) := by
  apply ByteArray.ext
  apply Array.toList_inj.1
  rw [ByteArray.data_extract, Array.toList_extract]
  rfl
theorem ba_append (l m : List UInt8) : ba l ++ ba m = ba (l ++ m) := by
  apply ByteArray.ext
  apply Array.toList_inj.1
  rw [ByteArray.data_append, Array.toList_append]
  rfl
theorem bt_drop (l : List UInt8) (i : Nat) (c : UInt8) (m : List UInt8) (h : l.drop i = c :: m) : bt (ba l) (i : Int) = (c.toNat : Int) ∧ i < l.length := by
  have hl : i < l.length := by
    rcases Nat.lt_or_ge i l.length with h' | h'
    · exact h'
    · rw [List.drop_of_length_le h'] at h; cases h
  refine ⟨?_, hl⟩
  have hc : l[i] = c := by
    have := List.drop_eq_getElem_cons hl
    rw [h] at this
    injection this with this _
    exact this.symm
  unfold bt
  rw [Int.toNat_natCast, dif_pos (by rw [ba_size]; exact hl)]
  show (((ba l).data[i]'_).toNat : Int) = _
  have : (ba l).data[i]'(by show i < l.toArray.size; simpa using hl) = l[i] := by simp [ba]
  rw [this, hc]

/-! ### Words -/
def okc (c : UInt8) : Bool := (decide (65 ≤ c.toNat) && decide (c.toNat ≤ 90)) || (decide (48 ≤ c.toNat) && decide (c.toNat ≤ 57))
def wordB (l : List UInt8) : Bool := decide (1 ≤ l.length) && decide (l.length ≤ 8) && l.all okc
theorem word_loop (l : List UInt8) (hl : l.length ≤ 4611686018427387904) : ∀ (m : List UInt8) (i k : Nat), l.drop i = m → m.length < k → i + m.length = l.length → content_word.l0 k (ba l) (l.length : Int) (i : Int) = some (m.all okc) := by
  intro m
  induction m with
  | nil =>
    intro i k hm hk hi
    obtain ⟨k, rfl⟩ : ∃ j, k = j + 1 := ⟨k - 1, by omega⟩
    simp only [content_word.l0]
    simp only [List.length_nil, Nat.add_zero] at hi
    rw [if_neg (by omega)]
    rfl
  | cons c m ih =>
    intro i k hm hk hi
    obtain ⟨k, rfl⟩ : ∃ j, k = j + 1 := ⟨k - 1, by omega⟩
    simp only [List.length_cons] at hk hi
    obtain ⟨hb, hlt⟩ := bt_drop l i c m hm
    have hd : l.drop (i + 1) = m := by rw [← List.drop_drop, hm]; rfl
    have hi' := ih (i + 1) k hd (by omega) (by omega)
    have hn := step1 i (by omega)
    simp only [content_word.l0]
    rw [hb, hn, hi', ba_size]
    clear hn hi' ih hd hm
    rw [if_pos (by omega), if_pos (by omega), if_pos (by omega)]
    rw [List.all_cons]
    unfold okc
    by_cases h1 : (c.toNat : Int) < 65
    · rw [if_pos h1]
      by_cases h2 : (c.toNat : Int) < 48
      · rw [if_pos h2, decide_eq_false (show ¬ 65 ≤ c.toNat by omega), decide_eq_false (show ¬ 48 ≤ c.toNat by omega)]; rfl
      · rw [if_neg h2]
        by_cases h3 : (c.toNat : Int) > 57
        · rw [if_pos h3, decide_eq_false (show ¬ 65 ≤ c.toNat by omega), decide_eq_false (show ¬ c.toNat ≤ 57 by omega), Bool.and_false]; rfl
        · rw [if_neg h3, decide_eq_true (show 48 ≤ c.toNat by omega), decide_eq_true (show c.toNat ≤ 57 by omega)]; simp
    · rw [if_neg h1]
      by_cases h2 : (c.toNat : Int) > 90
      · rw [if_pos h2, if_neg (by omega), if_pos (by omega), decide_eq_false (show ¬ c.toNat ≤ 90 by omega), decide_eq_false (show ¬ c.toNat ≤ 57 by omega), Bool.and_false, Bool.and_false]; rfl
      · rw [if_neg h2, decide_eq_true (show 65 ≤ c.toNat by omega), decide_eq_true (show c.toNat ≤ 90 by omega)]; simp
theorem word_tells (l : List UInt8) (hl : l.length ≤ 4611686018427387904) (k : Nat) (hk : l.length + 2 < k) : content_word.f k (ba l) = some (wordB l) := by
  obtain ⟨k, rfl⟩ : ∃ j, k = j + 1 := ⟨k - 1, by omega⟩
  unfold content_word.f wordB
  rw [ba_size]
  by_cases h1 : (l.length : Int) < 1
  · rw [if_pos h1, decide_eq_false (show ¬ 1 ≤ l.length by omega)]; rfl
  · rw [if_neg h1, decide_eq_true (show 1 ≤ l.length by omega)]
    by_cases h2 : (l.length : Int) > 8
    · rw [decide_eq_true h2, decide_eq_false (show ¬ l.length ≤ 8 by omega)]; rfl
    · rw [decide_eq_false h2, decide_eq_true (show l.length ≤ 8 by omega)]
      simp only [content_word.j0]
      rw [if_neg (by decide), ba_size]
      exact word_loop l hl l 0 k rfl (by omega) (by omega)

/-! ### Segments -/
def splitD : List UInt8 → List (List UInt8)
  | [] => [[]]
  | c :: l => if c = 46 then [] :: splitD l else match splitD l with
    | h :: t => (c :: h) :: t
    | [] => [[c]]
theorem splitD_cons (l : List UInt8) : ∃ h t, splitD l = h :: t := by
  cases l with
  | nil => exact ⟨_, _, rfl⟩
  | cons c l =>
    unfold splitD
    split
    · exact ⟨_, _, rfl⟩
    · split
      · exact ⟨_, _, rfl⟩
      · exact ⟨_, _, rfl⟩
/-- The reference's own scan. -/
def scanB : Nat → Nat → List UInt8 → Bool
  | n, z, [] => decide (0 < z) && decide (n ≤ 5)
  | n, z, c :: m => if c = 46 then (if z = 0 then false else scanB (n + 1) 0 m) else if okc c = true then (if z + 1 > 8 then false else scanB n (z + 1) m) else false
theorem scan_split : ∀ (l : List UInt8) (n z : Nat) (h : List UInt8) (t : List (List UInt8)), splitD l = h :: t → z ≤ 8 →
    scanB n z l = (decide (1 ≤ z + h.length) && decide (z + h.length ≤ 8) && h.all okc && t.all wordB && decide (n + t.length ≤ 5)) := by
  intro l
  induction l with
  | nil =>
    intro n z h t hs hz
    simp only [splitD, List.cons.injEq] at hs
    obtain ⟨rfl, rfl⟩ := hs
    simp only [scanB, List.length_nil, Nat.add_zero, List.all_nil, Bool.and_true]
    rw [decide_eq_true hz, Bool.and_true]
    rfl
  | cons c l ih =>
    intro n z h t hs hz
    obtain ⟨h', t', hl⟩ := splitD_cons l
    unfold splitD at hs
    unfold scanB
    by_cases hc : c = 46
    · rw [if_pos hc] at hs ⊢
      simp only [List.cons.injEq] at hs
      obtain ⟨rfl, rfl⟩ := hs
      rw [hl]
      by_cases h0 : z = 0
      · rw [if_pos h0, h0]
        simp
      · rw [if_neg h0, ih (n + 1) 0 h' t' hl (by omega)]
        simp only [Nat.zero_add, List.length_nil, Nat.add_zero, List.all_nil, Bool.and_true, List.all_cons, List.length_cons]
        rw [decide_eq_true (show 1 ≤ z by omega), decide_eq_true hz, show n + 1 + t'.length = n + (t'.length + 1) by omega]
        unfold wordB
        simp [Bool.and_assoc]
    · rw [if_neg hc] at hs ⊢
      rw [hl] at hs
      simp only [List.cons.injEq] at hs
      obtain ⟨rfl, rfl⟩ := hs
      rw [List.all_cons, List.length_cons]
      by_cases ho : okc c = true
      · rw [if_pos ho, ho]
        by_cases h8 : z + 1 > 8
        · rw [if_pos h8, decide_eq_false (show ¬ z + (h'.length + 1) ≤ 8 by omega)]
          simp
        · rw [if_neg h8, ih n (z + 1) h' t' hl (by omega)]
          rw [show z + 1 + h'.length = z + (h'.length + 1) by omega]
          simp
      · rw [if_neg ho]
        have : okc c = false := by simpa using ho
        rw [this]
        simp
def validB (l : List UInt8) : Bool := decide (l.length ≤ 24) && decide ((splitD l).length ≤ 5) && (splitD l).all wordB
theorem refValid_loop (l : List UInt8) (hl : l.length ≤ 24) : ∀ (m : List UInt8) (i n z k : Nat), l.drop i = m → i + m.length = l.length → 2 * m.length < k → n ≤ i + 1 → z ≤ 8 → examboardref13_Valid.l0 k (ba l) (n : Int) (z : Int) (i : Int) = some (scanB n z m) := by
  intro m
  induction m with
  | nil =>
    intro i n z k hm hi hk hn hz
    obtain ⟨k, rfl⟩ : ∃ j, k = j + 1 := ⟨k - 1, by omega⟩
    simp only [List.length_nil, Nat.add_zero] at hi
    simp only [examboardref13_Valid.l0, scanB, ba_size]
    rw [if_neg (by omega)]
    by_cases h0 : (z : Int) > 0
    · rw [if_pos h0, decide_eq_true (show 0 < z by omega), Bool.true_and]
      congr 1
      exact decide_eq_decide.2 (by omega)
    · rw [if_neg h0, decide_eq_false (show ¬ 0 < z by omega)]; rfl
  | cons c m ih =>
    intro i n z k hm hi hk hn hz
    simp only [List.length_cons] at hk hi
    obtain ⟨k, rfl⟩ : ∃ j, k = j + 2 := ⟨k - 2, by omega⟩
    obtain ⟨hb, hlt⟩ := bt_drop l i c m hm
    have hd : l.drop (i + 1) = m := by rw [← List.drop_drop, hm]; rfl
    have i1 := ih (i + 1) (n + 1) 0 (k + 1) hd (by omega) (by omega) (by omega) (by omega)
    have hw := step1 i (by omega)
    have hwn := step1 n (by omega)
    have j1f : examboardref13_Valid.j1 (k + 1) (ba l) (n : Int) (z : Int) (i : Int) false = some (if z + 1 > 8 then false else scanB n (z + 1) m) := by
      simp only [examboardref13_Valid.j1]
      rw [if_neg (by decide), step1 z (by omega), step1 i (by omega)]
      clear hw hwn i1
      by_cases h8 : z + 1 > 8
      · rw [if_pos (by omega), if_pos h8]
      · rw [if_neg (by omega), if_neg h8]
        exact ih (i + 1) n (z + 1) k hd (by omega) (by omega) (by omega) (by omega)
    have j1t : examboardref13_Valid.j1 (k + 1) (ba l) (n : Int) (z : Int) (i : Int) true = some false := rfl
    have hc46 : (c.toNat : Int) = 46 ↔ c = 46 := ⟨fun h => UInt8.toNat_inj.1 (by show c.toNat = 46; omega), fun h => by rw [h]; rfl⟩
    simp only [examboardref13_Valid.l0, scanB, ba_size]
    rw [hb, hw, hwn]
    clear hw hwn ih hd hm
    rw [if_pos (by omega), if_pos (by omega)]
    by_cases h46 : c = 46
    · rw [if_pos (hc46.2 h46), if_pos h46]
      by_cases hz0 : z = 0
      · rw [if_pos (by omega), if_pos hz0]
      · rw [if_neg (by omega), if_neg hz0]
        exact i1
    · rw [if_neg (fun h => h46 (hc46.1 h)), if_neg h46]
      unfold okc
      by_cases h1 : (c.toNat : Int) < 65
      · rw [if_pos h1]
        by_cases h2 : (c.toNat : Int) < 48
        · rw [if_pos h2, j1t, decide_eq_false (show ¬ 65 ≤ c.toNat by omega), decide_eq_false (show ¬ 48 ≤ c.toNat by omega)]; rfl
        · rw [if_neg h2]
          by_cases h3 : (c.toNat : Int) > 57
          · rw [decide_eq_true h3, j1t, decide_eq_false (show ¬ 65 ≤ c.toNat by omega), decide_eq_false (show ¬ c.toNat ≤ 57 by omega), Bool.and_false]; rfl
          · rw [decide_eq_false h3, j1f, decide_eq_true (show 48 ≤ c.toNat by omega), decide_eq_true (show c.toNat ≤ 57 by omega)]; simp
      · rw [if_neg h1]
        by_cases h2 : (c.toNat : Int) > 90
        · rw [if_pos h2, if_neg (by omega), decide_eq_true (show (c.toNat : Int) > 57 by omega), j1t, decide_eq_false (show ¬ c.toNat ≤ 90 by omega), decide_eq_false (show ¬ c.toNat ≤ 57 by omega), Bool.and_false, Bool.and_false]; rfl
        · rw [if_neg h2, j1f, decide_eq_true (show 65 ≤ c.toNat by omega), decide_eq_true (show c.toNat ≤ 90 by omega)]; simp
theorem refValid_tells (l : List UInt8) (k : Nat) (hk : 60 ≤ k) : examboardref13_Valid.f k (ba l) = some (validB l) := by
  unfold examboardref13_Valid.f validB
  rw [ba_size]
  by_cases h : (l.length : Int) > 24
  · rw [if_pos h, decide_eq_false (show ¬ l.length ≤ 24 by omega)]; rfl
  · rw [if_neg h, decide_eq_true (show l.length ≤ 24 by omega)]
    have := refValid_loop l (by omega) l 0 1 0 k rfl (by omega) (by omega) (by omega) (by omega)
    obtain ⟨hh, tt, hs⟩ := splitD_cons l
    rw [scan_split l 1 0 hh tt hs (by omega)] at this
    rw [hs, List.all_cons, List.length_cons]
    rw [show (1 : Int) = ((1 : Nat) : Int) from rfl, show (0 : Int) = ((0 : Nat) : Int) from rfl, this]
    unfold wordB
    simp only [Nat.zero_add, Bool.true_and]
    rw [show 1 + tt.length = tt.length + 1 by omega]
    congr 1
    generalize decide (1 ≤ hh.length) = p1
    generalize decide (hh.length ≤ 8) = p2
    generalize hh.all okc = p3
    generalize tt.all _ = p4
    generalize decide (tt.length + 1 ≤ 5) = p5
    revert p1 p2 p3 p4 p5
    decide
end Go.Proofs.Ytfgfdjlimhlcjaa.Con
