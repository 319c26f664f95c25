/- Lists of codes: Kids, Count and Unmet, the code's and the reference's. The conditions: M bounds each string's size, and the lists are no longer than a row can be. -/
import Derived.Test.YtfgfdjlimhlcjaaConc
import Derived.Test.YtfgfdjlimhlcjaaQConx5
namespace Go.Proofs.Ytfgfdjlimhlcjaa.Con
open Go.RowKit Go.Proofs.Ytfgfdjlimhlcjaa.QCon Go.Proofs.YtfgfdjlimhlcjaaW.PrintWords Go.Proofs.YtfgfdjlimhlcjaaW.PrintLast

theorem drop_next {α : Type} {l : List α} {i : Nat} {x : α} {m : List α} (h : l.drop i = x :: m) : l.drop (i + 1) = m := by rw [← List.drop_drop, h]; rfl
theorem drop_get {α : Type} {l : List α} {i : Nat} {x : α} {m : List α} (h : l.drop i = x :: m) : l[i]? = some x := by
  have := congrArg List.head? h
  rw [List.head?_drop] at this
  simpa using this
theorem drop_mem {α : Type} {l : List α} {i : Nat} {x : α} {m : List α} (h : l.drop i = x :: m) : x ∈ l := List.mem_of_getElem? (drop_get h)
theorem rd42_drop {l : List S42} {i : Nat} {x : S42} {m : List S42} (h : l.drop i = x :: m) : rd_T42 l (i : Int) = x := by
  unfold rd_T42
  rw [Int.toNat_natCast, List.getD_eq_getElem?_getD, drop_get h]
  rfl
theorem rd51_drop {l : List S51} {i : Nat} {x : S51} {m : List S51} (h : l.drop i = x :: m) : rd_T51 l (i : Int) = x := by
  unfold rd_T51
  rw [Int.toNat_natCast, List.getD_eq_getElem?_getD, drop_get h]
  rfl
theorem rdS_drop {l : List ByteArray} {i : Nat} {x : ByteArray} {m : List ByteArray} (h : l.drop i = x :: m) : rdOf ByteArray.empty l (i : Int) = x := by
  unfold rdOf
  rw [Int.toNat_natCast, List.getD_eq_getElem?_getD, drop_get h]
  rfl
theorem rdI_drop {l : List Int} {i : Nat} {x : Int} {m : List Int} (h : l.drop i = x :: m) : rd l (i : Int) = x := by
  unfold rd
  rw [Int.toNat_natCast, List.getD_eq_getElem?_getD, drop_get h]
  rfl

def kidsV (c : ByteArray) : List S42 → List ByteArray
  | [] => []
  | t :: o => if (parentV t.f0).1.toList = c.toList then t.f0 :: kidsV c o else kidsV c o
theorem kids_loop (M : Nat) (hM : M ≤ 4611686018427387904) (c : ByteArray) (o : List S42) (ho : o.length ≤ 4398046511104) (hs : ∀ t ∈ o, t.f0.size ≤ M) : ∀ (m : List S42) (i k : Nat) (acc : List ByteArray), o.drop i = m → i + m.length = o.length → acc.length + m.length ≤ o.length → M + m.length + 1 < k →
    content_Kids.l0 k c acc o (o.length : Int) (i : Int) = some (acc ++ kidsV c m) ∧ examboardref13_Kids.l0 k o c acc (i : Int) = some (acc ++ kidsV c m) := by
  intro m
  induction m with
  | nil =>
    intro i k acc hm hi ha hk
    obtain ⟨k, rfl⟩ : ∃ j, k = j + 1 := ⟨k - 1, by omega⟩
    simp only [List.length_nil, Nat.add_zero] at hi
    simp only [content_Kids.l0, examboardref13_Kids.l0]
    rw [if_neg (by omega), if_neg (by omega)]
    exact ⟨by rw [kidsV, List.append_nil], by rw [kidsV, List.append_nil]⟩
  | cons t m ih =>
    intro i k acc hm hi ha hk
    simp only [List.length_cons] at hi ha hk
    obtain ⟨k, rfl⟩ : ∃ j, k = j + 1 := ⟨k - 1, by omega⟩
    have hsz := hs t (drop_mem hm)
    have i1 := ih (i + 1) k (acc ++ [t.f0]) (drop_next hm) (by omega) (by rw [List.length_append, List.length_cons, List.length_nil]; omega) (by omega)
    have i2 := ih (i + 1) k acc (drop_next hm) (by omega) (by omega) (by omega)
    have h1 : (i : Int) < (o.length : Int) := by omega
    have h2 : 0 ≤ (i : Int) := by omega
    have h3 : acc.length < 8796093022208 := by omega
    simp only [content_Kids.l0, examboardref13_Kids.l0]
    rw [rd42_drop hm, Parent_tells t.f0 (by omega) k (by omega), refParent_tells t.f0 (by omega) k (by omega), step1 i (by omega)]
    simp only [Option.bind_some, if_pos h1, if_pos h2, if_pos h3]
    by_cases h : (parentV t.f0).1.toList = c.toList
    · rw [if_pos h, if_pos h, kidsV, if_pos h, i1.1, i1.2]
      simp
    · rw [if_neg h, if_neg h, kidsV, if_neg h, i2.1, i2.2]
      exact ⟨rfl, rfl⟩
theorem Kids_tells (M : Nat) (hM : M ≤ 4611686018427387904) (c : ByteArray) (o : List S42) (ho : o.length ≤ 4398046511104) (hs : ∀ t ∈ o, t.f0.size ≤ M) (k : Nat) (hk : M + o.length + 1 < k) : content_Kids.f k o c = some (kidsV c o) ∧ examboardref13_Kids.f k o c = some (kidsV c o) := by
  have := kids_loop M hM c o ho hs o 0 k [] rfl (by omega) (by simp) hk
  rw [List.nil_append] at this
  exact this
theorem same_strings (l : List ByteArray) (hl : l.length ≤ 4611686018427387904) : ∀ (m : List ByteArray) (i k : Nat), l.drop i = m → i + m.length = l.length → m.length < k → examboardref13_SameStrings.l0 k l l (i : Int) = some true := by
  intro m
  induction m with
  | nil =>
    intro i k hm hi hk
    obtain ⟨k, rfl⟩ : ∃ j, k = j + 1 := ⟨k - 1, by omega⟩
    simp only [List.length_nil, Nat.add_zero] at hi
    simp only [examboardref13_SameStrings.l0]
    rw [if_neg (by omega)]
  | cons t m ih =>
    intro i k hm hi hk
    simp only [List.length_cons] at hi hk
    obtain ⟨k, rfl⟩ : ∃ j, k = j + 1 := ⟨k - 1, by omega⟩
    have i1 := ih (i + 1) k (drop_next hm) (by omega) (by omega)
    simp only [examboardref13_SameStrings.l0]
    rw [step1 i (by omega), i1, if_pos (by omega), if_pos (by omega), if_pos (by omega), if_pos trivial]
theorem SameStrings_self (l : List ByteArray) (hl : l.length ≤ 4611686018427387904) (k : Nat) (hk : l.length < k) : examboardref13_SameStrings.f k l l = some true := by
  unfold examboardref13_SameStrings.f
  rw [if_pos rfl]
  exact same_strings l hl l 0 k rfl (by omega) hk
theorem same_ints (l : List Int) (hl : l.length ≤ 4611686018427387904) : ∀ (m : List Int) (i k : Nat), l.drop i = m → i + m.length = l.length → m.length < k → examboardref13_SameInts.l0 k l l (i : Int) = some true := by
  intro m
  induction m with
  | nil =>
    intro i k hm hi hk
    obtain ⟨k, rfl⟩ : ∃ j, k = j + 1 := ⟨k - 1, by omega⟩
    simp only [List.length_nil, Nat.add_zero] at hi
    simp only [examboardref13_SameInts.l0]
    rw [if_neg (by omega)]
  | cons t m ih =>
    intro i k hm hi hk
    simp only [List.length_cons] at hi hk
    obtain ⟨k, rfl⟩ : ∃ j, k = j + 1 := ⟨k - 1, by omega⟩
    have i1 := ih (i + 1) k (drop_next hm) (by omega) (by omega)
    simp only [examboardref13_SameInts.l0]
    rw [step1 i (by omega), i1, if_pos (by omega), if_pos (by omega), if_pos (by omega), if_pos trivial]
theorem SameInts_self (l : List Int) (hl : l.length ≤ 4611686018427387904) (k : Nat) (hk : l.length < k) : examboardref13_SameInts.f k l l = some true := by
  unfold examboardref13_SameInts.f
  rw [if_pos rfl]
  exact same_ints l hl l 0 k rfl (by omega) hk

/-! ### Count -/
def countV (c : ByteArray) : List ByteArray → Nat
  | [] => 0
  | s :: l => (if underB s.data.toList c.data.toList = true then 1 else 0) + countV c l
theorem countV_le (c : ByteArray) : ∀ l, countV c l ≤ l.length
  | [] => Nat.le_refl _
  | s :: l => by
    have := countV_le c l
    unfold countV
    rw [List.length_cons]
    split <;> omega
theorem count_loop (c : ByteArray) (hc : c.size ≤ 4611686018427387904) (l : List ByteArray) (hl : l.length ≤ 4398046511104000) : ∀ (m : List ByteArray) (i n k : Nat), l.drop i = m → i + m.length = l.length → n ≤ i → m.length < k →
    content_Count.l0 k c (n : Int) l (l.length : Int) (i : Int) = some (((n + countV c m : Nat) : Int)) ∧ examboardref13_Count.l0 k l c (n : Int) (i : Int) = some (((n + countV c m : Nat) : Int)) := by
  intro m
  induction m with
  | nil =>
    intro i n k hm hi hn hk
    obtain ⟨k, rfl⟩ : ∃ j, k = j + 1 := ⟨k - 1, by omega⟩
    simp only [List.length_nil, Nat.add_zero] at hi
    simp only [content_Count.l0, examboardref13_Count.l0]
    rw [if_neg (by omega), if_neg (by omega)]
    exact ⟨rfl, rfl⟩
  | cons t m ih =>
    intro i n k hm hi hn hk
    simp only [List.length_cons] at hi hk
    obtain ⟨k, rfl⟩ : ∃ j, k = j + 1 := ⟨k - 1, by omega⟩
    have i1 := ih (i + 1) (n + 1) k (drop_next hm) (by omega) (by omega) (by omega)
    have i2 := ih (i + 1) n k (drop_next hm) (by omega) (by omega) (by omega)
    have h1 : (i : Int) < (l.length : Int) := by omega
    have h2 : 0 ≤ (i : Int) := by omega
    have u1 := Under_tells t.data.toList c.data.toList hc
    have u2 := refUnder_tells t.data.toList c.data.toList
    rw [ba_data, ba_data] at u1 u2
    simp only [content_Count.l0, examboardref13_Count.l0]
    rw [rdS_drop hm, u1, u2, step1 i (by omega), step1 n (by omega)]
    simp only [Option.bind_some, if_pos h1, if_pos h2]
    unfold countV
    by_cases h : underB t.data.toList c.data.toList = true
    · rw [if_pos h, if_pos h, if_pos h, i1.1, i1.2, show n + 1 + countV c m = n + (1 + countV c m) by omega]
      exact ⟨rfl, rfl⟩
    · rw [if_neg h, if_neg h, if_neg h, i2.1, i2.2, Nat.zero_add]
      exact ⟨rfl, rfl⟩
theorem Count_tells (c : ByteArray) (hc : c.size ≤ 4611686018427387904) (l : List ByteArray) (hl : l.length ≤ 4398046511104000) (k : Nat) (hk : l.length < k) : content_Count.f k l c = some ((countV c l : Nat) : Int) ∧ examboardref13_Count.f k l c = some ((countV c l : Nat) : Int) := by
  have := count_loop c hc l hl l 0 0 k rfl (by omega) (by omega) hk
  rw [Nat.zero_add] at this
  exact this

/-! ### Unmet -/
def unmetV (codes : List ByteArray) : Nat → List S51 → List Int
  | _, [] => []
  | i, x :: l => if ((countV x.f0 codes : Nat) : Int) < x.f1 ∨ x.f2 < ((countV x.f0 codes : Nat) : Int) then (i : Int) :: unmetV codes (i + 1) l else unmetV codes (i + 1) l
theorem unmetV_le (codes : List ByteArray) : ∀ l i, (unmetV codes i l).length ≤ l.length
  | [], _ => Nat.le_refl _
  | x :: l, i => by
    have := unmetV_le codes l (i + 1)
    unfold unmetV
    rw [List.length_cons]
    split
    · rw [List.length_cons]; omega
    · omega
theorem unmet_loop (codes : List ByteArray) (hcl : codes.length ≤ 4398046511104000) (l : List S51) (hl : l.length ≤ 4398046511104) (hs : ∀ t ∈ l, t.f0.size ≤ 4611686018427387904) : ∀ (m : List S51) (i k : Nat) (acc : List Int), l.drop i = m → i + m.length = l.length → acc.length + m.length ≤ l.length → m.length + codes.length + 1 < k →
    content_Unmet.l0 k codes acc l (l.length : Int) (i : Int) = some (acc ++ unmetV codes i m) ∧ examboardref13_Unmet.l0 k codes l acc (i : Int) = some (acc ++ unmetV codes i m) := by
  intro m
  induction m with
  | nil =>
    intro i k acc hm hi ha hk
    obtain ⟨k, rfl⟩ : ∃ j, k = j + 1 := ⟨k - 1, by omega⟩
    simp only [List.length_nil, Nat.add_zero] at hi
    simp only [content_Unmet.l0, examboardref13_Unmet.l0]
    rw [if_neg (by omega), if_neg (by omega)]
    exact ⟨by rw [unmetV, List.append_nil], by rw [unmetV, List.append_nil]⟩
  | cons t m ih =>
    intro i k acc hm hi ha hk
    simp only [List.length_cons] at hi ha hk
    obtain ⟨k, rfl⟩ : ∃ j, k = j + 1 := ⟨k - 1, by omega⟩
    have i1 := ih (i + 1) k (acc ++ [(i : Int)]) (drop_next hm) (by omega) (by rw [List.length_append, List.length_cons, List.length_nil]; omega) (by omega)
    have i2 := ih (i + 1) k acc (drop_next hm) (by omega) (by omega) (by omega)
    have h1 : (i : Int) < (l.length : Int) := by omega
    have h2 : 0 ≤ (i : Int) := by omega
    have h3 : acc.length < 17592186044416 := by omega
    have hct := Count_tells t.f0 (hs t (drop_mem hm)) codes hcl k (by omega)
    simp only [content_Unmet.l0, examboardref13_Unmet.l0]
    rw [rd51_drop hm, hct.1, hct.2, step1 i (by omega)]
    simp only [Option.bind_some, if_pos h1, if_pos h2, if_pos h3]
    unfold unmetV
    by_cases h : ((countV t.f0 codes : Nat) : Int) < t.f1
    · rw [if_pos h, if_pos h, if_pos (Or.inl h), i1.1, i1.2]
      simp
    · rw [if_neg h, if_neg h]
      by_cases h' : ((countV t.f0 codes : Nat) : Int) > t.f2
      · rw [if_pos h', if_pos h', if_pos (Or.inr h'), i1.1, i1.2]
        simp
      · rw [if_neg h', if_neg h', if_neg (by omega), i2.1, i2.2]
        exact ⟨rfl, rfl⟩
theorem Unmet_tells (codes : List ByteArray) (hcl : codes.length ≤ 4398046511104000) (l : List S51) (hl : l.length ≤ 4398046511104) (hs : ∀ t ∈ l, t.f0.size ≤ 4611686018427387904) (k : Nat) (hk : l.length + codes.length + 1 < k) :
    content_Unmet.f k codes l = some (unmetV codes 0 l) ∧ examboardref13_Unmet.f k codes l = some (unmetV codes 0 l) := by
  have := unmet_loop codes hcl l hl hs l 0 k [] rfl (by omega) (by simp) hk
  rw [List.nil_append] at this
  exact this
theorem kidsV_le (c : ByteArray) : ∀ o, (kidsV c o).length ≤ o.length
  | [] => Nat.le_refl _
  | t :: o => by
    have := kidsV_le c o
    unfold kidsV
    rw [List.length_cons]
    split
    · rw [List.length_cons]; omega
    · omega

/-- The plain law of ContentLists. -/
theorem lists_law (o : List S42) (c : ByteArray) (codes : List ByteArray) (cells : List S51) (ho : o.length ≤ 4398046511104) (hos : ∀ t ∈ o, t.f0.size ≤ 140737488355328) (hc : c.size ≤ 140737488355328) (hcl : codes.length ≤ 4398046511104000)
    (hl : cells.length ≤ 4398046511104) (hs : ∀ t ∈ cells, t.f0.size ≤ 140737488355328) : ∃ k, examboardlaw13_ContentLists.f k o c codes cells = some true := by
  refine ⟨140737488355328 + o.length + codes.length + cells.length + 100, ?_⟩
  have hk := Kids_tells 140737488355328 (by omega) c o ho hos (140737488355328 + o.length + codes.length + cells.length + 100) (by omega)
  have hct := Count_tells c (by omega) codes hcl (140737488355328 + o.length + codes.length + cells.length + 100) (by omega)
  have hu := Unmet_tells codes hcl cells hl (fun t ht => by have := hs t ht; omega) (140737488355328 + o.length + codes.length + cells.length + 100) (by omega)
  have hkl := kidsV_le c o
  have hul := unmetV_le codes cells 0
  unfold examboardlaw13_ContentLists.f
  rw [hk.1, hk.2]
  simp only [Option.bind_some]
  rw [SameStrings_self _ (by omega) _ (by omega)]
  simp only [Option.bind_some, if_true]
  rw [hct.1, hct.2]
  simp only [Option.bind_some, if_true]
  rw [hu.1, hu.2]
  simp only [Option.bind_some]
  rw [SameInts_self _ (by omega) _ (by omega)]
  simp only [Option.bind_some, if_true]
  rw [awake_tells _ (by omega)]
  rfl
end Go.Proofs.Ytfgfdjlimhlcjaa.Con
