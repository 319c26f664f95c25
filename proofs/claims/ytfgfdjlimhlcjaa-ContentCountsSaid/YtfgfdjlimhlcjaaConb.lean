/- Content codes: the code's own Valid is the reference's; Under, both ways. The condition: a string's size is below 2^62. -/
import Derived.Test.YtfgfdjlimhlcjaaCona
namespace Go.Proofs.Ytfgfdjlimhlcjaa.Con
open Go.RowKit Go.Proofs.Ytfgfdjlimhlcjaa.QCon Go.Proofs.Ytfgfdjlimhlcjaa.QCutA Go.Proofs.YtfgfdjlimhlcjaaW.PrintWords Go.Proofs.YtfgfdjlimhlcjaaW.PrintLast Go.Proofs.Ytfgfdjlimhlcjaa.Hand

/-! ### Cut -/
theorem index_split : ∀ (l : List UInt8) (h : List UInt8) (t : List (List UInt8)), splitD l = h :: t →
    (t = [] ∧ h = l ∧ Lib.indexByte l 46 = -1) ∨ (t ≠ [] ∧ Lib.indexByte l 46 = (h.length : Int) ∧ h.length < l.length ∧ l.take h.length = h ∧ splitD (l.drop (h.length + 1)) = t) := by
  intro l
  induction l with
  | nil =>
    intro h t hs
    simp only [splitD, List.cons.injEq] at hs
    obtain ⟨rfl, rfl⟩ := hs
    exact Or.inl ⟨rfl, rfl, rfl⟩
  | cons c l ih =>
    intro h t hs
    obtain ⟨h', t', hl⟩ := splitD_cons l
    unfold splitD at hs
    by_cases hc : c = 46
    · rw [if_pos hc] at hs
      simp only [List.cons.injEq] at hs
      obtain ⟨rfl, rfl⟩ := hs
      refine Or.inr ⟨by rw [hl]; simp, ?_, by simp, rfl, rfl⟩
      simp only [Lib.indexByte, hc]
      rfl
    · rw [if_neg hc, hl] at hs
      simp only [List.cons.injEq] at hs
      obtain ⟨rfl, rfl⟩ := hs
      have hb : (c == 46) = false := by simpa using hc
      rcases ih h' t' hl with ⟨ht, hh, hi⟩ | ⟨ht, hi, hlt, htk, hd⟩
      · refine Or.inl ⟨ht, by rw [hh], ?_⟩
        simp only [Lib.indexByte, hb, hi]
        rfl
      · refine Or.inr ⟨ht, ?_, by simp only [List.length_cons]; omega, by simp only [List.length_cons, List.take_succ_cons, htk], by simp only [List.length_cons, List.drop_succ_cons]; exact hd⟩
        have hne : ((h'.length : Int) == -1) = false := by rw [beq_eq_false_iff_ne]; omega
        simp only [Lib.indexByte, hb, hi, hne]
        simp
theorem pt_ba : pt = ba [46] := rfl
theorem cut_tells (l h : List UInt8) (t : List (List UInt8)) (hs : splitD l = h :: t) (hl : l.length ≤ 4611686018427387904) :
    strings_Cut.f (ba l) pt = some (if t = [] then (ba h, ba [], false) else (ba h, ba (l.drop (h.length + 1)), true)) := by
  have hp : pt.toList = ([46] : List UInt8) := by rw [Lib.toList_data]
  have hps : pt.size = 1 := rfl
  unfold strings_Cut.f stringslite_Cut.f stringslite_Index.f
  rw [if_pos hp, data_ba, hps, ba_size]
  simp only [Option.bind_some]
  rcases index_split l h t hs with ⟨ht, hh, hi⟩ | ⟨ht, hi, hlt, htk, hd⟩
  · rw [hi, if_neg (by omega), if_pos ht, hh]
    rfl
  · rw [hi, if_pos (by omega), if_pos (by omega), if_pos (by omega), show (((1 : Nat) : Int)) = 1 from rfl, step1 h.length (by omega), if_pos (by omega), if_pos (by omega), if_neg ht]
    simp only [Option.bind_some, Int.toNat_natCast]
    rw [ba_extract, ba_extract, List.drop_zero, Nat.sub_zero, htk, List.take_of_length_le (by rw [List.length_drop]; omega)]

/-! ### The segments -/
def fillL : List ByteArray → Nat → List (List UInt8) → List ByteArray
  | L, _, [] => L
  | L, n, s :: ss => fillL (L.set n (ba s)) (n + 1) ss
theorem fillL_length : ∀ (ss : List (List UInt8)) (L : List ByteArray) (n : Nat), (fillL L n ss).length = L.length
  | [], L, n => rfl
  | s :: ss, L, n => by unfold fillL; rw [fillL_length ss, List.length_set]
theorem seg_tells : ∀ (d : Nat) (l : List UInt8) (n : Nat) (L : List ByteArray) (k : Nat), n + d = 5 → L.length = 5 → l.length ≤ 4611686018427387904 → d + 1 < k →
    ∃ L', L'.length = 5 ∧ segments.l0 k (n : Int) L (ba l) true = some (L', if n + (splitD l).length ≤ 5 then ((n + (splitD l).length : Nat) : Int) else 0) ∧ (n + (splitD l).length ≤ 5 → L' = fillL L n (splitD l)) := by
  intro d
  induction d with
  | zero =>
    intro l n L k hn hL hl hk
    obtain ⟨k, rfl⟩ : ∃ j, k = j + 1 := ⟨k - 1, by omega⟩
    obtain ⟨h, t, hs⟩ := splitD_cons l
    refine ⟨L, hL, ?_, ?_⟩
    · simp only [segments.l0]
      rw [if_pos trivial, if_pos (by omega), if_neg (by rw [hs, List.length_cons]; omega)]
    · intro hc
      rw [hs, List.length_cons] at hc
      omega
  | succ d ih =>
    intro l n L k hn hL hl hk
    obtain ⟨k, rfl⟩ : ∃ j, k = j + 1 := ⟨k - 1, by omega⟩
    obtain ⟨h, t, hs⟩ := splitD_cons l
    simp only [segments.l0]
    rw [if_pos trivial, if_neg (by omega), cut_tells l h t hs hl]
    simp only [Option.bind_some]
    rw [if_pos (by omega), if_pos (by omega), Int.toNat_natCast, hs, List.length_cons, show ((n : Int) + 1) = ((n + 1 : Nat) : Int) by omega]
    by_cases ht : t = []
    · subst ht
      rw [if_pos rfl]
      obtain ⟨k, rfl⟩ : ∃ j, k = j + 1 := ⟨k - 1, by omega⟩
      refine ⟨L.set n (ba h), by rw [List.length_set]; exact hL, ?_, ?_⟩
      · simp only [segments.l0]
        rw [if_neg (by decide), if_pos (by simp only [List.length_nil]; omega)]
        simp only [List.length_nil, Nat.zero_add]
      · intro _
        rfl
    · rw [if_neg ht]
      rcases index_split l h t hs with ⟨ht', _⟩ | ⟨_, _, hlt, _, hd⟩
      · exact absurd ht' ht
      · obtain ⟨L', h1, h2, h3⟩ := ih (l.drop (h.length + 1)) (n + 1) (L.set n (ba h)) k (by omega) (by rw [List.length_set]; exact hL) (by rw [List.length_drop]; omega) (by omega)
        rw [hd] at h2 h3
        refine ⟨L', h1, ?_, ?_⟩
        · rw [h2]
          rw [show n + 1 + t.length = n + (t.length + 1) by omega]
        · intro hc
          exact h3 (by omega)
theorem fill_get : ∀ (ss : List (List UInt8)) (L : List ByteArray) (n j : Nat), n + ss.length ≤ L.length →
    (∀ s, ss[j]? = some s → (fillL L n ss).getD (n + j) noStr = ba s) ∧ ∀ i, i < n → (fillL L n ss).getD i noStr = L.getD i noStr := by
  intro ss
  induction ss with
  | nil => intro L n j _; exact ⟨fun s h => by simp at h, fun i _ => rfl⟩
  | cons s ss ih =>
    intro L n j hL
    simp only [List.length_cons] at hL
    unfold fillL
    refine ⟨fun s' h => ?_, fun i hi => ?_⟩
    · cases j with
      | zero =>
        simp only [List.getElem?_cons_zero, Option.some.injEq] at h
        subst h
        show (fillL (L.set n (ba s)) (n + 1) ss).getD n noStr = ba s
        rw [(ih (L.set n (ba s)) (n + 1) 0 (by rw [List.length_set]; omega)).2 n (by omega), List.getD_eq_getElem?_getD, List.getElem?_set_self (by omega)]
        rfl
      | succ j =>
        rw [List.getElem?_cons_succ] at h
        have := (ih (L.set n (ba s)) (n + 1) j (by rw [List.length_set]; omega)).1 s' h
        rwa [show n + 1 + j = n + (j + 1) by omega] at this
    · rw [(ih (L.set n (ba s)) (n + 1) 0 (by rw [List.length_set]; omega)).2 i (by omega), List.getD_eq_getElem?_getD, List.getD_eq_getElem?_getD, List.getElem?_set_ne (by omega)]
theorem valid_loop (ss : List (List UInt8)) (L : List ByteArray) (h5 : ss.length ≤ 5) (hs : ∀ s ∈ ss, s.length ≤ 24) (hg : ∀ j s, ss[j]? = some s → L.getD j noStr = ba s) : ∀ (m : List (List UInt8)) (i k : Nat), ss.drop i = m → i + m.length = ss.length → m.length + 40 < k →
    content_Valid.l0 k L (ss.length : Int) (i : Int) = some (m.all wordB && decide (0 < ss.length)) := by
  intro m
  induction m with
  | nil =>
    intro i k hm hi hk
    obtain ⟨k, rfl⟩ : ∃ j, k = j + 1 := ⟨k - 1, by omega⟩
    simp only [List.length_nil, Nat.add_zero] at hi
    simp only [content_Valid.l0]
    rw [if_neg (by omega), List.all_nil, Bool.true_and]
    congr 1
    exact decide_eq_decide.2 (by omega)
  | cons s m ih =>
    intro i k hm hi hk
    simp only [List.length_cons] at hi hk
    obtain ⟨k, rfl⟩ : ∃ j, k = j + 1 := ⟨k - 1, by omega⟩
    have hd : ss.drop (i + 1) = m := by rw [← List.drop_drop, hm]; rfl
    have hi' := ih (i + 1) k hd (by omega) (by omega)
    have hget : ss[i]? = some s := by
      have := congrArg List.head? hm
      rw [List.head?_drop] at this
      simpa using this
    have hlen := hs s (List.mem_of_getElem? hget)
    simp only [content_Valid.l0]
    rw [if_pos (by omega), if_pos (by omega), if_pos (by omega), Int.toNat_natCast, hg i s hget, word_tells s (by omega) k (by omega), show ((i : Int) + 1) = ((i + 1 : Nat) : Int) by omega, hi']
    simp only [Option.bind_some, List.all_cons]
    cases wordB s with
    | true => simp
    | false => simp
theorem split_le (l : List UInt8) : ∀ s ∈ splitD l, s.length ≤ l.length := by
  induction l with
  | nil => intro s hs; simp [splitD] at hs; subst hs; simp
  | cons c l ih =>
    intro s hs
    obtain ⟨h, t, hl⟩ := splitD_cons l
    unfold splitD at hs
    rw [hl] at hs ih
    simp only [List.length_cons]
    split at hs
    · rcases List.mem_cons.1 hs with rfl | hs
      · simp
      · have := ih s hs; omega
    · rcases List.mem_cons.1 hs with rfl | hs
      · have := ih h List.mem_cons_self
        simp only [List.length_cons]; omega
      · have := ih s (List.mem_cons_of_mem _ hs); omega
theorem five_of {L : List ByteArray} (h : L.length = 5) : ∃ x, five L = some x := by
  match L, h with
  | [a0, a1, a2, a3, a4], _ => exact ⟨_, rfl⟩
theorem Valid_tells (l : List UInt8) (k : Nat) (hk : 60 ≤ k) : content_Valid.f k (ba l) = some (validB l) := by
  unfold content_Valid.f validB
  rw [ba_size]
  by_cases h : (l.length : Int) > 24
  · rw [if_pos h, decide_eq_false (show ¬ l.length ≤ 24 by omega)]; rfl
  · rw [if_neg h, decide_eq_true (show l.length ≤ 24 by omega), Bool.true_and]
    obtain ⟨L', h1, h2, h3⟩ := seg_tells 5 l 0 [noStr, noStr, noStr, noStr, noStr] k rfl rfl (by omega) (by omega)
    unfold segments.f
    rw [show (0 : Int) = ((0 : Nat) : Int) from rfl, h2]
    simp only [Option.bind_some, Nat.zero_add]
    obtain ⟨x, hx⟩ := five_of h1
    rw [hx]
    simp only [Option.bind_some]
    by_cases hn : (splitD l).length ≤ 5
    · rw [if_pos hn, decide_eq_true hn, Bool.true_and]
      have hL := h3 (by omega)
      have hfg := fun j => (fill_get (splitD l) [noStr, noStr, noStr, noStr, noStr] 0 j (by simp only [List.length_cons, List.length_nil]; omega)).1
      have := valid_loop (splitD l) L' hn (fun s hs => by have := split_le l s hs; omega) (fun j s hj => by rw [hL]; have := hfg j s hj; rwa [Nat.zero_add] at this) (splitD l) 0 k rfl (by omega) (by omega)
      rw [show (((0 : Nat) : Nat) : Int) = ((0 : Nat) : Int) from rfl, this]
      obtain ⟨hh, tt, hs⟩ := splitD_cons l
      rw [decide_eq_true (show 0 < (splitD l).length by rw [hs]; simp), Bool.and_true]
    · rw [if_neg hn, decide_eq_false hn, Bool.false_and]
      obtain ⟨k, rfl⟩ : ∃ j, k = j + 1 := ⟨k - 1, by omega⟩
      simp only [content_Valid.l0]
      rw [if_neg (by omega)]
      rfl

/-! ### Under -/
def underB (l t : List UInt8) : Bool := decide (t = []) || decide (l = t) || decide (l.take (t.length + 1) = t ++ [46])
theorem toList_ba (l : List UInt8) : (ba l).toList = l := by rw [Lib.toList_data]; rfl
theorem Under_tells (l t : List UInt8) (ht : t.length ≤ 4611686018427387904) : content_Under.f (ba l) (ba t) = some (underB l t) := by
  unfold content_Under.f underB
  rw [toList_ba, toList_ba]
  by_cases h1 : t = []
  · rw [if_pos h1, decide_eq_true h1]; rfl
  · rw [if_neg h1, decide_eq_false h1, Bool.false_or]
    by_cases h2 : l = t
    · rw [if_pos h2, decide_eq_true h2]; rfl
    · rw [if_neg h2, decide_eq_false h2, Bool.false_or, if_pos (by rw [ba_size]; omega)]
      unfold strings_HasPrefix.f stringslite_HasPrefix.f
      rw [show (⟨#[46]⟩ : ByteArray) = ba [46] from rfl, ba_append, ba_size, ba_size, List.length_append, List.length_cons, List.length_nil, Nat.zero_add]
      by_cases h3 : (l.length : Int) ≥ ((t.length + 1 : Nat) : Int)
      · rw [if_pos h3, if_pos (by omega), if_pos (by omega), ba_extract, toList_ba, toList_ba]
        simp only [Option.bind_some, List.drop_zero, Nat.sub_zero]
        congr 1
        rw [Bool.eq_iff_iff]
        simp
      · rw [if_neg h3, decide_eq_false]
        · rfl
        · intro he
          have := congrArg List.length he
          rw [List.length_take, List.length_append, List.length_cons, List.length_nil] at this
          omega
theorem refUnder_tells (l t : List UInt8) : examboardref13_Under.f (ba l) (ba t) = some (underB l t) := by
  unfold examboardref13_Under.f underB
  rw [toList_ba, toList_ba, ba_size, ba_size, ba_extract, toList_ba]
  by_cases h1 : t = []
  · rw [if_pos h1, decide_eq_true h1]; rfl
  · rw [if_neg h1, decide_eq_false h1, Bool.false_or]
    by_cases h2 : l = t
    · rw [if_pos h2, decide_eq_true h2]; rfl
    · rw [if_neg h2, decide_eq_false h2, Bool.false_or]
      by_cases h3 : (l.length : Int) > (t.length : Int)
      · rw [if_pos h3, if_pos (by omega), if_pos (by omega), List.drop_zero, Nat.sub_zero]
        have hlt : t.length < l.length := by omega
        have htk : l.take (t.length + 1) = l.take t.length ++ [l[t.length]] := List.take_succ_eq_append_getElem hlt
        by_cases h4 : l.take t.length = t
        · rw [if_pos h4, if_pos (by omega)]
          obtain ⟨hb, _⟩ := bt_drop l t.length (l[t.length]) (l.drop (t.length + 1)) (List.drop_eq_getElem_cons hlt)
          rw [hb]
          congr 1
          rw [htk, h4]
          rw [Bool.eq_iff_iff]
          simp only [beq_iff_eq, decide_eq_true_eq, List.append_cancel_left_eq, List.cons.injEq, and_true]
          exact ⟨fun h => UInt8.toNat_inj.1 (by show _ = 46; omega), fun h => by rw [h]; rfl⟩
        · rw [if_neg h4, decide_eq_false]
          intro he
          rw [htk] at he
          have := (List.append_inj' he rfl).1
          exact h4 this
      · rw [if_neg h3, decide_eq_false]
        intro he
        have := congrArg List.length he
        rw [List.length_take, List.length_append, List.length_cons, List.length_nil] at this
        omega
end Go.Proofs.Ytfgfdjlimhlcjaa.Con
