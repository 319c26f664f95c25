/- The plain laws of ContentKin and ContentCounts. The conditions: M bounds each string's size; a row's bound on the list of codes. -/
import Derived.Test.YtfgfdjlimhlcjaaCong
import Derived.Test.YtfgfdjlimhlcjaaQConx6
namespace Go.Proofs.Ytfgfdjlimhlcjaa.Con
open Go.RowKit Go.Proofs.Ytfgfdjlimhlcjaa.QCon Go.Proofs.YtfgfdjlimhlcjaaW.PrintWords Go.Proofs.YtfgfdjlimhlcjaaW.PrintLast Go.Proofs.Ytfgfdjlimhlcjaa.Hand

theorem kidsV_mem (c : ByteArray) : ∀ (o : List S42) (s : ByteArray), s ∈ kidsV c o → (parentV s).1.toList = c.toList ∧ ∃ t ∈ o, t.f0 = s
  | [], s, h => by simp [kidsV] at h
  | t :: o, s, h => by
    unfold kidsV at h
    by_cases hp : (parentV t.f0).1.toList = c.toList
    · rw [if_pos hp] at h
      rcases List.mem_cons.1 h with rfl | h
      · exact ⟨hp, t, List.mem_cons_self, rfl⟩
      · obtain ⟨h1, t', h2, h3⟩ := kidsV_mem c o s h
        exact ⟨h1, t', List.mem_cons_of_mem _ h2, h3⟩
    · rw [if_neg hp] at h
      obtain ⟨h1, t', h2, h3⟩ := kidsV_mem c o s h
      exact ⟨h1, t', List.mem_cons_of_mem _ h2, h3⟩
theorem kid_facts (c s : ByteArray) (hc : c.data.toList ≠ []) (h : (parentV s).1.toList = c.toList) : (parentV s).2 = true ∧ underB s.data.toList c.data.toList = true := by
  rw [Lib.toList_data, Lib.toList_data] at h
  have hp : (parL s.data.toList).1 = c.data.toList := h
  rcases parL_spec s.data.toList with ⟨h1, _⟩ | ⟨p, q, h1, h2, h3⟩
  · rw [h1] at hp
    exact absurd hp.symm hc
  · rw [h3] at hp
    obtain rfl : p = c.data.toList := hp
    exact ⟨by have := congrArg Prod.snd h3; exact this, (under_iff _ _).2 (Or.inr (Or.inr ⟨q, h1⟩))⟩
def kinS (o : List S42) (i : Nat) : Nat := (kidsL [] (codes o)).length + (((codes o).take i).map fun c => (kidsL c (codes o)).length).sum
theorem kinS_succ (o : List S42) (i : Nat) (hi : i < o.length) : kinS o (i + 1) = kinS o i + (kidsV (nm o i) o).length := by
  have hl : i < (codes o).length := by unfold codes; rw [List.length_map]; exact hi
  unfold kinS
  rw [List.take_succ_eq_append_getElem hl, List.map_append, List.sum_append, codes_get o i hl]
  have := congrArg List.length (kidsV_L (nm o i) o)
  rw [List.length_map] at this
  simp only [List.map_cons, List.map_nil, List.sum_cons, List.sum_nil]
  omega
theorem kinS_le (o : List S42) : ∀ i, i ≤ o.length → kinS o i ≤ o.length * (i + 1)
  | 0, _ => by
    unfold kinS
    simp only [List.take_zero, List.map_nil, List.sum_nil, Nat.add_zero, Nat.zero_add, Nat.mul_one]
    have := List.length_filter_le (fun x => decide ((parL x).1 = [])) (codes o)
    unfold codes at this ⊢
    rw [List.length_map] at this
    exact this
  | i + 1, hi => by
    have h1 := kinS_le o i (by omega)
    have h2 := kidsV_le (nm o i) o
    rw [kinS_succ o i (by omega), Nat.mul_add o.length (i + 1) 1, Nat.mul_one]
    omega
theorem kin_inner (M : Nat) (hM : M ≤ 4611686018427387904) (o : List S42) (hg : ∀ j, j < o.length → GoodAt o j) (hs : ∀ t ∈ o, t.f0.size ≤ M) (i : Nat) (hi : i < o.length) (h200 : o.length ≤ 200) (x5 : Int) (F : Nat) (hF : M < F) (hn : ∀ k, F < k → examboardlaw13_ContentKin.l0 k o x5 ((i + 1 : Nat) : Int) = some true) :
    ∀ (m : List ByteArray) (j : Nat) (k : Nat), (kidsV (nm o i) o).drop j = m → j + m.length = (kidsV (nm o i) o).length → F + m.length + 1 < k → examboardlaw13_ContentKin.l1 k o x5 (i : Int) (kidsV (nm o i) o) (j : Int) = some true := by
  have hkl := kidsV_le (nm o i) o
  intro m
  induction m with
  | nil =>
    intro j k hm hj hk
    obtain ⟨k, rfl⟩ : ∃ q, k = q + 1 := ⟨k - 1, by omega⟩
    simp only [List.length_nil, Nat.add_zero] at hj
    have h3 := hn k (by simp only [List.length_nil] at hk; omega)
    simp only [examboardlaw13_ContentKin.l1]
    rw [step1 i (by omega), h3, if_neg (by omega)]
    by_cases h0 : 0 < i
    · have e1 : (((i : Int) - 1)) = ((i - 1 : Nat) : Int) := by omega
      have hb := (hg i hi).2.1 h0
      rw [w64 ((i : Int) - 1) (by omega) (by omega), e1, rd42_nm, rd42_nm, if_pos (by omega), if_pos (by omega), if_pos (by omega), if_pos (by omega), if_pos (by omega), if_pos hb]
    · rw [if_neg (by omega)]
  | cons s m ih =>
    intro j k hm hj hk
    simp only [List.length_cons] at hj hk
    obtain ⟨k, rfl⟩ : ∃ q, k = q + 1 := ⟨k - 1, by omega⟩
    have i1 := ih (j + 1) k (drop_next hm) (by omega) (by omega)
    obtain ⟨hpe, t, ht, hts⟩ := kidsV_mem (nm o i) o s (drop_mem hm)
    have hsz : s.size ≤ M := by rw [← hts]; exact hs t ht
    obtain ⟨hp2, hu⟩ := kid_facts (nm o i) s (valid_ne _ (hg i hi).1) hpe
    have hps : (parentV s).1 = nm o i := eq_of_toList hpe
    have hus := Under_tells s.data.toList (nm o i).data.toList (by rw [size_data]; have := hs _ (nm_mem o i hi); unfold nm; omega)
    rw [ba_data, ba_data, hu] at hus
    simp only [examboardlaw13_ContentKin.l1]
    rw [rdS_drop hm, Parent_tells s (by omega) k (by omega), step1 j (by omega), i1, if_pos (by omega), if_pos (by omega)]
    simp only [Option.bind_some]
    rw [if_pos hp2, if_pos (by omega), if_pos (by omega), rd42_nm, hps, if_pos rfl, hus]
    rfl
theorem kin_loop (M : Nat) (hM : M ≤ 4611686018427387904) (o : List S42) (hg : ∀ j, j < o.length → GoodAt o j) (hs : ∀ t ∈ o, t.f0.size ≤ M) (h200 : o.length ≤ 200) : ∀ (d i k : Nat), i + d = o.length → M + 1000 + d * 210 < k → examboardlaw13_ContentKin.l0 k o ((kinS o i : Nat) : Int) (i : Int) = some true := by
  intro d
  induction d with
  | zero =>
    intro i k hi hk
    obtain ⟨k, rfl⟩ : ∃ q, k = q + 1 := ⟨k - 1, by omega⟩
    have hk2 := kin_sum (goodL hg)
    have hlen : (codes o).length = o.length := by unfold codes; rw [List.length_map]
    have hS : kinS o i = o.length := by
      unfold kinS
      rw [List.take_of_length_le (by omega), hk2, hlen]
    simp only [examboardlaw13_ContentKin.l0]
    rw [if_neg (by omega), hS, if_pos rfl, awake_tells k (by omega)]
    rfl
  | succ d ih =>
    intro i k hi hk
    obtain ⟨k, rfl⟩ : ∃ q, k = q + 1 := ⟨k - 1, by omega⟩
    have hlt : i < o.length := by omega
    have hkl := kidsV_le (nm o i) o
    have hkd := (Kids_tells M hM (nm o i) o (by omega) hs k (by omega)).1
    have hle := kinS_le o i (by omega)
    have hle2 : o.length * (i + 1) ≤ 200 * 201 := Nat.mul_le_mul h200 (by omega)
    have hin := kin_inner M hM o hg hs i hlt h200 ((kinS o (i + 1) : Nat) : Int) (M + 1000 + d * 210) (by omega) (fun k' hk' => ih (i + 1) k' (by omega) hk') (kidsV (nm o i) o) 0 k rfl (by omega) (by omega)
    simp only [examboardlaw13_ContentKin.l0]
    rw [rd42_nm, hkd, if_pos (by omega), if_pos (by omega)]
    simp only [Option.bind_some]
    rw [w64 _ (by omega) (by omega), show (((kinS o i : Nat) : Int) + ((kidsV (nm o i) o).length : Int)) = ((kinS o (i + 1) : Nat) : Int) by rw [kinS_succ o i hlt]; omega]
    exact hin
/-- The plain law of ContentKin. -/
theorem kin_law (M : Nat) (hM : M ≤ 4611686018427387904) (o : List S42) (hs : ∀ t ∈ o, t.f0.size ≤ M ∧ t.f1.size ≤ M) : ∃ k, examboardlaw13_ContentKin.f k o = some true := by
  obtain ⟨r, hr, hgood⟩ := Check_tells M hM o hs
  refine ⟨M + 60000, ?_⟩
  unfold examboardlaw13_ContentKin.f
  rw [hr (M + 60000) (by omega)]
  simp only [Option.bind_some]
  by_cases h : r.1 = 0
  · rw [if_pos h]
    obtain ⟨h200, hg⟩ := hgood h
    have hs1 : ∀ t ∈ o, t.f0.size ≤ M := fun t ht => (hs t ht).1
    have hkd := (Kids_tells M hM (⟨#[]⟩ : ByteArray) o (by omega) hs1 (M + 60000) (by omega)).1
    have hkl := kidsV_le (⟨#[]⟩ : ByteArray) o
    have e : (kidsV (⟨#[]⟩ : ByteArray) o).length = kinS o 0 := by
      have := congrArg List.length (kidsV_L (⟨#[]⟩ : ByteArray) o)
      rw [List.length_map] at this
      rw [this]
      unfold kinS
      simp only [List.take_zero, List.map_nil, List.sum_nil, Nat.add_zero]
    rw [hkd]
    simp only [Option.bind_some]
    rw [e]
    exact kin_loop M hM o hg hs1 h200 o.length 0 (M + 60000) (by omega) (by omega)
  · rw [if_neg h, awake_tells _ (by omega)]
    rfl

/-! ### ContentCounts -/
theorem has_loop (o : List S42) (ho : o.length ≤ 200) (c : ByteArray) : ∀ (m : List S42) (i k : Nat), o.drop i = m → i + m.length = o.length → m.length < k → examboardref13_Has.l0 k o c (i : Int) = some (m.any fun t => t.f0.toList == c.toList) := by
  intro m
  induction m with
  | nil =>
    intro i k hm hi hk
    obtain ⟨k, rfl⟩ : ∃ j, k = j + 1 := ⟨k - 1, by omega⟩
    simp only [List.length_nil, Nat.add_zero] at hi
    simp only [examboardref13_Has.l0]
    rw [if_neg (by omega)]
    rfl
  | cons t m ih =>
    intro i k hm hi hk
    simp only [List.length_cons] at hi hk
    obtain ⟨k, rfl⟩ : ∃ j, k = j + 1 := ⟨k - 1, by omega⟩
    have i1 := ih (i + 1) k (drop_next hm) (by omega) (by omega)
    simp only [examboardref13_Has.l0]
    rw [rd42_drop hm, step1 i (by omega), i1, if_pos (by omega), if_pos (by omega), List.any_cons]
    by_cases h : t.f0.toList = c.toList
    · rw [if_pos h, h, beq_self_eq_true, Bool.true_or]
    · rw [if_neg h, beq_eq_false_iff_ne.2 h, Bool.false_or]
def hasB (o : List S42) (c : ByteArray) : Bool := o.any fun t => t.f0.toList == c.toList
theorem listed_loop (o : List S42) (ho : o.length ≤ 200) (l : List ByteArray) (hl : l.length ≤ 4398046511104000) : ∀ (m : List ByteArray) (i k : Nat), l.drop i = m → i + m.length = l.length → m.length + 300 < k → examboardlaw13_listed.l0 k o l (i : Int) = some (m.all (hasB o)) := by
  intro m
  induction m with
  | nil =>
    intro i k hm hi hk
    obtain ⟨k, rfl⟩ : ∃ j, k = j + 1 := ⟨k - 1, by omega⟩
    simp only [List.length_nil, Nat.add_zero] at hi
    simp only [examboardlaw13_listed.l0]
    rw [if_neg (by omega)]
    rfl
  | cons t m ih =>
    intro i k hm hi hk
    simp only [List.length_cons] at hi hk
    obtain ⟨k, rfl⟩ : ∃ j, k = j + 1 := ⟨k - 1, by omega⟩
    have i1 := ih (i + 1) k (drop_next hm) (by omega) (by omega)
    have hh := has_loop o ho t o 0 k rfl (by omega) (by omega)
    simp only [examboardlaw13_listed.l0]
    unfold examboardref13_Has.f
    rw [rdS_drop hm, show (0 : Int) = ((0 : Nat) : Int) from rfl, hh, step1 i (by omega), i1, if_pos (by omega), if_pos (by omega), List.all_cons]
    simp only [Option.bind_some]
    change _ = some (hasB o t && _)
    unfold hasB
    cases (o.any fun u => u.f0.toList == t.toList) with
    | true => simp
    | false => simp
theorem hasB_mem {o : List S42} {c : ByteArray} (h : hasB o c = true) : c.data.toList ∈ codes o := by
  unfold hasB at h
  obtain ⟨t, ht, he⟩ := List.any_eq_true.1 h
  have he' : t.f0.toList = c.toList := by simpa using he
  rw [Lib.toList_data, Lib.toList_data] at he'
  unfold codes
  exact List.mem_map.2 ⟨t, ht, he'⟩
def eqV (top : ByteArray) : List ByteArray → Nat
  | [] => 0
  | s :: l => (if s.toList = top.toList then 1 else 0) + eqV top l
theorem eqV_cons (top s : ByteArray) (l : List ByteArray) : eqV top (s :: l) = (if s.toList = top.toList then 1 else 0) + eqV top l := rfl
theorem eqV_le (top : ByteArray) : ∀ l, eqV top l ≤ l.length
  | [] => Nat.le_refl _
  | s :: l => by
    have := eqV_le top l
    unfold eqV
    rw [List.length_cons]
    split <;> omega
def sumV (codes : List ByteArray) (kids : List ByteArray) : Nat := (kids.map fun kid => countV kid codes).sum
/-- The codes under a topic are those at it and those under its kids. -/
theorem counts_sum (o : List S42) (hg : ∀ j, j < o.length → GoodAt o j) (top : ByteArray) (ht : top.data.toList ∈ codes o) : ∀ (l : List ByteArray), l.all (hasB o) = true → eqV top l + sumV l (kidsV top o) = countV top l := by
  intro l
  induction l with
  | nil =>
    intro _
    have : ∀ K : List ByteArray, sumV [] K = 0 := by
      intro K
      unfold sumV
      induction K with
      | nil => rfl
      | cons a K ih => rw [List.map_cons, List.sum_cons, ih]; rfl
    rw [this]
    rfl
  | cons c l ih =>
    intro h
    rw [List.all_cons, Bool.and_eq_true] at h
    have ih' := ih h.2
    have hc := hasB_mem h.1
    have hk := kid_sum (goodL hg) top.data.toList c.data.toList ht hc
    have step : ∀ K : List ByteArray, sumV (c :: l) K = sumV l K + K.countP (fun kid => underB c.data.toList kid.data.toList) := by
      intro K
      unfold sumV
      induction K with
      | nil => rfl
      | cons a K ihK =>
        rw [List.map_cons, List.sum_cons, List.map_cons, List.sum_cons, ihK, List.countP_cons]
        conv => lhs; arg 1; unfold countV
        split <;> omega
    have hmap : (kidsV top o).countP (fun kid => underB c.data.toList kid.data.toList) = (kidsL top.data.toList (codes o)).countP (fun kid => underB c.data.toList kid) := by
      rw [← kidsV_L, List.countP_map]
      rfl
    rw [step, hmap]
    unfold eqV countV
    have e : (if c.toList = top.toList then 1 else 0) = (if c.data.toList = top.data.toList then 1 else 0) := by rw [Lib.toList_data, Lib.toList_data]
    rw [e]
    omega
theorem sumV_app (l K : List ByteArray) (s : ByteArray) : sumV l (K ++ [s]) = sumV l K + countV s l := by
  unfold sumV
  rw [List.map_append, List.sum_append]
  simp
theorem counts_inner (M : Nat) (hM : M ≤ 4611686018427387904) (l : List ByteArray) (hl : l.length ≤ 4398046511104000) (top : ByteArray) (htop : top.size ≤ M) (n : Nat) (hn : n ≤ l.length) (K : List ByteArray) (hK : K.length ≤ 200) (hKs : ∀ s ∈ K, s.size ≤ M) (htot : n + sumV l K = countV top l) :
    ∀ (m : List ByteArray) (j k : Nat), K.drop j = m → j + m.length = K.length → m.length + l.length + 100 < k → examboardlaw13_ContentCounts.l1 k l top (((n + sumV l (K.take j) : Nat)) : Int) K (j : Int) = some true := by
  intro m
  induction m with
  | nil =>
    intro j k hm hj hk
    obtain ⟨k, rfl⟩ : ∃ q, k = q + 1 := ⟨k - 1, by omega⟩
    simp only [List.length_nil, Nat.add_zero] at hj
    simp only [List.length_nil] at hk
    have hct := (Count_tells top (by omega) l hl k (by omega)).1
    simp only [examboardlaw13_ContentCounts.l1]
    rw [if_neg (by omega), hct, awake_tells k (by omega), List.take_of_length_le (by omega), htot]
    simp only [Option.bind_some]
    rw [if_pos trivial]
  | cons s m ih =>
    intro j k hm hj hk
    simp only [List.length_cons] at hj hk
    obtain ⟨k, rfl⟩ : ∃ q, k = q + 1 := ⟨k - 1, by omega⟩
    have i1 := ih (j + 1) k (drop_next hm) (by omega) (by omega)
    have hct := (Count_tells s (by have := hKs s (drop_mem hm); omega) l hl k (by omega)).1
    have hcl := countV_le top l
    have hget := drop_get hm
    have htk : K.take (j + 1) = K.take j ++ [s] := by
      have hlt : j < K.length := by omega
      rw [List.take_succ_eq_append_getElem hlt]
      congr 2
      rw [List.getElem?_eq_getElem hlt] at hget
      exact Option.some.inj hget
    rw [htk, sumV_app] at i1
    have hle : sumV l (K.take j) + countV s l ≤ sumV l K := by
      rw [← sumV_app, ← htk]
      unfold sumV
      have := congrArg (fun x => (x.map fun kid => countV kid l).sum) (List.take_append_drop (j + 1) K)
      simp only [List.map_append, List.sum_append] at this
      omega
    simp only [examboardlaw13_ContentCounts.l1]
    rw [rdS_drop hm, hct, step1 j (by omega), if_pos (by omega), if_pos (by omega)]
    simp only [Option.bind_some]
    rw [w64 _ (by omega) (by omega), show (((n + sumV l (K.take j) : Nat)) : Int) + ((countV s l : Nat) : Int) = ((n + (sumV l (K.take j) + countV s l) : Nat) : Int) by omega]
    exact i1
theorem counts_loop (M : Nat) (hM : M ≤ 4611686018427387904) (o : List S42) (h200 : o.length ≤ 200) (hg : ∀ j, j < o.length → GoodAt o j) (hs : ∀ t ∈ o, t.f0.size ≤ M) (l : List ByteArray) (hl : l.length ≤ 4398046511104000) (hall : l.all (hasB o) = true) (top : ByteArray) (ht : top.data.toList ∈ codes o) (htop : top.size ≤ M) :
    ∀ (m : List ByteArray) (i n k : Nat), l.drop i = m → i + m.length = l.length → n ≤ i → n + eqV top m = eqV top l → M + m.length + l.length + 1000 < k → examboardlaw13_ContentCounts.l0 k o l top (n : Int) (i : Int) = some true := by
  intro m
  induction m with
  | nil =>
    intro i n k hm hi hn he hk
    obtain ⟨k, rfl⟩ : ∃ j, k = j + 1 := ⟨k - 1, by omega⟩
    simp only [List.length_nil, Nat.add_zero] at hi
    simp only [List.length_nil] at hk
    have hkd := (Kids_tells M hM top o (by omega) hs k (by omega)).1
    have hkl := kidsV_le top o
    have hsum := counts_sum o hg top ht l hall
    have hn' : n = eqV top l := by simpa [eqV] using he
    have hin := counts_inner M hM l hl top htop n (by omega) (kidsV top o) (by omega) (fun s hs' => by obtain ⟨_, t, h1, h2⟩ := kidsV_mem top o s hs'; rw [← h2]; exact hs t h1) (by rw [hn']; exact hsum) (kidsV top o) 0 k rfl (by omega) (by omega)
    simp only [examboardlaw13_ContentCounts.l0]
    rw [if_neg (by omega), hkd]
    simp only [Option.bind_some]
    have e : (n + sumV l ((kidsV top o).take 0) : Nat) = n := by simp [sumV]
    rw [e] at hin
    exact hin
  | cons t m ih =>
    intro i n k hm hi hn he hk
    simp only [List.length_cons] at hi hk
    obtain ⟨k, rfl⟩ : ∃ j, k = j + 1 := ⟨k - 1, by omega⟩
    rw [eqV_cons] at he
    simp only [examboardlaw13_ContentCounts.l0]
    rw [rdS_drop hm, step1 i (by omega), step1 n (by omega), if_pos (by omega), if_pos (by omega)]
    by_cases h : t.toList = top.toList
    · rw [if_pos h] at he ⊢
      exact ih (i + 1) (n + 1) k (drop_next hm) (by omega) (by omega) (by omega) (by omega)
    · rw [if_neg h] at he ⊢
      exact ih (i + 1) n k (drop_next hm) (by omega) (by omega) (by omega) (by omega)
/-- The plain law of ContentCounts. -/
theorem counts_law (M : Nat) (hM : M ≤ 4611686018427387904) (o : List S42) (hs : ∀ t ∈ o, t.f0.size ≤ M ∧ t.f1.size ≤ M) (l : List ByteArray) (hl : l.length ≤ 4398046511104000) (a : Int) (ha : 0 ≤ a ∧ a ≤ 255) : ∃ k, examboardlaw13_ContentCounts.f k o l a = some true := by
  obtain ⟨r, hr, hgood⟩ := Check_tells M hM o hs
  refine ⟨M + 60000 + 2 * l.length, ?_⟩
  have jt : ∀ k, 60 ≤ k → examboardlaw13_ContentCounts.j0 (k + 1) o l a true = some true := by
    intro k hk
    simp only [examboardlaw13_ContentCounts.j0]
    rw [if_pos trivial, awake_tells k hk]
    rfl
  unfold examboardlaw13_ContentCounts.f
  rw [hr _ (by omega)]
  simp only [Option.bind_some]
  rw [show M + 60000 + 2 * l.length = (M + 59999 + 2 * l.length) + 1 by omega]
  by_cases h : r.1 = 0
  · rw [if_pos h, w64 a (by omega) (by omega)]
    obtain ⟨h200, hg⟩ := hgood h
    by_cases hb : a ≥ (o.length : Int)
    · rw [if_pos hb]
      exact jt _ (by omega)
    · rw [if_neg hb]
      have hli := listed_loop o h200 l hl l 0 ((M + 59999 + 2 * l.length) + 1) rfl (by omega) (by omega)
      unfold examboardlaw13_listed.f
      rw [show (0 : Int) = ((0 : Nat) : Int) from rfl, hli]
      simp only [Option.bind_some]
      by_cases hall : l.all (hasB o) = true
      · rw [hall]
        simp only [examboardlaw13_ContentCounts.j0]
        rw [if_neg (by decide), if_pos (by omega), if_pos (by omega)]
        obtain ⟨i, rfl⟩ : ∃ i : Nat, a = (i : Int) := ⟨a.toNat, by omega⟩
        have hi : i < o.length := by omega
        rw [rd42_nm]
        have hmem : (nm o i).data.toList ∈ codes o := by
          have hlen : i < (codes o).length := by unfold codes; rw [List.length_map]; exact hi
          rw [← codes_get o i hlen]
          exact List.getElem_mem _
        exact counts_loop M hM o h200 hg (fun t ht => (hs t ht).1) l hl hall (nm o i) hmem (hs _ (nm_mem o i hi)).1 l 0 0 _ rfl (by omega) (by omega) (by omega) (by omega)
      · have : l.all (hasB o) = false := by simpa using hall
        rw [this]
        exact jt _ (by omega)
  · rw [if_neg h]
    exact jt _ (by omega)
end Go.Proofs.Ytfgfdjlimhlcjaa.Con
