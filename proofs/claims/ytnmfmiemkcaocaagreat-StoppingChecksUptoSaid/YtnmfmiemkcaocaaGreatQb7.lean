/- Parts of the proof, joined: QR13x1, Cont, BpA, BpB, BpC, StA. No condition. -/
import Derived.Test.YtnmfmiemkcaocaaGreatQb6
set_option maxHeartbeats 8000000
set_option maxRecDepth 100000
namespace Go.Proofs.YtnmfmiemkcaocaaGreat.QR13
open Go.RowKit Go.Proofs.YtnmfmiemkcaocaaGreatW.PrintWords Go.Proofs.YtnmfmiemkcaocaaGreatW.PrintLast Go.Proofs.YtnmfmiemkcaocaaGreatW.PrintMore
attribute [local go_sem] max2_int min2_int max_two min_two max_three min_three max_four min_four   -- for this text's walks alone
set_option linter.unusedVariables false
set_option linter.unusedSimpArgs false
mutual
def examboardref13_Valid.l0 : Nat → ByteArray → Int → Int → Int → Option (Bool)
 | 0, _, _, _, _ => none
 | k + 1, x0, x3, x4, x5 => if x5 < (x0.size : Int) then (if 0 ≤ x5 then (if (bt x0 x5) = 46 then (if x4 = 0 then (some false) else (examboardref13_Valid.l0 k x0 (wrap64 (x3 + 1)) 0 (wrap64 (x5 + 1)))) else (if (bt x0 x5) < 65 then (if (bt x0 x5) < 48 then (examboardref13_Valid.j1 k x0 x3 x4 x5 true) else (examboardref13_Valid.j1 k x0 x3 x4 x5 (decide ((bt x0 x5) > 57)))) else (if (bt x0 x5) > 90 then (if (bt x0 x5) < 48 then (examboardref13_Valid.j1 k x0 x3 x4 x5 true) else (examboardref13_Valid.j1 k x0 x3 x4 x5 (decide ((bt x0 x5) > 57)))) else (examboardref13_Valid.j1 k x0 x3 x4 x5 false)))) else (none)) else (if x4 > 0 then (some (decide (x3 ≤ 5))) else (some false))
def examboardref13_Valid.j1 : Nat → ByteArray → Int → Int → Int → Bool → Option (Bool)
 | 0, _, _, _, _, _ => none
 | k + 1, x0, x3, x4, x5, x38 => if x38 = true then (some false) else (if (wrap64 (x4 + 1)) > 8 then (some false) else (examboardref13_Valid.l0 k x0 x3 (wrap64 (x4 + 1)) (wrap64 (x5 + 1))))
end
def examboardref13_Valid.f (k : Nat) (a0 : ByteArray) : Option (Bool) := if (a0.size : Int) > 24 then (some false) else (examboardref13_Valid.l0 k a0 1 0 0)
theorem examboardref13_Valid.mono_l : ∀ k, (∀ y0 y1 y2 y3, LeO (examboardref13_Valid.l0 k y0 y1 y2 y3) (examboardref13_Valid.l0 (k + 1) y0 y1 y2 y3)) ∧ (∀ y0 y1 y2 y3 y4, LeO (examboardref13_Valid.j1 k y0 y1 y2 y3 y4) (examboardref13_Valid.j1 (k + 1) y0 y1 y2 y3 y4))
 | 0 => ⟨fun _ _ _ _ r h => by simp [examboardref13_Valid.l0] at h, fun _ _ _ _ _ r h => by simp [examboardref13_Valid.j1] at h⟩
 | k + 1 => by
  obtain ⟨ih0, ih1⟩ := examboardref13_Valid.mono_l k
  refine ⟨?_, ?_⟩
  ·
   intro y0 y1 y2 y3
   unfold examboardref13_Valid.l0
   repeat' first
   | (with_reducible exact ih0 _ _ _ _)
   | (with_reducible exact ih1 _ _ _ _ _)
   | (with_reducible exact LeO.refl _)
   | (with_reducible exact LeO.none _)
   | (with_reducible refine LeO.ite ?_ ?_)
   | (with_reducible refine LeO.bind ?_ (fun _ => ?_))
   | exact ih0 _ _ _ _
   | exact ih1 _ _ _ _ _
   | exact LeO.none _
   | refine LeO.ite ?_ ?_
   | refine LeO.bind ?_ (fun _ => ?_)
  ·
   intro y0 y1 y2 y3 y4
   unfold examboardref13_Valid.j1
   repeat' first
   | (with_reducible exact ih0 _ _ _ _)
   | (with_reducible exact ih1 _ _ _ _ _)
   | (with_reducible exact LeO.refl _)
   | (with_reducible exact LeO.none _)
   | (with_reducible refine LeO.ite ?_ ?_)
   | (with_reducible refine LeO.bind ?_ (fun _ => ?_))
   | exact ih0 _ _ _ _
   | exact ih1 _ _ _ _ _
   | exact LeO.none _
   | refine LeO.ite ?_ ?_
   | refine LeO.bind ?_ (fun _ => ?_)
theorem examboardref13_Valid.mono : ∀ a0 k, LeO (examboardref13_Valid.f k a0) (examboardref13_Valid.f (k + 1) a0) := by
 intro a0 k
 obtain ⟨ih0, ih1⟩ := examboardref13_Valid.mono_l k
 unfold examboardref13_Valid.f
 repeat' first
  | (with_reducible exact ih0 _ _ _ _)
  | (with_reducible exact ih1 _ _ _ _ _)
  | (with_reducible exact LeO.refl _)
  | (with_reducible exact LeO.none _)
  | (with_reducible refine LeO.ite ?_ ?_)
  | (with_reducible refine LeO.bind ?_ (fun _ => ?_))
  | exact ih0 _ _ _ _
  | exact ih1 _ _ _ _ _
  | exact LeO.none _
  | refine LeO.ite ?_ ?_
  | refine LeO.bind ?_ (fun _ => ?_)
theorem examboardref13_Valid.calls (k : Nat) (a0 : ByteArray) (r : Bool) (w : World) (h : examboardref13_Valid.f k a0 = some r) :
  Calls Tryz.prog 74 #[.string a0] w fun e w' => e = .returned (.bool r) ∧ Drawn0 w w' := by
 have H : (if (a0.size : Int) > 24 then (some false) else (examboardref13_Valid.l0 k a0 1 0 0)) = some r := h
 clear h
 by_cases c2 : (a0.size : Int) > 24
 ·
  rw [if_pos c2] at H
  have c2b0 : decide (24 < (a0.size : Int)) = true := decide_eq_true c2
  have c2b1 : decide (24 < a0.size) = true := decide_eq_true (by omega)
  clear c2
  obtain rfl := Option.some.inj H
  go_enter Tryz.func74, Tryz.ntmps74
  go_wp2
  go_ret
  exact ⟨by first | rfl | (simp; done) | (simp [*]; done), by repeat (first | exact Drawn0.refl _ | apply Drawn0.step)⟩
 ·
  rw [if_neg c2] at H
  have c2b0 : decide (24 < (a0.size : Int)) = false := decide_eq_false c2
  have c2b1 : decide (24 < a0.size) = false := decide_eq_false (by omega)
  clear c2
  have H' := Aside0.mk H
  clear H
  go_enter Tryz.func74, Tryz.ntmps74
  go_wp2
  go_loopg [3, 4, 5] k (fun kq v3 v4 v5 w' => ∃ (x3_1 : Int) (x4_1 : Int) (x5_1 : Int), v3 = .int .i64 x3_1 ∧ v4 = .int .i64 x4_1 ∧ v5 = .int .i64 x5_1 ∧ Aside0 (examboardref13_Valid.l0 kq a0 x3_1 x4_1 x5_1 = some r) ∧ Aside0 (kq ≤ k) ∧ Drawn0 w w')
  case atStart => exact ⟨(1), (0), (0), (by first | rfl | (simp; done) | (simp [*]; done)), (by first | rfl | (simp; done) | (simp [*]; done)), (by first | rfl | (simp; done) | (simp [*]; done)), H', ⟨Nat.le_refl _⟩, by repeat (first | exact Drawn0.refl _ | apply Drawn0.step)⟩
  case round =>
   clear H'
   try clear c2
   try clear c2b0
   try clear c2b1
   try clear p2
   obtain ⟨x3_1, x4_1, x5_1, rfl, rfl, rfl, HA, HK1, ⟨m1, rfl⟩⟩ := hrel
   cases gk with
   | zero => exact absurd HA.out (by simp [examboardref13_Valid.l0])
   | succ k1 =>
    have H := HA.out
    clear HA
    simp only [examboardref13_Valid.l0] at H
    by_cases c3 : x5_1 < (a0.size : Int)
    ·
     rw [if_pos c3] at H
     have c3b0 : decide (x5_1 < (a0.size : Int)) = true := decide_eq_true c3
     clear c3
     by_cases c4 : 0 ≤ x5_1
     ·
      rw [if_pos c4] at H
      have c4b0 : decide (0 ≤ x5_1) = true := decide_eq_true c4
      clear c4
      by_cases c6 : (bt a0 x5_1) = 46
      ·
       rw [if_pos c6] at H
       have c6b0 : ((bt a0 x5_1) == 46) = true := beq_iff_eq.mpr c6
       have c6b1 : ((bt a0 x5_1) != 46) = false := bne_eq_false_iff_eq.mpr c6
       clear c6
       by_cases c7 : x4_1 = 0
       ·
        rw [if_pos c7] at H
        have c7b0 : (x4_1 == 0) = true := beq_iff_eq.mpr c7
        have c7b1 : (x4_1 != 0) = false := bne_eq_false_iff_eq.mpr c7
        clear c7
        obtain rfl := Option.some.inj H
        have p5 : 0 ≤ (x5_1 : Int) := of_decide_eq_true (by first | (with_reducible assumption) | assumption)
        have q5 : x5_1 < (a0.size : Int) := of_decide_eq_true (by first | (with_reducible assumption) | assumption)
        have hx5 := bt_at a0 x5_1
        replace p5 := eq_true p5
        replace q5 := eq_true q5
        go_wp2
        go_ret
        exact ⟨by first | rfl | (simp; done) | (simp [*]; done), by repeat (first | exact Drawn0.refl _ | apply Drawn0.step)⟩
       ·
        rw [if_neg c7] at H
        have c7b0 : (x4_1 == 0) = false := beq_eq_false_iff_ne.mpr c7
        have c7b1 : (x4_1 != 0) = true := bne_iff_ne.mpr c7
        have H' := Aside0.mk H
        clear H
        have p5 : 0 ≤ (x5_1 : Int) := of_decide_eq_true (by first | (with_reducible assumption) | assumption)
        have q5 : x5_1 < (a0.size : Int) := of_decide_eq_true (by first | (with_reducible assumption) | assumption)
        have hx5 := bt_at a0 x5_1
        replace p5 := eq_true p5
        replace q5 := eq_true q5
        go_wp2
        go_roundg k1
        case measure => have := HK1.out; omega
        case rel => exact ⟨(wrap64 (x3_1 + 1)), (0), (wrap64 (x5_1 + 1)), (by first | rfl | (simp; done) | (simp [*]; done)), (by first | rfl | (simp; done) | (simp [*]; done)), (by first | rfl | (simp; done) | (simp [*]; done)), H', ⟨by have := HK1.out; omega⟩, by repeat (first | exact Drawn0.refl _ | apply Drawn0.step)⟩
      ·
       rw [if_neg c6] at H
       have c6b0 : ((bt a0 x5_1) == 46) = false := beq_eq_false_iff_ne.mpr c6
       have c6b1 : ((bt a0 x5_1) != 46) = true := bne_iff_ne.mpr c6
       have HC8 := Aside0.mk H
       clear H
       have p5 : 0 ≤ (x5_1 : Int) := of_decide_eq_true (by first | (with_reducible assumption) | assumption)
       have q5 : x5_1 < (a0.size : Int) := of_decide_eq_true (by first | (with_reducible assumption) | assumption)
       have hx5 := bt_at a0 x5_1
       replace p5 := eq_true p5
       replace q5 := eq_true q5
       go_upto_region 13 with (fail)
       go_cut [38] (fun v38 wc => ∃ (kq : Nat) (x38_7 : Bool), v38 = .bool x38_7 ∧ Aside0 (examboardref13_Valid.j1 kq a0 x3_1 x4_1 x5_1 x38_7 = some r) ∧ Aside0 (kq ≤ k1) ∧ Drawn0 w wc)
       case first =>
        have H := HC8.out
        clear HC8
        by_cases c9 : (bt a0 x5_1) < 65
        ·
         rw [if_pos c9] at H
         have c9b0 : decide ((bt a0 x5_1) < 65) = true := decide_eq_true c9
         clear c9
         (first | rw [c9b0] | (simp only [i64_w, i32_w]; rw [c9b0]) | skip)
         by_cases c10 : (bt a0 x5_1) < 48
         ·
          rw [if_pos c10] at H
          have c10b0 : decide ((bt a0 x5_1) < 48) = true := decide_eq_true c10
          clear c10
          have H' := Aside0.mk H
          clear H
          go_wp2
          go_meet
          case rel => exact ⟨_, (true), (by first | rfl | (simp; done) | (simp [*]; done)), H', ⟨by have := HK1.out; first | omega | exact Nat.le_refl _⟩, by repeat (first | exact Drawn0.refl _ | apply Drawn0.step)⟩
         ·
          rw [if_neg c10] at H
          have c10b0 : decide ((bt a0 x5_1) < 48) = false := decide_eq_false c10
          clear c10
          have H' := Aside0.mk H
          clear H
          go_wp2
          go_meet
          case rel => exact ⟨_, (decide ((bt a0 x5_1) > 57)), (by first | rfl | (simp; done) | (simp [*]; done)), H', ⟨by have := HK1.out; first | omega | exact Nat.le_refl _⟩, by repeat (first | exact Drawn0.refl _ | apply Drawn0.step)⟩
        ·
         rw [if_neg c9] at H
         have c9b0 : decide ((bt a0 x5_1) < 65) = false := decide_eq_false c9
         clear c9
         (first | rw [c9b0] | (simp only [i64_w, i32_w]; rw [c9b0]) | skip)
         by_cases c11 : (bt a0 x5_1) > 90
         ·
          rw [if_pos c11] at H
          have c11b0 : decide (90 < (bt a0 x5_1)) = true := decide_eq_true c11
          clear c11
          by_cases c12 : (bt a0 x5_1) < 48
          ·
           rw [if_pos c12] at H
           have c12b0 : decide ((bt a0 x5_1) < 48) = true := decide_eq_true c12
           clear c12
           have H' := Aside0.mk H
           clear H
           go_wp2
           go_meet
           case rel => exact ⟨_, (true), (by first | rfl | (simp; done) | (simp [*]; done)), H', ⟨by have := HK1.out; first | omega | exact Nat.le_refl _⟩, by repeat (first | exact Drawn0.refl _ | apply Drawn0.step)⟩
          ·
           rw [if_neg c12] at H
           have c12b0 : decide ((bt a0 x5_1) < 48) = false := decide_eq_false c12
           clear c12
           have H' := Aside0.mk H
           clear H
           go_wp2
           go_meet
           case rel => exact ⟨_, (decide ((bt a0 x5_1) > 57)), (by first | rfl | (simp; done) | (simp [*]; done)), H', ⟨by have := HK1.out; first | omega | exact Nat.le_refl _⟩, by repeat (first | exact Drawn0.refl _ | apply Drawn0.step)⟩
         ·
          rw [if_neg c11] at H
          have c11b0 : decide (90 < (bt a0 x5_1)) = false := decide_eq_false c11
          clear c11
          have H' := Aside0.mk H
          clear H
          go_wp2
          go_meet
          case rel => exact ⟨_, (false), (by first | rfl | (simp; done) | (simp [*]; done)), H', ⟨by have := HK1.out; first | omega | exact Nat.le_refl _⟩, by repeat (first | exact Drawn0.refl _ | apply Drawn0.step)⟩
       case rest =>
        clear HC8
        try clear c1
        try clear c2
        try clear c2b0
        try clear c2b1
        try clear p2
        try clear c3
        try clear c3b0
        try clear c4
        try clear c4b0
        try clear p5
        try clear q5
        try clear hx5
        try clear c6
        try clear c6b0
        try clear c6b1
        try clear p6
        try clear c7
        try clear c7b0
        try clear c7b1
        try clear c9
        try clear c9b0
        try clear c10
        try clear c10b0
        try clear c11
        try clear c11b0
        try clear c12
        try clear c12b0
        try clear p2
        try clear p5
        try clear q5
        obtain ⟨kq, x38_7, rfl, HA, HJ7, ⟨mc7, rfl⟩⟩ := hcut
        cases kq with
        | zero => exact absurd HA.out (by simp [examboardref13_Valid.j1])
        | succ kj7 =>
         have H := HA.out
         clear HA
         simp only [examboardref13_Valid.j1] at H
         by_cases c13 : x38_7 = true
         ·
          subst c13
          have H1 : (some false) = some r := by rw [if_pos rfl] at H; exact H
          clear H
          have H := H1
          clear H1
          obtain rfl := Option.some.inj H
          go_wp2
          go_ret
          exact ⟨by first | rfl | (simp; done) | (simp [*]; done), by repeat (first | exact Drawn0.refl _ | apply Drawn0.step)⟩
         ·
          replace c13 := Bool.eq_false_iff.mpr c13
          subst c13
          have H1 : (if (wrap64 (x4_1 + 1)) > 8 then (some false) else (examboardref13_Valid.l0 kj7 a0 x3_1 (wrap64 (x4_1 + 1)) (wrap64 (x5_1 + 1)))) = some r := by rw [if_neg (show ¬ (false = true) by decide)] at H; exact H
          clear H
          have H := H1
          clear H1
          by_cases c14 : (wrap64 (x4_1 + 1)) > 8
          ·
           rw [if_pos c14] at H
           have c14b0 : decide (8 < (wrap64 (x4_1 + 1))) = true := decide_eq_true c14
           clear c14
           obtain rfl := Option.some.inj H
           go_wp2
           go_ret
           exact ⟨by first | rfl | (simp; done) | (simp [*]; done), by repeat (first | exact Drawn0.refl _ | apply Drawn0.step)⟩
          ·
           rw [if_neg c14] at H
           have c14b0 : decide (8 < (wrap64 (x4_1 + 1))) = false := decide_eq_false c14
           clear c14
           have H' := Aside0.mk H
           clear H
           go_wp2
           go_roundg kj7
           case measure => have := HK1.out; have := HJ7.out; omega
           case rel => exact ⟨(x3_1), (wrap64 (x4_1 + 1)), (wrap64 (x5_1 + 1)), (by first | rfl | (simp; done) | (simp [*]; done)), (by first | rfl | (simp; done) | (simp [*]; done)), (by first | rfl | (simp; done) | (simp [*]; done)), H', ⟨by have := HK1.out; have := HJ7.out; omega⟩, by repeat (first | exact Drawn0.refl _ | apply Drawn0.step)⟩
     ·
      rw [if_neg c4] at H
      exact absurd H (by simp)
    ·
     rw [if_neg c3] at H
     have c3b0 : decide (x5_1 < (a0.size : Int)) = false := decide_eq_false c3
     clear c3
     by_cases c15 : x4_1 > 0
     ·
      rw [if_pos c15] at H
      have c15b0 : decide (0 < x4_1) = true := decide_eq_true c15
      clear c15
      obtain rfl := Option.some.inj H
      go_wp2
      go_ret
      exact ⟨by first | rfl | (simp; done) | (simp [*]; done), by repeat (first | exact Drawn0.refl _ | apply Drawn0.step)⟩
     ·
      rw [if_neg c15] at H
      have c15b0 : decide (0 < x4_1) = false := decide_eq_false c15
      clear c15
      obtain rfl := Option.some.inj H
      go_wp2
      go_ret
      exact ⟨by first | rfl | (simp; done) | (simp [*]; done), by repeat (first | exact Drawn0.refl _ | apply Drawn0.step)⟩
end Go.Proofs.YtnmfmiemkcaocaaGreat.QR13
namespace Go.Proofs.YtnmfmiemkcaocaaGreat.Con
open Go.RowKit Go.Proofs.YtnmfmiemkcaocaaGreat.QR13 Go.Proofs.YtnmfmiemkcaocaaGreat.QCutA Go.Proofs.YtnmfmiemkcaocaaGreatW.PrintWords Go.Proofs.YtnmfmiemkcaocaaGreatW.PrintLast Go.Proofs.YtnmfmiemkcaocaaGreat.Hand
theorem w64 (x : Int) (h0 : -9223372036854775808 ≤ x) (h1 : x ≤ 9223372036854775807) : wrap64 x = x := by
 unfold wrap64
 omega
theorem step1 (i : Nat) (h : i ≤ 4611686018427387904) : wrap64 ((i : Int) + 1) = ((i + 1 : Nat) : Int) := by
 rw [w64 _ (by omega) (by omega)]
 omega
def ba (l : List UInt8) : ByteArray := ⟨l.toArray⟩
theorem ba_size (l : List UInt8) : (ba l).size = l.length := by
 show l.toArray.size = _
 simp
theorem ba_data (s : ByteArray) : ba s.data.toList = s := rfl
theorem data_ba (l : List UInt8) : (ba l).data.toList = l := rfl
theorem ba_extract (l : List UInt8) (i j : Nat) : (ba l).extract i j = ba ((l.drop i).take (j - i)) := by
 apply ByteArray.ext
 apply Array.toList_inj.1
 rw [ByteArray.data_extract, Array.toList_extract]
 rfl
theorem bt_drop (l : List UInt8) (i : Nat) (c : UInt8) (m : List UInt8) (h : l.drop i = c :: m) : bt (ba l) (i : Int) = (c.toNat : Int) ∧ i < l.length := by
 have hl : i < l.length := by
  rcases Nat.lt_or_ge i l.length with h' | h'
  ·
   exact h'
  ·
   rw [List.drop_of_length_le h'] at h; cases h
 refine ⟨?_, hl⟩
 have hc : l[i] = c := by
  have := List.drop_eq_getElem_cons hl
  rw [h] at this
  injection this with this _
  exact this.symm
 unfold bt
 rw [Int.toNat_natCast, dif_pos (by rw [ba_size]; exact hl)]
 show (((ba l).data[i]'_).toNat : Int) = _
 have : (ba l).data[i]'(by show i < l.toArray.size; simpa using hl) = l[i] := by simp [ba]
 rw [this, hc]
def okc (c : UInt8) : Bool := (decide (65 ≤ c.toNat) && decide (c.toNat ≤ 90)) || (decide (48 ≤ c.toNat) && decide (c.toNat ≤ 57))
def wordB (l : List UInt8) : Bool := decide (1 ≤ l.length) && decide (l.length ≤ 8) && l.all okc
theorem word_loop (l : List UInt8) (hl : l.length ≤ 4611686018427387904) : ∀ (m : List UInt8) (i k : Nat), l.drop i = m → m.length < k → i + m.length = l.length → content_word.l0 k (ba l) (l.length : Int) (i : Int) = some (m.all okc) := by
 intro m
 induction m with
 | nil =>
  intro i k hm hk hi
  obtain ⟨k, rfl⟩ : ∃ j, k = j + 1 := ⟨k - 1, by omega⟩
  simp only [content_word.l0]
  simp only [List.length_nil, Nat.add_zero] at hi
  rw [if_neg (by omega)]
  rfl
 | cons c m ih =>
  intro i k hm hk hi
  obtain ⟨k, rfl⟩ : ∃ j, k = j + 1 := ⟨k - 1, by omega⟩
  simp only [List.length_cons] at hk hi
  obtain ⟨hb, hlt⟩ := bt_drop l i c m hm
  have hd : l.drop (i + 1) = m := by rw [← List.drop_drop, hm]; rfl
  have hi' := ih (i + 1) k hd (by omega) (by omega)
  have hn := step1 i (by omega)
  simp only [content_word.l0]
  rw [hb, hn, hi', ba_size]
  clear hn hi' ih hd hm
  rw [if_pos (by omega), if_pos (by omega), if_pos (by omega)]
  rw [List.all_cons]
  unfold okc
  by_cases h1 : (c.toNat : Int) < 65
  ·
   rw [if_pos h1]
   by_cases h2 : (c.toNat : Int) < 48
   ·
    rw [if_pos h2, decide_eq_false (show ¬ 65 ≤ c.toNat by omega), decide_eq_false (show ¬ 48 ≤ c.toNat by omega)]; rfl
   ·
    rw [if_neg h2]
    by_cases h3 : (c.toNat : Int) > 57
    ·
     rw [if_pos h3, decide_eq_false (show ¬ 65 ≤ c.toNat by omega), decide_eq_false (show ¬ c.toNat ≤ 57 by omega), Bool.and_false]; rfl
    ·
     rw [if_neg h3, decide_eq_true (show 48 ≤ c.toNat by omega), decide_eq_true (show c.toNat ≤ 57 by omega)]; simp
  ·
   rw [if_neg h1]
   by_cases h2 : (c.toNat : Int) > 90
   ·
    rw [if_pos h2, if_neg (by omega), if_pos (by omega), decide_eq_false (show ¬ c.toNat ≤ 90 by omega), decide_eq_false (show ¬ c.toNat ≤ 57 by omega), Bool.and_false, Bool.and_false]; rfl
   ·
    rw [if_neg h2, decide_eq_true (show 65 ≤ c.toNat by omega), decide_eq_true (show c.toNat ≤ 90 by omega)]; simp
theorem word_tells (l : List UInt8) (hl : l.length ≤ 4611686018427387904) (k : Nat) (hk : l.length + 2 < k) : content_word.f k (ba l) = some (wordB l) := by
 obtain ⟨k, rfl⟩ : ∃ j, k = j + 1 := ⟨k - 1, by omega⟩
 unfold content_word.f wordB
 rw [ba_size]
 by_cases h1 : (l.length : Int) < 1
 ·
  rw [if_pos h1, decide_eq_false (show ¬ 1 ≤ l.length by omega)]; rfl
 ·
  rw [if_neg h1, decide_eq_true (show 1 ≤ l.length by omega)]
  by_cases h2 : (l.length : Int) > 8
  ·
   rw [decide_eq_true h2, decide_eq_false (show ¬ l.length ≤ 8 by omega)]; rfl
  ·
   rw [decide_eq_false h2, decide_eq_true (show l.length ≤ 8 by omega)]
   simp only [content_word.j0]
   rw [if_neg (by decide), ba_size]
   exact word_loop l hl l 0 k rfl (by omega) (by omega)
def splitD : List UInt8 → List (List UInt8)
 | [] => [[]]
 | c :: l => if c = 46 then [] :: splitD l else match splitD l with
  | h :: t => (c :: h) :: t
  | [] => [[c]]
theorem splitD_cons (l : List UInt8) : ∃ h t, splitD l = h :: t := by
 cases l with
 | nil => exact ⟨_, _, rfl⟩
 | cons c l =>
  unfold splitD
  split
  ·
   exact ⟨_, _, rfl⟩
  ·
   split
   ·
    exact ⟨_, _, rfl⟩
   ·
    exact ⟨_, _, rfl⟩
def scanB : Nat → Nat → List UInt8 → Bool
 | n, z, [] => decide (0 < z) && decide (n ≤ 5)
 | n, z, c :: m => if c = 46 then (if z = 0 then false else scanB (n + 1) 0 m) else if okc c = true then (if z + 1 > 8 then false else scanB n (z + 1) m) else false
theorem scan_split : ∀ (l : List UInt8) (n z : Nat) (h : List UInt8) (t : List (List UInt8)), splitD l = h :: t → z ≤ 8 →
  scanB n z l = (decide (1 ≤ z + h.length) && decide (z + h.length ≤ 8) && h.all okc && t.all wordB && decide (n + t.length ≤ 5)) := by
 intro l
 induction l with
 | nil =>
  intro n z h t hs hz
  simp only [splitD, List.cons.injEq] at hs
  obtain ⟨rfl, rfl⟩ := hs
  simp only [scanB, List.length_nil, Nat.add_zero, List.all_nil, Bool.and_true]
  rw [decide_eq_true hz, Bool.and_true]
  rfl
 | cons c l ih =>
  intro n z h t hs hz
  obtain ⟨h', t', hl⟩ := splitD_cons l
  unfold splitD at hs
  unfold scanB
  by_cases hc : c = 46
  ·
   rw [if_pos hc] at hs ⊢
   simp only [List.cons.injEq] at hs
   obtain ⟨rfl, rfl⟩ := hs
   rw [hl]
   by_cases h0 : z = 0
   ·
    rw [if_pos h0, h0]
    simp
   ·
    rw [if_neg h0, ih (n + 1) 0 h' t' hl (by omega)]
    simp only [Nat.zero_add, List.length_nil, Nat.add_zero, List.all_nil, Bool.and_true, List.all_cons, List.length_cons]
    rw [decide_eq_true (show 1 ≤ z by omega), decide_eq_true hz, show n + 1 + t'.length = n + (t'.length + 1) by omega]
    unfold wordB
    simp [Bool.and_assoc]
  ·
   rw [if_neg hc] at hs ⊢
   rw [hl] at hs
   simp only [List.cons.injEq] at hs
   obtain ⟨rfl, rfl⟩ := hs
   rw [List.all_cons, List.length_cons]
   by_cases ho : okc c = true
   ·
    rw [if_pos ho, ho]
    by_cases h8 : z + 1 > 8
    ·
     rw [if_pos h8, decide_eq_false (show ¬ z + (h'.length + 1) ≤ 8 by omega)]
     simp
    ·
     rw [if_neg h8, ih n (z + 1) h' t' hl (by omega)]
     rw [show z + 1 + h'.length = z + (h'.length + 1) by omega]
     simp
   ·
    rw [if_neg ho]
    have : okc c = false := by simpa using ho
    rw [this]
    simp
def validB (l : List UInt8) : Bool := decide (l.length ≤ 24) && decide ((splitD l).length ≤ 5) && (splitD l).all wordB
theorem refValid_loop (l : List UInt8) (hl : l.length ≤ 24) : ∀ (m : List UInt8) (i n z k : Nat), l.drop i = m → i + m.length = l.length → 2 * m.length < k → n ≤ i + 1 → z ≤ 8 → examboardref13_Valid.l0 k (ba l) (n : Int) (z : Int) (i : Int) = some (scanB n z m) := by
 intro m
 induction m with
 | nil =>
  intro i n z k hm hi hk hn hz
  obtain ⟨k, rfl⟩ : ∃ j, k = j + 1 := ⟨k - 1, by omega⟩
  simp only [List.length_nil, Nat.add_zero] at hi
  simp only [examboardref13_Valid.l0, scanB, ba_size]
  rw [if_neg (by omega)]
  by_cases h0 : (z : Int) > 0
  ·
   rw [if_pos h0, decide_eq_true (show 0 < z by omega), Bool.true_and]
   congr 1
   exact decide_eq_decide.2 (by omega)
  ·
   rw [if_neg h0, decide_eq_false (show ¬ 0 < z by omega)]; rfl
 | cons c m ih =>
  intro i n z k hm hi hk hn hz
  simp only [List.length_cons] at hk hi
  obtain ⟨k, rfl⟩ : ∃ j, k = j + 2 := ⟨k - 2, by omega⟩
  obtain ⟨hb, hlt⟩ := bt_drop l i c m hm
  have hd : l.drop (i + 1) = m := by rw [← List.drop_drop, hm]; rfl
  have i1 := ih (i + 1) (n + 1) 0 (k + 1) hd (by omega) (by omega) (by omega) (by omega)
  have hw := step1 i (by omega)
  have hwn := step1 n (by omega)
  have j1f : examboardref13_Valid.j1 (k + 1) (ba l) (n : Int) (z : Int) (i : Int) false = some (if z + 1 > 8 then false else scanB n (z + 1) m) := by
   simp only [examboardref13_Valid.j1]
   rw [if_neg (by decide), step1 z (by omega), step1 i (by omega)]
   clear hw hwn i1
   by_cases h8 : z + 1 > 8
   ·
    rw [if_pos (by omega), if_pos h8]
   ·
    rw [if_neg (by omega), if_neg h8]
    exact ih (i + 1) n (z + 1) k hd (by omega) (by omega) (by omega) (by omega)
  have j1t : examboardref13_Valid.j1 (k + 1) (ba l) (n : Int) (z : Int) (i : Int) true = some false := rfl
  have hc46 : (c.toNat : Int) = 46 ↔ c = 46 := ⟨fun h => UInt8.toNat_inj.1 (by show c.toNat = 46; omega), fun h => by rw [h]; rfl⟩
  simp only [examboardref13_Valid.l0, scanB, ba_size]
  rw [hb, hw, hwn]
  clear hw hwn ih hd hm
  rw [if_pos (by omega), if_pos (by omega)]
  by_cases h46 : c = 46
  ·
   rw [if_pos (hc46.2 h46), if_pos h46]
   by_cases hz0 : z = 0
   ·
    rw [if_pos (by omega), if_pos hz0]
   ·
    rw [if_neg (by omega), if_neg hz0]
    exact i1
  ·
   rw [if_neg (fun h => h46 (hc46.1 h)), if_neg h46]
   unfold okc
   by_cases h1 : (c.toNat : Int) < 65
   ·
    rw [if_pos h1]
    by_cases h2 : (c.toNat : Int) < 48
    ·
     rw [if_pos h2, j1t, decide_eq_false (show ¬ 65 ≤ c.toNat by omega), decide_eq_false (show ¬ 48 ≤ c.toNat by omega)]; rfl
    ·
     rw [if_neg h2]
     by_cases h3 : (c.toNat : Int) > 57
     ·
      rw [decide_eq_true h3, j1t, decide_eq_false (show ¬ 65 ≤ c.toNat by omega), decide_eq_false (show ¬ c.toNat ≤ 57 by omega), Bool.and_false]; rfl
     ·
      rw [decide_eq_false h3, j1f, decide_eq_true (show 48 ≤ c.toNat by omega), decide_eq_true (show c.toNat ≤ 57 by omega)]; simp
   ·
    rw [if_neg h1]
    by_cases h2 : (c.toNat : Int) > 90
    ·
     rw [if_pos h2, if_neg (by omega), decide_eq_true (show (c.toNat : Int) > 57 by omega), j1t, decide_eq_false (show ¬ c.toNat ≤ 90 by omega), decide_eq_false (show ¬ c.toNat ≤ 57 by omega), Bool.and_false, Bool.and_false]; rfl
    ·
     rw [if_neg h2, j1f, decide_eq_true (show 65 ≤ c.toNat by omega), decide_eq_true (show c.toNat ≤ 90 by omega)]; simp
theorem refValid_tells (l : List UInt8) (k : Nat) (hk : 60 ≤ k) : examboardref13_Valid.f k (ba l) = some (validB l) := by
 unfold examboardref13_Valid.f validB
 rw [ba_size]
 by_cases h : (l.length : Int) > 24
 ·
  rw [if_pos h, decide_eq_false (show ¬ l.length ≤ 24 by omega)]; rfl
 ·
  rw [if_neg h, decide_eq_true (show l.length ≤ 24 by omega)]
  have := refValid_loop l (by omega) l 0 1 0 k rfl (by omega) (by omega) (by omega) (by omega)
  obtain ⟨hh, tt, hs⟩ := splitD_cons l
  rw [scan_split l 1 0 hh tt hs (by omega)] at this
  rw [hs, List.all_cons, List.length_cons]
  rw [show (1 : Int) = ((1 : Nat) : Int) from rfl, show (0 : Int) = ((0 : Nat) : Int) from rfl, this]
  unfold wordB
  simp only [Nat.zero_add, Bool.true_and]
  rw [show 1 + tt.length = tt.length + 1 by omega]
  congr 1
  generalize decide (1 ≤ hh.length) = p1
  generalize decide (hh.length ≤ 8) = p2
  generalize hh.all okc = p3
  generalize tt.all _ = p4
  generalize decide (tt.length + 1 ≤ 5) = p5
  revert p1 p2 p3 p4 p5
  decide
theorem index_split : ∀ (l : List UInt8) (h : List UInt8) (t : List (List UInt8)), splitD l = h :: t →
  (t = [] ∧ h = l ∧ Lib.indexByte l 46 = -1) ∨ (t ≠ [] ∧ Lib.indexByte l 46 = (h.length : Int) ∧ h.length < l.length ∧ l.take h.length = h ∧ splitD (l.drop (h.length + 1)) = t) := by
 intro l
 induction l with
 | nil =>
  intro h t hs
  simp only [splitD, List.cons.injEq] at hs
  obtain ⟨rfl, rfl⟩ := hs
  exact Or.inl ⟨rfl, rfl, rfl⟩
 | cons c l ih =>
  intro h t hs
  obtain ⟨h', t', hl⟩ := splitD_cons l
  unfold splitD at hs
  by_cases hc : c = 46
  ·
   rw [if_pos hc] at hs
   simp only [List.cons.injEq] at hs
   obtain ⟨rfl, rfl⟩ := hs
   refine Or.inr ⟨by rw [hl]; simp, ?_, by simp, rfl, rfl⟩
   simp only [Lib.indexByte, hc]
   rfl
  ·
   rw [if_neg hc, hl] at hs
   simp only [List.cons.injEq] at hs
   obtain ⟨rfl, rfl⟩ := hs
   have hb : (c == 46) = false := by simpa using hc
   rcases ih h' t' hl with ⟨ht, hh, hi⟩ | ⟨ht, hi, hlt, htk, hd⟩
   ·
    refine Or.inl ⟨ht, by rw [hh], ?_⟩
    simp only [Lib.indexByte, hb, hi]
    rfl
   ·
    refine Or.inr ⟨ht, ?_, by simp only [List.length_cons]; omega, by simp only [List.length_cons, List.take_succ_cons, htk], by simp only [List.length_cons, List.drop_succ_cons]; exact hd⟩
    have hne : ((h'.length : Int) == -1) = false := by rw [beq_eq_false_iff_ne]; omega
    simp only [Lib.indexByte, hb, hi, hne]
    simp
theorem cut_tells (l h : List UInt8) (t : List (List UInt8)) (hs : splitD l = h :: t) (hl : l.length ≤ 4611686018427387904) :
  strings_Cut.f (ba l) pt = some (if t = [] then (ba h, ba [], false) else (ba h, ba (l.drop (h.length + 1)), true)) := by
 have hp : pt.toList = ([46] : List UInt8) := by rw [Lib.toList_data]
 have hps : pt.size = 1 := rfl
 unfold strings_Cut.f stringslite_Cut.f stringslite_Index.f
 rw [if_pos hp, data_ba, hps, ba_size]
 simp only [Option.bind_some]
 rcases index_split l h t hs with ⟨ht, hh, hi⟩ | ⟨ht, hi, hlt, htk, hd⟩
 ·
  rw [hi, if_neg (by omega), if_pos ht, hh]
  rfl
 ·
  rw [hi, if_pos (by omega), if_pos (by omega), if_pos (by omega), show (((1 : Nat) : Int)) = 1 from rfl, step1 h.length (by omega), if_pos (by omega), if_pos (by omega), if_neg ht]
  simp only [Option.bind_some, Int.toNat_natCast]
  rw [ba_extract, ba_extract, List.drop_zero, Nat.sub_zero, htk, List.take_of_length_le (by rw [List.length_drop]; omega)]
def fillL : List ByteArray → Nat → List (List UInt8) → List ByteArray
 | L, _, [] => L
 | L, n, s :: ss => fillL (L.set n (ba s)) (n + 1) ss
theorem seg_tells : ∀ (d : Nat) (l : List UInt8) (n : Nat) (L : List ByteArray) (k : Nat), n + d = 5 → L.length = 5 → l.length ≤ 4611686018427387904 → d + 1 < k →
  ∃ L', L'.length = 5 ∧ segments.l0 k (n : Int) L (ba l) true = some (L', if n + (splitD l).length ≤ 5 then ((n + (splitD l).length : Nat) : Int) else 0) ∧ (n + (splitD l).length ≤ 5 → L' = fillL L n (splitD l)) := by
 intro d
 induction d with
 | zero =>
  intro l n L k hn hL hl hk
  obtain ⟨k, rfl⟩ : ∃ j, k = j + 1 := ⟨k - 1, by omega⟩
  obtain ⟨h, t, hs⟩ := splitD_cons l
  refine ⟨L, hL, ?_, ?_⟩
  ·
   simp only [segments.l0]
   rw [if_pos trivial, if_pos (by omega), if_neg (by rw [hs, List.length_cons]; omega)]
  ·
   intro hc
   rw [hs, List.length_cons] at hc
   omega
 | succ d ih =>
  intro l n L k hn hL hl hk
  obtain ⟨k, rfl⟩ : ∃ j, k = j + 1 := ⟨k - 1, by omega⟩
  obtain ⟨h, t, hs⟩ := splitD_cons l
  simp only [segments.l0]
  rw [if_pos trivial, if_neg (by omega), cut_tells l h t hs hl]
  simp only [Option.bind_some]
  rw [if_pos (by omega), if_pos (by omega), Int.toNat_natCast, hs, List.length_cons, show ((n : Int) + 1) = ((n + 1 : Nat) : Int) by omega]
  by_cases ht : t = []
  ·
   subst ht
   rw [if_pos rfl]
   obtain ⟨k, rfl⟩ : ∃ j, k = j + 1 := ⟨k - 1, by omega⟩
   refine ⟨L.set n (ba h), by rw [List.length_set]; exact hL, ?_, ?_⟩
   ·
    simp only [segments.l0]
    rw [if_neg (by decide), if_pos (by simp only [List.length_nil]; omega)]
    simp only [List.length_nil, Nat.zero_add]
   ·
    intro _
    rfl
  ·
   rw [if_neg ht]
   rcases index_split l h t hs with ⟨ht', _⟩ | ⟨_, _, hlt, _, hd⟩
   ·
    exact absurd ht' ht
   ·
    obtain ⟨L', h1, h2, h3⟩ := ih (l.drop (h.length + 1)) (n + 1) (L.set n (ba h)) k (by omega) (by rw [List.length_set]; exact hL) (by rw [List.length_drop]; omega) (by omega)
    rw [hd] at h2 h3
    refine ⟨L', h1, ?_, ?_⟩
    ·
     rw [h2]
     rw [show n + 1 + t.length = n + (t.length + 1) by omega]
    ·
     intro hc
     exact h3 (by omega)
theorem fill_get : ∀ (ss : List (List UInt8)) (L : List ByteArray) (n j : Nat), n + ss.length ≤ L.length →
  (∀ s, ss[j]? = some s → (fillL L n ss).getD (n + j) noStr = ba s) ∧ ∀ i, i < n → (fillL L n ss).getD i noStr = L.getD i noStr := by
 intro ss
 induction ss with
 | nil => intro L n j _; exact ⟨fun s h => by simp at h, fun i _ => rfl⟩
 | cons s ss ih =>
  intro L n j hL
  simp only [List.length_cons] at hL
  unfold fillL
  refine ⟨fun s' h => ?_, fun i hi => ?_⟩
  ·
   cases j with
   | zero =>
    simp only [List.getElem?_cons_zero, Option.some.injEq] at h
    subst h
    show (fillL (L.set n (ba s)) (n + 1) ss).getD n noStr = ba s
    rw [(ih (L.set n (ba s)) (n + 1) 0 (by rw [List.length_set]; omega)).2 n (by omega), List.getD_eq_getElem?_getD, List.getElem?_set_self (by omega)]
    rfl
   | succ j =>
    rw [List.getElem?_cons_succ] at h
    have := (ih (L.set n (ba s)) (n + 1) j (by rw [List.length_set]; omega)).1 s' h
    rwa [show n + 1 + j = n + (j + 1) by omega] at this
  ·
   rw [(ih (L.set n (ba s)) (n + 1) 0 (by rw [List.length_set]; omega)).2 i (by omega), List.getD_eq_getElem?_getD, List.getD_eq_getElem?_getD, List.getElem?_set_ne (by omega)]
theorem valid_loop (ss : List (List UInt8)) (L : List ByteArray) (h5 : ss.length ≤ 5) (hs : ∀ s ∈ ss, s.length ≤ 24) (hg : ∀ j s, ss[j]? = some s → L.getD j noStr = ba s) : ∀ (m : List (List UInt8)) (i k : Nat), ss.drop i = m → i + m.length = ss.length → m.length + 40 < k →
  content_Valid.l0 k L (ss.length : Int) (i : Int) = some (m.all wordB && decide (0 < ss.length)) := by
 intro m
 induction m with
 | nil =>
  intro i k hm hi hk
  obtain ⟨k, rfl⟩ : ∃ j, k = j + 1 := ⟨k - 1, by omega⟩
  simp only [List.length_nil, Nat.add_zero] at hi
  simp only [content_Valid.l0]
  rw [if_neg (by omega), List.all_nil, Bool.true_and]
  congr 1
  exact decide_eq_decide.2 (by omega)
 | cons s m ih =>
  intro i k hm hi hk
  simp only [List.length_cons] at hi hk
  obtain ⟨k, rfl⟩ : ∃ j, k = j + 1 := ⟨k - 1, by omega⟩
  have hd : ss.drop (i + 1) = m := by rw [← List.drop_drop, hm]; rfl
  have hi' := ih (i + 1) k hd (by omega) (by omega)
  have hget : ss[i]? = some s := by
   have := congrArg List.head? hm
   rw [List.head?_drop] at this
   simpa using this
  have hlen := hs s (List.mem_of_getElem? hget)
  simp only [content_Valid.l0]
  rw [if_pos (by omega), if_pos (by omega), if_pos (by omega), Int.toNat_natCast, hg i s hget, word_tells s (by omega) k (by omega), show ((i : Int) + 1) = ((i + 1 : Nat) : Int) by omega, hi']
  simp only [Option.bind_some, List.all_cons]
  cases wordB s with
  | true => simp
  | false => simp
theorem split_le (l : List UInt8) : ∀ s ∈ splitD l, s.length ≤ l.length := by
 induction l with
 | nil => intro s hs; simp [splitD] at hs; subst hs; simp
 | cons c l ih =>
  intro s hs
  obtain ⟨h, t, hl⟩ := splitD_cons l
  unfold splitD at hs
  rw [hl] at hs ih
  simp only [List.length_cons]
  split at hs
  ·
   rcases List.mem_cons.1 hs with rfl | hs
   ·
    simp
   ·
    have := ih s hs; omega
  ·
   rcases List.mem_cons.1 hs with rfl | hs
   ·
    have := ih h List.mem_cons_self
    simp only [List.length_cons]; omega
   ·
    have := ih s (List.mem_cons_of_mem _ hs); omega
theorem five_of {L : List ByteArray} (h : L.length = 5) : ∃ x, five L = some x := by
 match L, h with
 | [a0, a1, a2, a3, a4], _ => exact ⟨_, rfl⟩
theorem Valid_tells (l : List UInt8) (k : Nat) (hk : 60 ≤ k) : content_Valid.f k (ba l) = some (validB l) := by
 unfold content_Valid.f validB
 rw [ba_size]
 by_cases h : (l.length : Int) > 24
 ·
  rw [if_pos h, decide_eq_false (show ¬ l.length ≤ 24 by omega)]; rfl
 ·
  rw [if_neg h, decide_eq_true (show l.length ≤ 24 by omega), Bool.true_and]
  obtain ⟨L', h1, h2, h3⟩ := seg_tells 5 l 0 [noStr, noStr, noStr, noStr, noStr] k rfl rfl (by omega) (by omega)
  unfold segments.f
  rw [show (0 : Int) = ((0 : Nat) : Int) from rfl, h2]
  simp only [Option.bind_some, Nat.zero_add]
  obtain ⟨x, hx⟩ := five_of h1
  rw [hx]
  simp only [Option.bind_some]
  by_cases hn : (splitD l).length ≤ 5
  ·
   rw [if_pos hn, decide_eq_true hn, Bool.true_and]
   have hL := h3 (by omega)
   have hfg := fun j => (fill_get (splitD l) [noStr, noStr, noStr, noStr, noStr] 0 j (by simp only [List.length_cons, List.length_nil]; omega)).1
   have := valid_loop (splitD l) L' hn (fun s hs => by have := split_le l s hs; omega) (fun j s hj => by rw [hL]; have := hfg j s hj; rwa [Nat.zero_add] at this) (splitD l) 0 k rfl (by omega) (by omega)
   rw [show (((0 : Nat) : Nat) : Int) = ((0 : Nat) : Int) from rfl, this]
   obtain ⟨hh, tt, hs⟩ := splitD_cons l
   rw [decide_eq_true (show 0 < (splitD l).length by rw [hs]; simp), Bool.and_true]
  ·
   rw [if_neg hn, decide_eq_false hn, Bool.false_and]
   obtain ⟨k, rfl⟩ : ∃ j, k = j + 1 := ⟨k - 1, by omega⟩
   simp only [content_Valid.l0]
   rw [if_neg (by omega)]
   rfl
end Go.Proofs.YtnmfmiemkcaocaaGreat.Con
namespace Go.Proofs.YtnmfmiemkcaocaaGreat.Hand
open Go.RowKit Go.Proofs.YtnmfmiemkcaocaaGreatW.PrintWords Go.Proofs.YtnmfmiemkcaocaaGreatW.PrintLast Go.Proofs.YtnmfmiemkcaocaaGreatW.PrintMore
set_option linter.unusedVariables false
set_option linter.unusedSimpArgs false
def ofR (kd n lo hi : Int) (code : ByteArray) : Value :=
 if kd = 1 then .iface 100 (.agg #[.int .i64 lo, .int .i64 hi, .string code])
 else if kd = 2 ∨ kd = 3 ∨ kd = 4 then .iface 102 (.agg #[.int .i64 lo, .int .i64 hi, .int .i64 kd])
 else if kd = 5 then .iface 104 (.agg #[.int .i64 lo, .int .i64 hi, .int .i64 n])
 else if kd = 6 then .iface 105 (.agg #[.int .i64 lo, .int .i64 hi, .int .i64 n])
 else if kd = 7 ∨ kd = 8 then .iface 107 (.agg #[.int .i64 n, .bool (kd == 7)])
 else .iface 109 (.agg #[])
def okR (kd n lo hi : Int) (code : ByteArray) : Bool :=
 if kd = 1 then n == 0
 else if kd = 2 ∨ kd = 3 then n == 0 && code.toList.isEmpty && lo == 0
 else if kd = 4 then n == 0 && code.toList.isEmpty
 else if kd = 5 ∨ kd = 6 then code.toList.isEmpty
 else if kd = 7 ∨ kd = 8 then code.toList.isEmpty && lo == 0 && hi == 0
 else if kd = 9 then n == 0 && code.toList.isEmpty && lo == 0 && hi == 0
 else false
theorem of_1 (n lo hi : Int) (code : ByteArray) (w : World) :
  Calls Tryz.prog 44 #[.agg #[.int .i64 1, .int .i64 n, .int .i64 lo, .int .i64 hi, .string code]] w fun e w' => e = .returned (.tuple #[ofR 1 n lo hi code, .bool (okR 1 n lo hi code)]) ∧ Below w.heap.size w w' := by
 cases hn : (n == 0)
 ·
  have K := Aside0.mk hn
  go_enter Tryz.func44, Tryz.ntmps44
  go_wp2
  (try (go_quiet (fail); go_wp2))
  go_ret2
  refine ⟨?_, by first | exact pw_below_drewN (below_alloc (below_alloc (Below.refl _ _) _) _) _ | exact below_alloc (below_alloc (Below.refl _ _) _) _⟩
  have j0 := K.out
  simp [ofR, okR, j0]
 ·
  have K := Aside0.mk hn
  go_enter Tryz.func44, Tryz.ntmps44
  go_wp2
  (try (go_quiet (fail); go_wp2))
  go_ret2
  refine ⟨?_, by first | exact pw_below_drewN (below_alloc (below_alloc (Below.refl _ _) _) _) _ | exact below_alloc (below_alloc (Below.refl _ _) _) _⟩
  have j0 := K.out
  simp [ofR, okR, j0]
theorem of_2 (n lo hi : Int) (code : ByteArray) (w : World) :
  Calls Tryz.prog 44 #[.agg #[.int .i64 2, .int .i64 n, .int .i64 lo, .int .i64 hi, .string code]] w fun e w' => e = .returned (.tuple #[ofR 2 n lo hi code, .bool (okR 2 n lo hi code)]) ∧ Below w.heap.size w w' := by
 cases hn : (n == 0)
 ·
  have K := Aside0.mk hn
  go_enter Tryz.func44, Tryz.ntmps44
  go_wp2
  (try (go_quiet (fail); go_wp2))
  go_ret2
  refine ⟨?_, by first | exact pw_below_drewN (below_alloc (below_alloc (Below.refl _ _) _) _) _ | exact below_alloc (below_alloc (Below.refl _ _) _) _⟩
  have j0 := K.out
  simp [ofR, okR, j0]
 ·
  cases hc : code.toList.isEmpty
  ·
   have K := Aside0.mk (show (n == 0) = true ∧ code.toList.isEmpty = false from ⟨hn, hc⟩)
   go_enter Tryz.func44, Tryz.ntmps44
   go_wp2
   (try (go_quiet (fail); go_wp2))
   go_ret2
   refine ⟨?_, by first | exact pw_below_drewN (below_alloc (below_alloc (Below.refl _ _) _) _) _ | exact below_alloc (below_alloc (Below.refl _ _) _) _⟩
   obtain ⟨j0, j1⟩ := K.out
   simp [ofR, okR, j0, j1]
  ·
   have K := Aside0.mk (show (n == 0) = true ∧ code.toList.isEmpty = true from ⟨hn, hc⟩)
   go_enter Tryz.func44, Tryz.ntmps44
   go_wp2
   (try (go_quiet (fail); go_wp2))
   go_ret2
   refine ⟨?_, by first | exact pw_below_drewN (below_alloc (below_alloc (Below.refl _ _) _) _) _ | exact below_alloc (below_alloc (Below.refl _ _) _) _⟩
   obtain ⟨j0, j1⟩ := K.out
   simp [ofR, okR, j0, j1]
theorem of_3 (n lo hi : Int) (code : ByteArray) (w : World) :
  Calls Tryz.prog 44 #[.agg #[.int .i64 3, .int .i64 n, .int .i64 lo, .int .i64 hi, .string code]] w fun e w' => e = .returned (.tuple #[ofR 3 n lo hi code, .bool (okR 3 n lo hi code)]) ∧ Below w.heap.size w w' := by
 cases hn : (n == 0)
 ·
  have K := Aside0.mk hn
  go_enter Tryz.func44, Tryz.ntmps44
  go_wp2
  (try (go_quiet (fail); go_wp2))
  go_ret2
  refine ⟨?_, by first | exact pw_below_drewN (below_alloc (below_alloc (Below.refl _ _) _) _) _ | exact below_alloc (below_alloc (Below.refl _ _) _) _⟩
  have j0 := K.out
  simp [ofR, okR, j0]
 ·
  cases hc : code.toList.isEmpty
  ·
   have K := Aside0.mk (show (n == 0) = true ∧ code.toList.isEmpty = false from ⟨hn, hc⟩)
   go_enter Tryz.func44, Tryz.ntmps44
   go_wp2
   (try (go_quiet (fail); go_wp2))
   go_ret2
   refine ⟨?_, by first | exact pw_below_drewN (below_alloc (below_alloc (Below.refl _ _) _) _) _ | exact below_alloc (below_alloc (Below.refl _ _) _) _⟩
   obtain ⟨j0, j1⟩ := K.out
   simp [ofR, okR, j0, j1]
  ·
   have K := Aside0.mk (show (n == 0) = true ∧ code.toList.isEmpty = true from ⟨hn, hc⟩)
   go_enter Tryz.func44, Tryz.ntmps44
   go_wp2
   (try (go_quiet (fail); go_wp2))
   go_ret2
   refine ⟨?_, by first | exact pw_below_drewN (below_alloc (below_alloc (Below.refl _ _) _) _) _ | exact below_alloc (below_alloc (Below.refl _ _) _) _⟩
   obtain ⟨j0, j1⟩ := K.out
   simp [ofR, okR, j0, j1]
theorem of_4 (n lo hi : Int) (code : ByteArray) (w : World) :
  Calls Tryz.prog 44 #[.agg #[.int .i64 4, .int .i64 n, .int .i64 lo, .int .i64 hi, .string code]] w fun e w' => e = .returned (.tuple #[ofR 4 n lo hi code, .bool (okR 4 n lo hi code)]) ∧ Below w.heap.size w w' := by
 cases hn : (n == 0)
 ·
  have K := Aside0.mk hn
  go_enter Tryz.func44, Tryz.ntmps44
  go_wp2
  (try (go_quiet (fail); go_wp2))
  go_ret2
  refine ⟨?_, by first | exact pw_below_drewN (below_alloc (below_alloc (Below.refl _ _) _) _) _ | exact below_alloc (below_alloc (Below.refl _ _) _) _⟩
  have j0 := K.out
  simp [ofR, okR, j0]
 ·
  have K := Aside0.mk hn
  go_enter Tryz.func44, Tryz.ntmps44
  go_wp2
  (try (go_quiet (fail); go_wp2))
  go_ret2
  refine ⟨?_, by first | exact pw_below_drewN (below_alloc (below_alloc (Below.refl _ _) _) _) _ | exact below_alloc (below_alloc (Below.refl _ _) _) _⟩
  have j0 := K.out
  simp [ofR, okR, j0]
theorem of_5 (n lo hi : Int) (code : ByteArray) (w : World) :
  Calls Tryz.prog 44 #[.agg #[.int .i64 5, .int .i64 n, .int .i64 lo, .int .i64 hi, .string code]] w fun e w' => e = .returned (.tuple #[ofR 5 n lo hi code, .bool (okR 5 n lo hi code)]) ∧ Below w.heap.size w w' := by
 cases hn : (n == 0)
 ·
  have K := Aside0.mk hn
  go_enter Tryz.func44, Tryz.ntmps44
  go_wp2
  (try (go_quiet (fail); go_wp2))
  go_ret2
  refine ⟨?_, by first | exact pw_below_drewN (below_alloc (below_alloc (Below.refl _ _) _) _) _ | exact below_alloc (below_alloc (Below.refl _ _) _) _⟩
  have j0 := K.out
  simp [ofR, okR, j0]
 ·
  have K := Aside0.mk hn
  go_enter Tryz.func44, Tryz.ntmps44
  go_wp2
  (try (go_quiet (fail); go_wp2))
  go_ret2
  refine ⟨?_, by first | exact pw_below_drewN (below_alloc (below_alloc (Below.refl _ _) _) _) _ | exact below_alloc (below_alloc (Below.refl _ _) _) _⟩
  have j0 := K.out
  simp [ofR, okR, j0]
theorem of_6 (n lo hi : Int) (code : ByteArray) (w : World) :
  Calls Tryz.prog 44 #[.agg #[.int .i64 6, .int .i64 n, .int .i64 lo, .int .i64 hi, .string code]] w fun e w' => e = .returned (.tuple #[ofR 6 n lo hi code, .bool (okR 6 n lo hi code)]) ∧ Below w.heap.size w w' := by
 cases hn : (n == 0)
 ·
  have K := Aside0.mk hn
  go_enter Tryz.func44, Tryz.ntmps44
  go_wp2
  (try (go_quiet (fail); go_wp2))
  go_ret2
  refine ⟨?_, by first | exact pw_below_drewN (below_alloc (below_alloc (Below.refl _ _) _) _) _ | exact below_alloc (below_alloc (Below.refl _ _) _) _⟩
  have j0 := K.out
  simp [ofR, okR, j0]
 ·
  have K := Aside0.mk hn
  go_enter Tryz.func44, Tryz.ntmps44
  go_wp2
  (try (go_quiet (fail); go_wp2))
  go_ret2
  refine ⟨?_, by first | exact pw_below_drewN (below_alloc (below_alloc (Below.refl _ _) _) _) _ | exact below_alloc (below_alloc (Below.refl _ _) _) _⟩
  have j0 := K.out
  simp [ofR, okR, j0]
theorem of_7 (n lo hi : Int) (code : ByteArray) (w : World) :
  Calls Tryz.prog 44 #[.agg #[.int .i64 7, .int .i64 n, .int .i64 lo, .int .i64 hi, .string code]] w fun e w' => e = .returned (.tuple #[ofR 7 n lo hi code, .bool (okR 7 n lo hi code)]) ∧ Below w.heap.size w w' := by
 cases hn : (n == 0)
 ·
  cases hc : code.toList.isEmpty
  ·
   have K := Aside0.mk (show (n == 0) = false ∧ code.toList.isEmpty = false from ⟨hn, hc⟩)
   go_enter Tryz.func44, Tryz.ntmps44
   go_wp2
   (try (go_quiet (fail); go_wp2))
   go_ret2
   refine ⟨?_, by first | exact pw_below_drewN (below_alloc (below_alloc (Below.refl _ _) _) _) _ | exact below_alloc (below_alloc (Below.refl _ _) _) _⟩
   obtain ⟨j0, j1⟩ := K.out
   simp [ofR, okR, j0, j1]
  ·
   cases hl : (lo == 0)
   ·
    have K := Aside0.mk (show (n == 0) = false ∧ code.toList.isEmpty = true ∧ (lo == 0) = false from ⟨hn, hc, hl⟩)
    go_enter Tryz.func44, Tryz.ntmps44
    go_wp2
    (try (go_quiet (fail); go_wp2))
    go_ret2
    refine ⟨?_, by first | exact pw_below_drewN (below_alloc (below_alloc (Below.refl _ _) _) _) _ | exact below_alloc (below_alloc (Below.refl _ _) _) _⟩
    obtain ⟨j0, j1, j2⟩ := K.out
    simp [ofR, okR, j0, j1, j2]
   ·
    have K := Aside0.mk (show (n == 0) = false ∧ code.toList.isEmpty = true ∧ (lo == 0) = true from ⟨hn, hc, hl⟩)
    go_enter Tryz.func44, Tryz.ntmps44
    go_wp2
    (try (go_quiet (fail); go_wp2))
    go_ret2
    refine ⟨?_, by first | exact pw_below_drewN (below_alloc (below_alloc (Below.refl _ _) _) _) _ | exact below_alloc (below_alloc (Below.refl _ _) _) _⟩
    obtain ⟨j0, j1, j2⟩ := K.out
    simp [ofR, okR, j0, j1, j2]
 ·
  cases hc : code.toList.isEmpty
  ·
   have K := Aside0.mk (show (n == 0) = true ∧ code.toList.isEmpty = false from ⟨hn, hc⟩)
   go_enter Tryz.func44, Tryz.ntmps44
   go_wp2
   (try (go_quiet (fail); go_wp2))
   go_ret2
   refine ⟨?_, by first | exact pw_below_drewN (below_alloc (below_alloc (Below.refl _ _) _) _) _ | exact below_alloc (below_alloc (Below.refl _ _) _) _⟩
   obtain ⟨j0, j1⟩ := K.out
   simp [ofR, okR, j0, j1]
  ·
   cases hl : (lo == 0)
   ·
    have K := Aside0.mk (show (n == 0) = true ∧ code.toList.isEmpty = true ∧ (lo == 0) = false from ⟨hn, hc, hl⟩)
    go_enter Tryz.func44, Tryz.ntmps44
    go_wp2
    (try (go_quiet (fail); go_wp2))
    go_ret2
    refine ⟨?_, by first | exact pw_below_drewN (below_alloc (below_alloc (Below.refl _ _) _) _) _ | exact below_alloc (below_alloc (Below.refl _ _) _) _⟩
    obtain ⟨j0, j1, j2⟩ := K.out
    simp [ofR, okR, j0, j1, j2]
   ·
    have K := Aside0.mk (show (n == 0) = true ∧ code.toList.isEmpty = true ∧ (lo == 0) = true from ⟨hn, hc, hl⟩)
    go_enter Tryz.func44, Tryz.ntmps44
    go_wp2
    (try (go_quiet (fail); go_wp2))
    go_ret2
    refine ⟨?_, by first | exact pw_below_drewN (below_alloc (below_alloc (Below.refl _ _) _) _) _ | exact below_alloc (below_alloc (Below.refl _ _) _) _⟩
    obtain ⟨j0, j1, j2⟩ := K.out
    simp [ofR, okR, j0, j1, j2]
theorem of_8 (n lo hi : Int) (code : ByteArray) (w : World) :
  Calls Tryz.prog 44 #[.agg #[.int .i64 8, .int .i64 n, .int .i64 lo, .int .i64 hi, .string code]] w fun e w' => e = .returned (.tuple #[ofR 8 n lo hi code, .bool (okR 8 n lo hi code)]) ∧ Below w.heap.size w w' := by
 cases hn : (n == 0)
 ·
  cases hc : code.toList.isEmpty
  ·
   have K := Aside0.mk (show (n == 0) = false ∧ code.toList.isEmpty = false from ⟨hn, hc⟩)
   go_enter Tryz.func44, Tryz.ntmps44
   go_wp2
   (try (go_quiet (fail); go_wp2))
   go_ret2
   refine ⟨?_, by first | exact pw_below_drewN (below_alloc (below_alloc (Below.refl _ _) _) _) _ | exact below_alloc (below_alloc (Below.refl _ _) _) _⟩
   obtain ⟨j0, j1⟩ := K.out
   simp [ofR, okR, j0, j1]
  ·
   cases hl : (lo == 0)
   ·
    have K := Aside0.mk (show (n == 0) = false ∧ code.toList.isEmpty = true ∧ (lo == 0) = false from ⟨hn, hc, hl⟩)
    go_enter Tryz.func44, Tryz.ntmps44
    go_wp2
    (try (go_quiet (fail); go_wp2))
    go_ret2
    refine ⟨?_, by first | exact pw_below_drewN (below_alloc (below_alloc (Below.refl _ _) _) _) _ | exact below_alloc (below_alloc (Below.refl _ _) _) _⟩
    obtain ⟨j0, j1, j2⟩ := K.out
    simp [ofR, okR, j0, j1, j2]
   ·
    have K := Aside0.mk (show (n == 0) = false ∧ code.toList.isEmpty = true ∧ (lo == 0) = true from ⟨hn, hc, hl⟩)
    go_enter Tryz.func44, Tryz.ntmps44
    go_wp2
    (try (go_quiet (fail); go_wp2))
    go_ret2
    refine ⟨?_, by first | exact pw_below_drewN (below_alloc (below_alloc (Below.refl _ _) _) _) _ | exact below_alloc (below_alloc (Below.refl _ _) _) _⟩
    obtain ⟨j0, j1, j2⟩ := K.out
    simp [ofR, okR, j0, j1, j2]
 ·
  cases hc : code.toList.isEmpty
  ·
   have K := Aside0.mk (show (n == 0) = true ∧ code.toList.isEmpty = false from ⟨hn, hc⟩)
   go_enter Tryz.func44, Tryz.ntmps44
   go_wp2
   (try (go_quiet (fail); go_wp2))
   go_ret2
   refine ⟨?_, by first | exact pw_below_drewN (below_alloc (below_alloc (Below.refl _ _) _) _) _ | exact below_alloc (below_alloc (Below.refl _ _) _) _⟩
   obtain ⟨j0, j1⟩ := K.out
   simp [ofR, okR, j0, j1]
  ·
   cases hl : (lo == 0)
   ·
    have K := Aside0.mk (show (n == 0) = true ∧ code.toList.isEmpty = true ∧ (lo == 0) = false from ⟨hn, hc, hl⟩)
    go_enter Tryz.func44, Tryz.ntmps44
    go_wp2
    (try (go_quiet (fail); go_wp2))
    go_ret2
    refine ⟨?_, by first | exact pw_below_drewN (below_alloc (below_alloc (Below.refl _ _) _) _) _ | exact below_alloc (below_alloc (Below.refl _ _) _) _⟩
    obtain ⟨j0, j1, j2⟩ := K.out
    simp [ofR, okR, j0, j1, j2]
   ·
    have K := Aside0.mk (show (n == 0) = true ∧ code.toList.isEmpty = true ∧ (lo == 0) = true from ⟨hn, hc, hl⟩)
    go_enter Tryz.func44, Tryz.ntmps44
    go_wp2
    (try (go_quiet (fail); go_wp2))
    go_ret2
    refine ⟨?_, by first | exact pw_below_drewN (below_alloc (below_alloc (Below.refl _ _) _) _) _ | exact below_alloc (below_alloc (Below.refl _ _) _) _⟩
    obtain ⟨j0, j1, j2⟩ := K.out
    simp [ofR, okR, j0, j1, j2]
theorem of_9 (n lo hi : Int) (code : ByteArray) (w : World) :
  Calls Tryz.prog 44 #[.agg #[.int .i64 9, .int .i64 n, .int .i64 lo, .int .i64 hi, .string code]] w fun e w' => e = .returned (.tuple #[ofR 9 n lo hi code, .bool (okR 9 n lo hi code)]) ∧ Below w.heap.size w w' := by
 cases hn : (n == 0)
 ·
  have K := Aside0.mk hn
  go_enter Tryz.func44, Tryz.ntmps44
  go_wp2
  (try (go_quiet (fail); go_wp2))
  go_ret2
  refine ⟨?_, by first | exact pw_below_drewN (below_alloc (below_alloc (Below.refl _ _) _) _) _ | exact below_alloc (below_alloc (Below.refl _ _) _) _⟩
  have j0 := K.out
  simp [ofR, okR, j0]
 ·
  cases hc : code.toList.isEmpty
  ·
   have K := Aside0.mk (show (n == 0) = true ∧ code.toList.isEmpty = false from ⟨hn, hc⟩)
   go_enter Tryz.func44, Tryz.ntmps44
   go_wp2
   (try (go_quiet (fail); go_wp2))
   go_ret2
   refine ⟨?_, by first | exact pw_below_drewN (below_alloc (below_alloc (Below.refl _ _) _) _) _ | exact below_alloc (below_alloc (Below.refl _ _) _) _⟩
   obtain ⟨j0, j1⟩ := K.out
   simp [ofR, okR, j0, j1]
  ·
   cases hl : (lo == 0)
   ·
    have K := Aside0.mk (show (n == 0) = true ∧ code.toList.isEmpty = true ∧ (lo == 0) = false from ⟨hn, hc, hl⟩)
    go_enter Tryz.func44, Tryz.ntmps44
    go_wp2
    (try (go_quiet (fail); go_wp2))
    go_ret2
    refine ⟨?_, by first | exact pw_below_drewN (below_alloc (below_alloc (Below.refl _ _) _) _) _ | exact below_alloc (below_alloc (Below.refl _ _) _) _⟩
    obtain ⟨j0, j1, j2⟩ := K.out
    simp [ofR, okR, j0, j1, j2]
   ·
    have K := Aside0.mk (show (n == 0) = true ∧ code.toList.isEmpty = true ∧ (lo == 0) = true from ⟨hn, hc, hl⟩)
    go_enter Tryz.func44, Tryz.ntmps44
    go_wp2
    (try (go_quiet (fail); go_wp2))
    go_ret2
    refine ⟨?_, by first | exact pw_below_drewN (below_alloc (below_alloc (Below.refl _ _) _) _) _ | exact below_alloc (below_alloc (Below.refl _ _) _) _⟩
    obtain ⟨j0, j1, j2⟩ := K.out
    simp [ofR, okR, j0, j1, j2]
theorem of_else (kd n lo hi : Int) (code : ByteArray) (w : World) (h : kd < 1 ∨ 9 < kd) :
  Calls Tryz.prog 44 #[.agg #[.int .i64 kd, .int .i64 n, .int .i64 lo, .int .i64 hi, .string code]] w fun e w' => e = .returned (.tuple #[ofR kd n lo hi code, .bool (okR kd n lo hi code)]) ∧ Below w.heap.size w w' := by
 have e1 : (kd == 1) = false := by rw [beq_eq_false_iff_ne]; omega
 have e2 : (kd == 2) = false := by rw [beq_eq_false_iff_ne]; omega
 have e3 : (kd == 3) = false := by rw [beq_eq_false_iff_ne]; omega
 have e4 : (kd == 4) = false := by rw [beq_eq_false_iff_ne]; omega
 have e5 : (kd == 5) = false := by rw [beq_eq_false_iff_ne]; omega
 have e6 : (kd == 6) = false := by rw [beq_eq_false_iff_ne]; omega
 have e7 : (kd == 7) = false := by rw [beq_eq_false_iff_ne]; omega
 have e8 : (kd == 8) = false := by rw [beq_eq_false_iff_ne]; omega
 have e9 : (kd == 9) = false := by rw [beq_eq_false_iff_ne]; omega
 have HK := Aside0.mk h
 clear h
 cases hn : (n == 0)
 ·
  go_enter Tryz.func44, Tryz.ntmps44
  go_wp2
  go_ret2
  refine ⟨?_, below_alloc (below_alloc (Below.refl _ _) _) _⟩
  have h := HK.out
  have n1 : kd ≠ 1 := by omega
  have n2 : kd ≠ 2 := by omega
  have n3 : kd ≠ 3 := by omega
  have n4 : kd ≠ 4 := by omega
  have n5 : kd ≠ 5 := by omega
  have n6 : kd ≠ 6 := by omega
  have n7 : kd ≠ 7 := by omega
  have n8 : kd ≠ 8 := by omega
  have n9 : kd ≠ 9 := by omega
  simp [ofR, okR, n1, n2, n3, n4, n5, n6, n7, n8, n9]
 ·
  go_enter Tryz.func44, Tryz.ntmps44
  go_wp2
  go_ret2
  refine ⟨?_, below_alloc (below_alloc (Below.refl _ _) _) _⟩
  have h := HK.out
  have n1 : kd ≠ 1 := by omega
  have n2 : kd ≠ 2 := by omega
  have n3 : kd ≠ 3 := by omega
  have n4 : kd ≠ 4 := by omega
  have n5 : kd ≠ 5 := by omega
  have n6 : kd ≠ 6 := by omega
  have n7 : kd ≠ 7 := by omega
  have n8 : kd ≠ 8 := by omega
  have n9 : kd ≠ 9 := by omega
  simp [ofR, okR, n1, n2, n3, n4, n5, n6, n7, n8, n9]
theorem blueprint_of.run (kd n lo hi : Int) (code : ByteArray) (w : World) :
  Calls Tryz.prog 44 #[.agg #[.int .i64 kd, .int .i64 n, .int .i64 lo, .int .i64 hi, .string code]] w fun e w' => e = .returned (.tuple #[ofR kd n lo hi code, .bool (okR kd n lo hi code)]) ∧ Below w.heap.size w w' := by
 by_cases h : kd < 1 ∨ 9 < kd
 ·
  exact of_else kd n lo hi code w h
 ·
  have : kd = 1 ∨ kd = 2 ∨ kd = 3 ∨ kd = 4 ∨ kd = 5 ∨ kd = 6 ∨ kd = 7 ∨ kd = 8 ∨ kd = 9 := by omega
  rcases this with rfl | rfl | rfl | rfl | rfl | rfl | rfl | rfl | rfl
  ·
   exact of_1 n lo hi code w
  ·
   exact of_2 n lo hi code w
  ·
   exact of_3 n lo hi code w
  ·
   exact of_4 n lo hi code w
  ·
   exact of_5 n lo hi code w
  ·
   exact of_6 n lo hi code w
  ·
   exact of_7 n lo hi code w
  ·
   exact of_8 n lo hi code w
  ·
   exact of_9 n lo hi code w
end Go.Proofs.YtnmfmiemkcaocaaGreat.Hand
namespace Go.Proofs.YtnmfmiemkcaocaaGreat.Hand
open Go.RowKit Go.Proofs.YtnmfmiemkcaocaaGreatW.PrintWords Go.Proofs.YtnmfmiemkcaocaaGreatW.PrintLast Go.Proofs.YtnmfmiemkcaocaaGreatW.PrintMore
set_option linter.unusedVariables false
set_option linter.unusedSimpArgs false
def inR (x lo hi : Int) : Bool := decide (lo ≤ x) && decide (x ≤ hi)
def boundsV (lo hi : Int) : Int := if inR lo 0 9999999 && inR hi 0 9999999 then (if hi < lo then 23 else 0) else 3
def validS (s : ByteArray) : Bool := Con.validB s.data.toList
theorem bp_within.run (x lo hi : Int) (w : World) : Calls Tryz.prog 43 #[.int .i64 x, .int .i64 lo, .int .i64 hi] w fun e w' => e = .returned (.bool (inR x lo hi)) ∧ w' = w := by
 by_cases c1 : lo ≤ x
 ·
  have k1 : decide (lo ≤ x) = true := decide_eq_true c1
  go_enter Tryz.func43, Tryz.ntmps43
  go_wp2
  go_ret
  refine ⟨?_, rfl⟩
  simp [inR, c1]
 ·
  have k1 : decide (lo ≤ x) = false := decide_eq_false c1
  have K := Aside0.mk k1
  clear c1
  go_enter Tryz.func43, Tryz.ntmps43
  go_wp2
  go_ret
  refine ⟨?_, rfl⟩
  simp [inR, K.out]
theorem bounds_check.run (lo hi : Int) (w : World) :
  Calls Tryz.prog 143 #[.agg #[.int .i64 lo, .int .i64 hi]] w fun e w' => e = .returned (.int .i64 (boundsV lo hi)) ∧ Below w.heap.size w w' := by
 cases h1 : inR lo 0 9999999
 ·
  skip
  have KF := Aside0.mk h1
  go_enter Tryz.func143, Tryz.ntmps143
  go_wp2_with (first | ((with_reducible refine gate_dst (N := 1) rfl ?_); refine box_event ?hg (N := 1) ?hd (cs := #[.int .i64 lo, .int .i64 hi]) (t := 98) ?hr ?_; (case hd => rfl); (case hg => rfl); (case hr => first | (go_simp; done) | (go_simp; rfl)); intro g hg w1 hbox hb; have B0 := Aside0.mk hbox; have HB := Aside0.mk hb; have hc0 : w1.cell? ⟨g, 0, none⟩ = some (.int .i64 lo) := blk_cell hbox 0; have hc1 : w1.cell? ⟨g, 1, none⟩ = some (.int .i64 hi) := blk_cell hbox 1; clear hg hbox hb) | (go_at_call 43; (with_reducible refine (bp_within.run lo 0 9999999 _).mono ?_); rintro e w9 ⟨rfl, hw⟩; replace hw := Eq.symm hw; subst hw; rw [h1]) | (go_at_call 43; (with_reducible refine (bp_within.run hi 0 9999999 _).mono ?_); rintro e w9 ⟨rfl, hw⟩; replace hw := Eq.symm hw; subst hw; rw [h2]))
  go_ret
  refine ⟨?_, HB.out⟩
  have j0 := KF.out
  simp [boundsV, j0]
 ·
  skip
  cases h2 : inR hi 0 9999999
  ·
   skip
   have KF := Aside0.mk (show inR lo 0 9999999 = true ∧ inR hi 0 9999999 = false from ⟨h1, h2⟩)
   go_enter Tryz.func143, Tryz.ntmps143
   go_wp2_with (first | ((with_reducible refine gate_dst (N := 1) rfl ?_); refine box_event ?hg (N := 1) ?hd (cs := #[.int .i64 lo, .int .i64 hi]) (t := 98) ?hr ?_; (case hd => rfl); (case hg => rfl); (case hr => first | (go_simp; done) | (go_simp; rfl)); intro g hg w1 hbox hb; have B0 := Aside0.mk hbox; have HB := Aside0.mk hb; have hc0 : w1.cell? ⟨g, 0, none⟩ = some (.int .i64 lo) := blk_cell hbox 0; have hc1 : w1.cell? ⟨g, 1, none⟩ = some (.int .i64 hi) := blk_cell hbox 1; clear hg hbox hb) | (go_at_call 43; (with_reducible refine (bp_within.run lo 0 9999999 _).mono ?_); rintro e w9 ⟨rfl, hw⟩; replace hw := Eq.symm hw; subst hw; rw [h1]) | (go_at_call 43; (with_reducible refine (bp_within.run hi 0 9999999 _).mono ?_); rintro e w9 ⟨rfl, hw⟩; replace hw := Eq.symm hw; subst hw; rw [h2]))
   go_ret
   refine ⟨?_, HB.out⟩
   obtain ⟨j0, j1⟩ := KF.out
   simp [boundsV, j0, j1]
  ·
   skip
   cases h3 : decide (hi < lo)
   ·
    skip
    have KF := Aside0.mk (show inR lo 0 9999999 = true ∧ inR hi 0 9999999 = true ∧ decide (hi < lo) = false from ⟨h1, h2, h3⟩)
    go_enter Tryz.func143, Tryz.ntmps143
    go_wp2_with (first | ((with_reducible refine gate_dst (N := 1) rfl ?_); refine box_event ?hg (N := 1) ?hd (cs := #[.int .i64 lo, .int .i64 hi]) (t := 98) ?hr ?_; (case hd => rfl); (case hg => rfl); (case hr => first | (go_simp; done) | (go_simp; rfl)); intro g hg w1 hbox hb; have B0 := Aside0.mk hbox; have HB := Aside0.mk hb; have hc0 : w1.cell? ⟨g, 0, none⟩ = some (.int .i64 lo) := blk_cell hbox 0; have hc1 : w1.cell? ⟨g, 1, none⟩ = some (.int .i64 hi) := blk_cell hbox 1; clear hg hbox hb) | (go_at_call 43; (with_reducible refine (bp_within.run lo 0 9999999 _).mono ?_); rintro e w9 ⟨rfl, hw⟩; replace hw := Eq.symm hw; subst hw; rw [h1]) | (go_at_call 43; (with_reducible refine (bp_within.run hi 0 9999999 _).mono ?_); rintro e w9 ⟨rfl, hw⟩; replace hw := Eq.symm hw; subst hw; rw [h2]))
    go_ret
    refine ⟨?_, HB.out⟩
    obtain ⟨j0, j1, j2⟩ := KF.out
    simp [boundsV, j0, j1, j2]
    first | exact of_decide_eq_true j2 | exact Int.not_lt.1 (of_decide_eq_false j2)
   ·
    skip
    have KF := Aside0.mk (show inR lo 0 9999999 = true ∧ inR hi 0 9999999 = true ∧ decide (hi < lo) = true from ⟨h1, h2, h3⟩)
    go_enter Tryz.func143, Tryz.ntmps143
    go_wp2_with (first | ((with_reducible refine gate_dst (N := 1) rfl ?_); refine box_event ?hg (N := 1) ?hd (cs := #[.int .i64 lo, .int .i64 hi]) (t := 98) ?hr ?_; (case hd => rfl); (case hg => rfl); (case hr => first | (go_simp; done) | (go_simp; rfl)); intro g hg w1 hbox hb; have B0 := Aside0.mk hbox; have HB := Aside0.mk hb; have hc0 : w1.cell? ⟨g, 0, none⟩ = some (.int .i64 lo) := blk_cell hbox 0; have hc1 : w1.cell? ⟨g, 1, none⟩ = some (.int .i64 hi) := blk_cell hbox 1; clear hg hbox hb) | (go_at_call 43; (with_reducible refine (bp_within.run lo 0 9999999 _).mono ?_); rintro e w9 ⟨rfl, hw⟩; replace hw := Eq.symm hw; subst hw; rw [h1]) | (go_at_call 43; (with_reducible refine (bp_within.run hi 0 9999999 _).mono ?_); rintro e w9 ⟨rfl, hw⟩; replace hw := Eq.symm hw; subst hw; rw [h2]))
    go_ret
    refine ⟨?_, HB.out⟩
    obtain ⟨j0, j1, j2⟩ := KF.out
    simp [boundsV, j0, j1, j2]
    first | exact of_decide_eq_true j2 | exact Int.not_lt.1 (of_decide_eq_false j2)
theorem key_check.run (lo hi n : Int) (w : World) :
  Calls Tryz.prog 167 #[.agg #[.int .i64 lo, .int .i64 hi, .int .i64 n]] w fun e w' => e = .returned (.int .i64 (if inR n 1 10 then boundsV lo hi else 3)) ∧ Below w.heap.size w w' := by
 cases h1 : inR n 1 10
 ·
  skip
  have KF := Aside0.mk h1
  go_enter Tryz.func167, Tryz.ntmps167
  go_wp2_with (first | ((with_reducible refine gate_dst (N := 1) rfl ?_); refine box_event ?hg (N := 1) ?hd (cs := #[.int .i64 lo, .int .i64 hi, .int .i64 n]) (t := 104) ?hr ?_; (case hd => rfl); (case hg => rfl); (case hr => first | (go_simp; done) | (go_simp; rfl)); intro g hg w1 hbox hb; have B0 := Aside0.mk hbox; have HB := Aside0.mk hb; have hc0 : w1.cell? ⟨g, 0, none⟩ = some (.int .i64 lo) := blk_cell hbox 0; have hc1 : w1.cell? ⟨g, 1, none⟩ = some (.int .i64 hi) := blk_cell hbox 1; have hc2 : w1.cell? ⟨g, 2, none⟩ = some (.int .i64 n) := blk_cell hbox 2; clear hg hbox hb) | (go_at_call 143; (with_reducible refine (bounds_check.run lo hi _).mono ?_); rintro e w2 ⟨rfl, hb⟩; replace HB := Aside0.mk (below_on HB.out hb); clear hb) | (go_at_call 43; (with_reducible refine (bp_within.run n 1 10 _).mono ?_); rintro e w9 ⟨rfl, hw⟩; replace hw := Eq.symm hw; subst hw; rw [h1]))
  go_ret
  refine ⟨?_, HB.out⟩
  have j0 := KF.out
  simp [boundsV, j0]
 ·
  skip
  have KF := Aside0.mk h1
  go_enter Tryz.func167, Tryz.ntmps167
  go_wp2_with (first | ((with_reducible refine gate_dst (N := 1) rfl ?_); refine box_event ?hg (N := 1) ?hd (cs := #[.int .i64 lo, .int .i64 hi, .int .i64 n]) (t := 104) ?hr ?_; (case hd => rfl); (case hg => rfl); (case hr => first | (go_simp; done) | (go_simp; rfl)); intro g hg w1 hbox hb; have B0 := Aside0.mk hbox; have HB := Aside0.mk hb; have hc0 : w1.cell? ⟨g, 0, none⟩ = some (.int .i64 lo) := blk_cell hbox 0; have hc1 : w1.cell? ⟨g, 1, none⟩ = some (.int .i64 hi) := blk_cell hbox 1; have hc2 : w1.cell? ⟨g, 2, none⟩ = some (.int .i64 n) := blk_cell hbox 2; clear hg hbox hb) | (go_at_call 143; (with_reducible refine (bounds_check.run lo hi _).mono ?_); rintro e w2 ⟨rfl, hb⟩; replace HB := Aside0.mk (below_on HB.out hb); clear hb) | (go_at_call 43; (with_reducible refine (bp_within.run n 1 10 _).mono ?_); rintro e w9 ⟨rfl, hw⟩; replace hw := Eq.symm hw; subst hw; rw [h1]))
  go_ret
  refine ⟨?_, HB.out⟩
  have j0 := KF.out
  simp [boundsV, j0]
theorem set_check.run (lo hi n : Int) (w : World) :
  Calls Tryz.prog 172 #[.agg #[.int .i64 lo, .int .i64 hi, .int .i64 n]] w fun e w' => e = .returned (.int .i64 (if inR n 1 9999999 && !(lo == 0) then boundsV lo hi else 3)) ∧ Below w.heap.size w w' := by
 cases h1 : inR n 1 9999999
 ·
  skip
  have KF := Aside0.mk h1
  go_enter Tryz.func172, Tryz.ntmps172
  go_wp2_with (first | ((with_reducible refine gate_dst (N := 1) rfl ?_); refine box_event ?hg (N := 1) ?hd (cs := #[.int .i64 lo, .int .i64 hi, .int .i64 n]) (t := 105) ?hr ?_; (case hd => rfl); (case hg => rfl); (case hr => first | (go_simp; done) | (go_simp; rfl)); intro g hg w1 hbox hb; have B0 := Aside0.mk hbox; have HB := Aside0.mk hb; have hc0 : w1.cell? ⟨g, 0, none⟩ = some (.int .i64 lo) := blk_cell hbox 0; have hc1 : w1.cell? ⟨g, 1, none⟩ = some (.int .i64 hi) := blk_cell hbox 1; have hc2 : w1.cell? ⟨g, 2, none⟩ = some (.int .i64 n) := blk_cell hbox 2; clear hg hbox hb) | (go_at_call 143; (with_reducible refine (bounds_check.run lo hi _).mono ?_); rintro e w2 ⟨rfl, hb⟩; replace HB := Aside0.mk (below_on HB.out hb); clear hb) | (go_at_call 43; (with_reducible refine (bp_within.run n 1 9999999 _).mono ?_); rintro e w9 ⟨rfl, hw⟩; replace hw := Eq.symm hw; subst hw; rw [h1]))
  go_ret
  refine ⟨?_, HB.out⟩
  have j0 := KF.out
  simp [boundsV, j0]
 ·
  skip
  cases h2 : (lo == 0)
  ·
   skip
   have KF := Aside0.mk (show inR n 1 9999999 = true ∧ (lo == 0) = false from ⟨h1, h2⟩)
   go_enter Tryz.func172, Tryz.ntmps172
   go_wp2_with (first | ((with_reducible refine gate_dst (N := 1) rfl ?_); refine box_event ?hg (N := 1) ?hd (cs := #[.int .i64 lo, .int .i64 hi, .int .i64 n]) (t := 105) ?hr ?_; (case hd => rfl); (case hg => rfl); (case hr => first | (go_simp; done) | (go_simp; rfl)); intro g hg w1 hbox hb; have B0 := Aside0.mk hbox; have HB := Aside0.mk hb; have hc0 : w1.cell? ⟨g, 0, none⟩ = some (.int .i64 lo) := blk_cell hbox 0; have hc1 : w1.cell? ⟨g, 1, none⟩ = some (.int .i64 hi) := blk_cell hbox 1; have hc2 : w1.cell? ⟨g, 2, none⟩ = some (.int .i64 n) := blk_cell hbox 2; clear hg hbox hb) | (go_at_call 143; (with_reducible refine (bounds_check.run lo hi _).mono ?_); rintro e w2 ⟨rfl, hb⟩; replace HB := Aside0.mk (below_on HB.out hb); clear hb) | (go_at_call 43; (with_reducible refine (bp_within.run n 1 9999999 _).mono ?_); rintro e w9 ⟨rfl, hw⟩; replace hw := Eq.symm hw; subst hw; rw [h1]))
   go_ret
   refine ⟨?_, HB.out⟩
   obtain ⟨j0, j1⟩ := KF.out
   simp [boundsV, j0, j1]
  ·
   skip
   have KF := Aside0.mk (show inR n 1 9999999 = true ∧ (lo == 0) = true from ⟨h1, h2⟩)
   go_enter Tryz.func172, Tryz.ntmps172
   go_wp2_with (first | ((with_reducible refine gate_dst (N := 1) rfl ?_); refine box_event ?hg (N := 1) ?hd (cs := #[.int .i64 lo, .int .i64 hi, .int .i64 n]) (t := 105) ?hr ?_; (case hd => rfl); (case hg => rfl); (case hr => first | (go_simp; done) | (go_simp; rfl)); intro g hg w1 hbox hb; have B0 := Aside0.mk hbox; have HB := Aside0.mk hb; have hc0 : w1.cell? ⟨g, 0, none⟩ = some (.int .i64 lo) := blk_cell hbox 0; have hc1 : w1.cell? ⟨g, 1, none⟩ = some (.int .i64 hi) := blk_cell hbox 1; have hc2 : w1.cell? ⟨g, 2, none⟩ = some (.int .i64 n) := blk_cell hbox 2; clear hg hbox hb) | (go_at_call 143; (with_reducible refine (bounds_check.run lo hi _).mono ?_); rintro e w2 ⟨rfl, hb⟩; replace HB := Aside0.mk (below_on HB.out hb); clear hb) | (go_at_call 43; (with_reducible refine (bp_within.run n 1 9999999 _).mono ?_); rintro e w9 ⟨rfl, hw⟩; replace hw := Eq.symm hw; subst hw; rw [h1]))
   go_ret
   refine ⟨?_, HB.out⟩
   obtain ⟨j0, j1⟩ := KF.out
   simp [boundsV, j0, j1]
theorem item_check.run (n : Int) (b : Bool) (w : World) :
  Calls Tryz.prog 177 #[.agg #[.int .i64 n, .bool b]] w fun e w' => e = .returned (.int .i64 (if inR n 1 9999999 then 0 else 3)) ∧ Below w.heap.size w w' := by
 cases h1 : inR n 1 9999999
 ·
  skip
  have KF := Aside0.mk h1
  go_enter Tryz.func177, Tryz.ntmps177
  go_wp2_with (first | ((with_reducible refine gate_dst (N := 1) rfl ?_); refine box_event ?hg (N := 1) ?hd (cs := #[.int .i64 n, .bool b]) (t := 107) ?hr ?_; (case hd => rfl); (case hg => rfl); (case hr => first | (go_simp; done) | (go_simp; rfl)); intro g hg w1 hbox hb; have B0 := Aside0.mk hbox; have HB := Aside0.mk hb; have hc0 : w1.cell? ⟨g, 0, none⟩ = some (.int .i64 n) := blk_cell hbox 0; have hc1 : w1.cell? ⟨g, 1, none⟩ = some (.bool b) := blk_cell hbox 1; clear hg hbox hb) | (go_at_call 43; (with_reducible refine (bp_within.run n 1 9999999 _).mono ?_); rintro e w9 ⟨rfl, hw⟩; replace hw := Eq.symm hw; subst hw; rw [h1]))
  go_ret
  refine ⟨?_, HB.out⟩
  have j0 := KF.out
  simp [boundsV, j0]
 ·
  skip
  have KF := Aside0.mk h1
  go_enter Tryz.func177, Tryz.ntmps177
  go_wp2_with (first | ((with_reducible refine gate_dst (N := 1) rfl ?_); refine box_event ?hg (N := 1) ?hd (cs := #[.int .i64 n, .bool b]) (t := 107) ?hr ?_; (case hd => rfl); (case hg => rfl); (case hr => first | (go_simp; done) | (go_simp; rfl)); intro g hg w1 hbox hb; have B0 := Aside0.mk hbox; have HB := Aside0.mk hb; have hc0 : w1.cell? ⟨g, 0, none⟩ = some (.int .i64 n) := blk_cell hbox 0; have hc1 : w1.cell? ⟨g, 1, none⟩ = some (.bool b) := blk_cell hbox 1; clear hg hbox hb) | (go_at_call 43; (with_reducible refine (bp_within.run n 1 9999999 _).mono ?_); rintro e w9 ⟨rfl, hw⟩; replace hw := Eq.symm hw; subst hw; rw [h1]))
  go_ret
  refine ⟨?_, HB.out⟩
  have j0 := KF.out
  simp [boundsV, j0]
theorem family_check.run (w : World) :
  Calls Tryz.prog 182 #[.agg #[]] w fun e w' => e = .returned (.int .i64 (0)) ∧ Below w.heap.size w w' := by
 go_enter Tryz.func182, Tryz.ntmps182
 go_wp2
 go_ret
 exact ⟨rfl, below_alloc (Below.refl _ _) _⟩
theorem valid_call (s : ByteArray) (w : World) (hs : s.size ≤ reachBytes) : Calls Tryz.prog 150 #[.string s] w fun e w' => e = .returned (.bool (validS s)) ∧ Below w.heap.size w w' := by
 have h := Con.Valid_tells s.data.toList 60 (Nat.le_refl _)
 rw [Con.ba_data] at h
 exact content_Valid.calls 60 s _ w h
theorem content_check.run (lo hi : Int) (s : ByteArray) (w : World) (hs : s.size ≤ reachBytes) :
  Calls Tryz.prog 146 #[.agg #[.int .i64 lo, .int .i64 hi, .string s]] w fun e w' => e = .returned (.int .i64 (if validS s then boundsV lo hi else 2)) ∧ Below w.heap.size w w' := by
 have HS := Aside0.mk hs
 clear hs
 cases hv : validS s
 ·
  go_enter Tryz.func146, Tryz.ntmps146
  go_wp2_with (first | ((with_reducible refine gate_dst (N := 1) rfl ?_); refine box_event ?hg (N := 1) ?hd (cs := #[.int .i64 lo, .int .i64 hi, .string s]) (t := 100) ?hr ?_; (case hd => rfl); (case hg => rfl); (case hr => first | (go_simp; done) | (go_simp; rfl)); intro g hg w1 hbox hb; have B0 := Aside0.mk hbox; have HB := Aside0.mk hb; have hc0 : w1.cell? ⟨g, 0, none⟩ = some (.int .i64 lo) := blk_cell hbox 0; have hc1 : w1.cell? ⟨g, 1, none⟩ = some (.int .i64 hi) := blk_cell hbox 1; have hc2 : w1.cell? ⟨g, 2, none⟩ = some (.string s) := blk_cell hbox 2; clear hg hbox hb) | (go_at_call 150; (with_reducible refine (valid_call s _ HS.out).mono ?_); rintro e w2 ⟨rfl, hb⟩; replace HB := Aside0.mk (below_on HB.out hb); have hc3 : w2.cell? ⟨g, 0, none⟩ = some (.int .i64 lo) := blk_cell (blk_below B0.out hb) 0; have hc4 : w2.cell? ⟨g, 1, none⟩ = some (.int .i64 hi) := blk_cell (blk_below B0.out hb) 1; rw [hv]; clear hb) | (go_at_call 143; (with_reducible refine (bounds_check.run lo hi _).mono ?_); rintro e w2 ⟨rfl, hb⟩; replace HB := Aside0.mk (below_on HB.out hb); clear hb))
  go_ret
  refine ⟨?_, HB.out⟩
  simp
 ·
  go_enter Tryz.func146, Tryz.ntmps146
  go_wp2_with (first | ((with_reducible refine gate_dst (N := 1) rfl ?_); refine box_event ?hg (N := 1) ?hd (cs := #[.int .i64 lo, .int .i64 hi, .string s]) (t := 100) ?hr ?_; (case hd => rfl); (case hg => rfl); (case hr => first | (go_simp; done) | (go_simp; rfl)); intro g hg w1 hbox hb; have B0 := Aside0.mk hbox; have HB := Aside0.mk hb; have hc0 : w1.cell? ⟨g, 0, none⟩ = some (.int .i64 lo) := blk_cell hbox 0; have hc1 : w1.cell? ⟨g, 1, none⟩ = some (.int .i64 hi) := blk_cell hbox 1; have hc2 : w1.cell? ⟨g, 2, none⟩ = some (.string s) := blk_cell hbox 2; clear hg hbox hb) | (go_at_call 150; (with_reducible refine (valid_call s _ HS.out).mono ?_); rintro e w2 ⟨rfl, hb⟩; replace HB := Aside0.mk (below_on HB.out hb); have hc3 : w2.cell? ⟨g, 0, none⟩ = some (.int .i64 lo) := blk_cell (blk_below B0.out hb) 0; have hc4 : w2.cell? ⟨g, 1, none⟩ = some (.int .i64 hi) := blk_cell (blk_below B0.out hb) 1; rw [hv]; clear hb) | (go_at_call 143; (with_reducible refine (bounds_check.run lo hi _).mono ?_); rintro e w2 ⟨rfl, hb⟩; replace HB := Aside0.mk (below_on HB.out hb); clear hb))
  go_ret
  refine ⟨?_, HB.out⟩
  simp
end Go.Proofs.YtnmfmiemkcaocaaGreat.Hand
namespace Go.Proofs.YtnmfmiemkcaocaaGreat.Hand
open Go.RowKit Go.Proofs.YtnmfmiemkcaocaaGreatW.PrintWords Go.Proofs.YtnmfmiemkcaocaaGreatW.PrintLast Go.Proofs.YtnmfmiemkcaocaaGreatW.PrintMore
set_option linter.unusedVariables false
set_option linter.unusedSimpArgs false
abbrev RuleT := Int × Int × Int × Int × ByteArray
def k74 : Kd RuleT := Kd.pair (Kd.int .i64) (Kd.pair (Kd.int .i64) (Kd.pair (Kd.int .i64) (Kd.pair (Kd.int .i64) Kd.string)))
def noRule : RuleT := (0, 0, 0, 0, ⟨#[]⟩)
theorem add_off_pos (ad : Addr) (n j : Nat) (hj : 0 < j) : ad.add (n + j) = ⟨(ad.add n).block, (ad.add n).off + j, none⟩ := by
 refine addr_ext ?_ ?_ ?_
 ·
  rw [add_block, add_block]
 ·
  rw [add_off, add_off, Nat.add_assoc]
 ·
  unfold Addr.add
  rw [if_neg (by omega)]
theorem rule_at {w : World} {A : Option Addr} {xs : List RuleT} (h : Kd.C k74 w A xs.length xs) (i : Int) (h0 : 0 ≤ i) (h1 : i < xs.length) :
  ∃ q ad, A = some ad ∧ ad.add (i.toNat * 5) = q ∧ w.cell? q = some (.int .i64 (xs.getD i.toNat noRule).1) ∧ w.cell? ⟨q.block, q.off + 1, none⟩ = some (.int .i64 (xs.getD i.toNat noRule).2.1) ∧ w.cell? ⟨q.block, q.off + 2, none⟩ = some (.int .i64 (xs.getD i.toNat noRule).2.2.1) ∧ w.cell? ⟨q.block, q.off + 3, none⟩ = some (.int .i64 (xs.getD i.toNat noRule).2.2.2.1) ∧ w.cell? ⟨q.block, q.off + 4, none⟩ = some (.string (xs.getD i.toNat noRule).2.2.2.2) := by
 obtain ⟨ad, cs, e, hl, ⟨c0, d0, e0, k0, c1, d1, e1, k1, c2, d2, e2, k2, c3, d3, e3, k3, k4⟩, hc⟩ := ReadsRow.get_ h noRule i h0 h1
 have f0 : c0 = [.int .i64 (xs.getD i.toNat noRule).1] := k0
 have f1 : c1 = [.int .i64 (xs.getD i.toNat noRule).2.1] := k1
 have f2 : c2 = [.int .i64 (xs.getD i.toNat noRule).2.2.1] := k2
 have f3 : c3 = [.int .i64 (xs.getD i.toNat noRule).2.2.2.1] := k3
 have f4 : d3 = [.string (xs.getD i.toNat noRule).2.2.2.2] := k4
 have fc : cs = [.int .i64 (xs.getD i.toNat noRule).1, .int .i64 (xs.getD i.toNat noRule).2.1, .int .i64 (xs.getD i.toNat noRule).2.2.1, .int .i64 (xs.getD i.toNat noRule).2.2.2.1, .string (xs.getD i.toNat noRule).2.2.2.2] := by
  rw [e0, e1, e2, e3, f0, f1, f2, f3, f4]; rfl
 have g0 := hc 0 _ (by rw [fc]; rfl)
 have g1 := hc 1 _ (by rw [fc]; rfl)
 have g2 := hc 2 _ (by rw [fc]; rfl)
 have g3 := hc 3 _ (by rw [fc]; rfl)
 have g4 := hc 4 _ (by rw [fc]; rfl)
 rw [show k74.sz = 5 from rfl] at g0 g1 g2 g3 g4
 rw [add_off_pos _ _ _ (by omega)] at g1 g2 g3 g4
 rw [Nat.add_zero] at g0
 exact ⟨_, ad, e, rfl, g0, g1, g2, g3, g4⟩
def chkV (kd n lo hi : Int) (code : ByteArray) : Int :=
 if kd = 1 then (if validS code then boundsV lo hi else 2)
 else if kd = 2 ∨ kd = 3 ∨ kd = 4 then boundsV lo hi
 else if kd = 5 then (if inR n 1 10 then boundsV lo hi else 3)
 else if kd = 6 then (if inR n 1 9999999 && !(lo == 0) then boundsV lo hi else 3)
 else if kd = 7 ∨ kd = 8 then (if inR n 1 9999999 then 0 else 3)
 else 0
def ruleV (x : RuleT) : Int := if okR x.1 x.2.1 x.2.2.1 x.2.2.2.1 x.2.2.2.2 then chkV x.1 x.2.1 x.2.2.1 x.2.2.2.1 x.2.2.2.2 else 1
def rulesV : List RuleT → Int
 | [] => 0
 | x :: l => if ruleV x ≠ 0 then ruleV x else rulesV l
def blueV (len : Int) (rs : List RuleT) : Int := if inR len 1 18 then (if 20 < rs.length then 5 else rulesV rs) else 3
theorem rulesV_at : ∀ (l : List RuleT) (i : Nat), i < l.length → (∀ j, j < i → ruleV (l.getD j noRule) = 0) → ruleV (l.getD i noRule) ≠ 0 → rulesV l = ruleV (l.getD i noRule)
 | [], i, h, _, _ => absurd h (by simp)
 | x :: l, 0, _, _, hn => by
  show (if ruleV x ≠ 0 then ruleV x else rulesV l) = ruleV x
  rw [if_pos (show ruleV x ≠ 0 from hn)]
 | x :: l, i + 1, h, hz, hn => by
  show (if ruleV x ≠ 0 then ruleV x else rulesV l) = _
  have h0 := hz 0 (by omega)
  rw [if_neg (fun e => e h0)]
  exact rulesV_at l i (by simpa using h) (fun j hj => hz (j + 1) (by omega)) hn
theorem rulesV_zero : ∀ (l : List RuleT), (∀ j, j < l.length → ruleV (l.getD j noRule) = 0) → rulesV l = 0
 | [], _ => rfl
 | x :: l, h => by
  show (if ruleV x ≠ 0 then ruleV x else rulesV l) = 0
  have h0 := h 0 (by simp)
  rw [if_neg (fun e => e h0)]
  exact rulesV_zero l (fun j hj => h (j + 1) (by simpa using hj))
theorem invL_ {ops : Array Oper} {Q : Exit → Act → World → Prop} {rest : List Oper} {oi : Oper} {a : Act} {w : World} (N : Option Tmp) (hd : oi.dst = N) (hg : oi.guard = none) (o : Operand) (t : TypeId) (v x : Value) {f : FuncId} {fn : Func} {name : String} (hop : oi.op = .call { callee := .invoke o name, args := #[], argTypes := #[] }) (hv : a.eval o = .iface t v) (hm : ∀ W, (method (183 + Made.depth) t v name).run Tryz.prog W = .ok (f, x) W)
  (hf : Tryz.prog.funcs[f]? = some fn) (hname : (fn.name == "runtime.NumGoroutine") = false) (hb : fn.body.isSome = true)
  (h : Calls Tryz.prog f #[x] w fun e w' => ∃ v, e = .returned v ∧ wpList Tryz.prog ops Q rest (a.put N v) w') : wpList Tryz.prog ops Q (oi :: rest) a w := by
 refine wpList_plain hg fun K hK => ?_
 have he := enters_ (P := Tryz.prog) hf hname hb #[x] w
 have hrun : (execOp a.eval oi).run Tryz.prog w = .ok (.enter f #[x]) w := by
  unfold execOp
  simp [hop, resolve, invoke, hv, callMethod, hm, he]
 unfold Oper.wp
 rw [hrun, Oper.upon_enter]
 refine h.mono fun e w'' hh => ?_
 obtain ⟨v, rfl, hk⟩ := hh
 subst hd
 exact hK _ _ hk
theorem meth100 (v : Value) (w : World) : (method (183 + Made.depth) 100 v "examboard/blueprint.check").run Tryz.prog w = .ok (146, v) w := by kernel_rfl
theorem meth102 (a b c : Value) (w : World) : (method (183 + Made.depth) 102 (.agg #[a, b, c]) "examboard/blueprint.check").run Tryz.prog w = .ok (143, .agg #[a, b]) w := by kernel_rfl
theorem meth104 (v : Value) (w : World) : (method (183 + Made.depth) 104 v "examboard/blueprint.check").run Tryz.prog w = .ok (167, v) w := by kernel_rfl
theorem meth105 (v : Value) (w : World) : (method (183 + Made.depth) 105 v "examboard/blueprint.check").run Tryz.prog w = .ok (172, v) w := by kernel_rfl
theorem meth107 (v : Value) (w : World) : (method (183 + Made.depth) 107 v "examboard/blueprint.check").run Tryz.prog w = .ok (177, v) w := by kernel_rfl
theorem meth109 (v : Value) (w : World) : (method (183 + Made.depth) 109 v "examboard/blueprint.check").run Tryz.prog w = .ok (182, v) w := by kernel_rfl
theorem blueprint_Valid.run (len : Int) (rs : List RuleT) (A : Option Addr) (cap : Nat) (w : World) (hr : Kd.C k74 w A rs.length rs) (hs : ∀ x ∈ rs, x.2.2.2.2.size ≤ reachBytes) :
  Calls Tryz.prog 21 #[.agg #[.int .i64 len, .slice A rs.length cap]] w fun e w' => e = .returned (.int .i64 (blueV len rs)) ∧ Below w.heap.size w w' := by
 have HR := Aside0.mk hr
 have HS := Aside0.mk hs
 have HB := Aside0.mk (Below.refl w.heap.size w)
 clear hr hs
 cases h1 : inR len 1 18
 ·
  have D := Aside0.mk h1
  go_enter Tryz.func21, Tryz.ntmps21
  go_wp2_with (first | ((with_reducible refine gate_dst (N := 1) rfl ?_); refine box_event ?hg (N := 1) ?hd (cs := #[.int .i64 len, .slice A rs.length cap]) (t := 24) ?hr ?_; (case hd => rfl); (case hg => rfl); (case hr => first | (go_simp; done) | (go_simp; rfl)); intro g hg w1 hbox hb; replace HB := Aside0.mk hb; have hc0 : w1.cell? ⟨g, 0, none⟩ = some (.int .i64 len) := blk_cell hbox 0; have hc1 : w1.cell? ⟨g, 1, none⟩ = some (.slice A rs.length cap) := blk_cell hbox 1; clear hg hbox hb) | (go_at_call 43; (with_reducible refine (bp_within.run len 1 18 _).mono ?_); rintro e w9 ⟨rfl, hw⟩; replace hw := Eq.symm hw; subst hw; rw [h1]))
  go_ret
  refine ⟨?_, HB.out⟩
  rw [show blueV len rs = 3 by unfold blueV; rw [D.out]; rfl]
  rfl
 ·
  by_cases c2 : 20 < rs.length
  ·
   have h2 : decide ((20 : Int) < (rs.length : Int)) = true := decide_eq_true (by omega)
   have D := Aside0.mk (And.intro h1 c2)
   clear c2
   go_enter Tryz.func21, Tryz.ntmps21
   go_wp2_with (first | ((with_reducible refine gate_dst (N := 1) rfl ?_); refine box_event ?hg (N := 1) ?hd (cs := #[.int .i64 len, .slice A rs.length cap]) (t := 24) ?hr ?_; (case hd => rfl); (case hg => rfl); (case hr => first | (go_simp; done) | (go_simp; rfl)); intro g hg w1 hbox hb; replace HB := Aside0.mk hb; have hc0 : w1.cell? ⟨g, 0, none⟩ = some (.int .i64 len) := blk_cell hbox 0; have hc1 : w1.cell? ⟨g, 1, none⟩ = some (.slice A rs.length cap) := blk_cell hbox 1; clear hg hbox hb) | (go_at_call 43; (with_reducible refine (bp_within.run len 1 18 _).mono ?_); rintro e w9 ⟨rfl, hw⟩; replace hw := Eq.symm hw; subst hw; rw [h1]))
   go_ret
   refine ⟨?_, HB.out⟩
   rw [show blueV len rs = 5 by unfold blueV; rw [D.out.1, if_pos rfl, if_pos D.out.2]]
   rfl
  ·
   have h2 : decide ((20 : Int) < (rs.length : Int)) = false := decide_eq_false (by omega)
   have D := Aside0.mk (And.intro h1 (Nat.not_lt.1 c2))
   clear c2
   go_enter Tryz.func21, Tryz.ntmps21
   go_wp2_with (first | ((with_reducible refine gate_dst (N := 1) rfl ?_); refine box_event ?hg (N := 1) ?hd (cs := #[.int .i64 len, .slice A rs.length cap]) (t := 24) ?hr ?_; (case hd => rfl); (case hg => rfl); (case hr => first | (go_simp; done) | (go_simp; rfl)); intro g hg w1 hbox hb; replace HB := Aside0.mk hb; have hc0 : w1.cell? ⟨g, 0, none⟩ = some (.int .i64 len) := blk_cell hbox 0; have hc1 : w1.cell? ⟨g, 1, none⟩ = some (.slice A rs.length cap) := blk_cell hbox 1; clear hg hbox hb) | (go_at_call 43; (with_reducible refine (bp_within.run len 1 18 _).mono ?_); rintro e w9 ⟨rfl, hw⟩; replace hw := Eq.symm hw; subst hw; rw [h1]))
   clear hc0 hc1
   go_loopg [19] rs.length (fun kq v19 w' => ∃ i : Int, v19 = .int .i64 i ∧ Aside0 (i + kq = (rs.length : Int) ∧ kq ≤ rs.length) ∧ Aside0 (∀ j, j < i.toNat → ruleV (rs.getD j noRule) = 0) ∧ Aside0 (Below w.heap.size w w'))
   case atStart => exact ⟨0, rfl, ⟨by omega, Nat.le_refl _⟩, ⟨fun j hj => absurd hj (by simp)⟩, HB⟩
   case round =>
    obtain ⟨i, rfl, HI, HN, HBl⟩ := hrel
    by_cases ci : i < (rs.length : Int)
    ·
     have d1 : decide (i < (rs.length : Int)) = true := decide_eq_true ci
     have p1 : 0 ≤ i := by have := HI.out; omega
     obtain ⟨g1, hk⟩ : ∃ g1, gk = g1 + 1 := ⟨gk - 1, by have := HI.out; omega⟩
     subst hk
     obtain ⟨q, ad, ea, eq, x0, x1, x2, x3, x4⟩ := rule_at (Kd.C_below HR.out HBl.out) i p1 ci
     subst ea
     obtain ⟨x, hx⟩ : ∃ x, rs.getD i.toNat noRule = x := ⟨_, rfl⟩
     rw [hx] at x0 x1 x2 x3 x4
     have hm : x.2.2.2.2.size ≤ reachBytes := by rw [← hx]; exact HS.out _ (getD_mem (by omega))
     obtain ⟨kd, n, lo, hi, code⟩ := x
     simp only at x0 x1 x2 x3 x4 hm
     have HM := Aside0.mk hm
     obtain ⟨i1, hi1⟩ : ∃ i1, IntKind.i64.wrap (i + 1) = i1 := ⟨_, rfl⟩
     have E := Aside0.mk (show 0 ≤ i ∧ i < (rs.length : Int) ∧ rs.getD i.toNat noRule = (kd, n, lo, hi, code) from ⟨p1, ci, hx⟩)
     have p2 := eq_true p1
     have q1 := eq_true ci
     clear hx hm p1 ci
     cases hok : okR kd n lo hi code
     ·
      have OK := Aside0.mk hok
      go_wp2_with (first | (go_at_call 44; (with_reducible refine (blueprint_of.run kd n lo hi code _).mono ?_); rintro e w3 ⟨rfl, hb⟩; have HB3 := Aside0.mk (below_on (below_alloc HBl.out _) hb); rw [hok]; clear hb))
      go_ret
      refine ⟨?_, HB3.out⟩
      obtain ⟨e0, e1, e2⟩ := E.out
      have hv : ruleV (rs.getD i.toNat noRule) = 1 := by rw [e2]; unfold ruleV; rw [OK.out]; rfl
      rw [show blueV len rs = 1 by unfold blueV; rw [D.out.1, if_pos rfl, if_neg (Nat.not_lt.2 D.out.2), rulesV_at rs i.toNat (by omega) HN.out (by rw [hv]; decide), hv]]
      rfl
     ·
      have OK := Aside0.mk hok
      obtain ⟨e0, e1, e2⟩ := E.out
      obtain ⟨cv, hcv⟩ : ∃ v, chkV kd n lo hi code = v := ⟨_, rfl⟩
      have hrv : ruleV (rs.getD i.toNat noRule) = cv := by rw [e2]; unfold ruleV; rw [OK.out, if_pos rfl]; exact hcv
      have HV := Aside0.mk (And.intro hcv hrv)
      clear hcv hrv e2 e0 e1
      have hkind : 1 ≤ kd ∧ kd ≤ 9 := by
       have := OK.out
       unfold okR at this
       by_cases hh : 1 ≤ kd ∧ kd ≤ 9
       ·
        exact hh
       ·
        rw [if_neg (by omega), if_neg (by omega), if_neg (by omega), if_neg (by omega), if_neg (by omega), if_neg (by omega)] at this
        exact absurd this (by decide)
      by_cases cz : cv = 0
      ·
       have kz : (cv == 0) = true := by rw [beq_iff_eq]; exact cz
       have kzn : (cv != 0) = false := by rw [bne, kz]; rfl
       have Z := Aside0.mk cz
       clear cz
       have : kd = 1 ∨ kd = 2 ∨ kd = 3 ∨ kd = 4 ∨ kd = 5 ∨ kd = 6 ∨ kd = 7 ∨ kd = 8 ∨ kd = 9 := by omega
       clear hkind
       rcases this with rfl | rfl | rfl | rfl | rfl | rfl | rfl | rfl | rfl
       ·
        have CV := Aside0.mk (show (if validS code then boundsV lo hi else 2) = cv from HV.out.1)
        go_wp2_with (first | (go_at_call 44; (with_reducible refine (blueprint_of.run 1 n lo hi code _).mono ?_); rintro e w3 ⟨rfl, hb⟩; have HB3 := Aside0.mk (below_on (below_alloc HBl.out _) hb); rw [hok, show ofR 1 n lo hi code = .iface 100 (.agg #[.int .i64 lo, .int .i64 hi, .string code]) from rfl]; clear hb) | ((with_reducible refine gate_dst (N := 31) rfl ?_); refine invL_ (some 31) rfl rfl (.tmp 30) 100 (.agg #[.int .i64 lo, .int .i64 hi, .string code]) (.agg #[.int .i64 lo, .int .i64 hi, .string code]) (by rfl) (by rfl) (meth100 _) Tryz.func146 (by kernel_rfl) rfl ?_; (with_reducible refine (content_check.run lo hi code _ HM.out).mono ?_); rintro e w4 ⟨rfl, hb⟩; refine ⟨_, rfl, ?_⟩; replace HB3 := Aside0.mk (below_on HB3.out hb); rw [CV.out]; clear hb))
        go_roundg g1
        case measure => omega
        case rel =>
         obtain ⟨e0, e1, e2⟩ := E.out
         have hI := HI.out
         have hD := D.out.2
         have ei1 : i1 = i + 1 := by rw [← hi1, i64_w]; unfold wrap64; omega
         refine ⟨i1, rfl, ⟨by omega, by omega⟩, ⟨fun j hj => ?_⟩, HB3⟩
         rcases Nat.lt_or_ge j i.toNat with hh | hh
         ·
          exact HN.out j hh
         ·
          have : j = i.toNat := by omega
          subst this
          rw [HV.out.2]; exact Z.out
       ·
        have CV := Aside0.mk (show (boundsV lo hi) = cv from HV.out.1)
        go_wp2_with (first | (go_at_call 44; (with_reducible refine (blueprint_of.run 2 n lo hi code _).mono ?_); rintro e w3 ⟨rfl, hb⟩; have HB3 := Aside0.mk (below_on (below_alloc HBl.out _) hb); rw [hok, show ofR 2 n lo hi code = .iface 102 (.agg #[.int .i64 lo, .int .i64 hi, .int .i64 2]) from rfl]; clear hb) | ((with_reducible refine gate_dst (N := 31) rfl ?_); refine invL_ (some 31) rfl rfl (.tmp 30) 102 (.agg #[.int .i64 lo, .int .i64 hi, .int .i64 2]) (.agg #[.int .i64 lo, .int .i64 hi]) (by rfl) (by rfl) (meth102 _ _ _) Tryz.func143 (by kernel_rfl) rfl ?_; (with_reducible refine (bounds_check.run lo hi _).mono ?_); rintro e w4 ⟨rfl, hb⟩; refine ⟨_, rfl, ?_⟩; replace HB3 := Aside0.mk (below_on HB3.out hb); rw [CV.out]; clear hb))
        go_roundg g1
        case measure => omega
        case rel =>
         obtain ⟨e0, e1, e2⟩ := E.out
         have hI := HI.out
         have hD := D.out.2
         have ei1 : i1 = i + 1 := by rw [← hi1, i64_w]; unfold wrap64; omega
         refine ⟨i1, rfl, ⟨by omega, by omega⟩, ⟨fun j hj => ?_⟩, HB3⟩
         rcases Nat.lt_or_ge j i.toNat with hh | hh
         ·
          exact HN.out j hh
         ·
          have : j = i.toNat := by omega
          subst this
          rw [HV.out.2]; exact Z.out
       ·
        have CV := Aside0.mk (show (boundsV lo hi) = cv from HV.out.1)
        go_wp2_with (first | (go_at_call 44; (with_reducible refine (blueprint_of.run 3 n lo hi code _).mono ?_); rintro e w3 ⟨rfl, hb⟩; have HB3 := Aside0.mk (below_on (below_alloc HBl.out _) hb); rw [hok, show ofR 3 n lo hi code = .iface 102 (.agg #[.int .i64 lo, .int .i64 hi, .int .i64 3]) from rfl]; clear hb) | ((with_reducible refine gate_dst (N := 31) rfl ?_); refine invL_ (some 31) rfl rfl (.tmp 30) 102 (.agg #[.int .i64 lo, .int .i64 hi, .int .i64 3]) (.agg #[.int .i64 lo, .int .i64 hi]) (by rfl) (by rfl) (meth102 _ _ _) Tryz.func143 (by kernel_rfl) rfl ?_; (with_reducible refine (bounds_check.run lo hi _).mono ?_); rintro e w4 ⟨rfl, hb⟩; refine ⟨_, rfl, ?_⟩; replace HB3 := Aside0.mk (below_on HB3.out hb); rw [CV.out]; clear hb))
        go_roundg g1
        case measure => omega
        case rel =>
         obtain ⟨e0, e1, e2⟩ := E.out
         have hI := HI.out
         have hD := D.out.2
         have ei1 : i1 = i + 1 := by rw [← hi1, i64_w]; unfold wrap64; omega
         refine ⟨i1, rfl, ⟨by omega, by omega⟩, ⟨fun j hj => ?_⟩, HB3⟩
         rcases Nat.lt_or_ge j i.toNat with hh | hh
         ·
          exact HN.out j hh
         ·
          have : j = i.toNat := by omega
          subst this
          rw [HV.out.2]; exact Z.out
       ·
        have CV := Aside0.mk (show (boundsV lo hi) = cv from HV.out.1)
        go_wp2_with (first | (go_at_call 44; (with_reducible refine (blueprint_of.run 4 n lo hi code _).mono ?_); rintro e w3 ⟨rfl, hb⟩; have HB3 := Aside0.mk (below_on (below_alloc HBl.out _) hb); rw [hok, show ofR 4 n lo hi code = .iface 102 (.agg #[.int .i64 lo, .int .i64 hi, .int .i64 4]) from rfl]; clear hb) | ((with_reducible refine gate_dst (N := 31) rfl ?_); refine invL_ (some 31) rfl rfl (.tmp 30) 102 (.agg #[.int .i64 lo, .int .i64 hi, .int .i64 4]) (.agg #[.int .i64 lo, .int .i64 hi]) (by rfl) (by rfl) (meth102 _ _ _) Tryz.func143 (by kernel_rfl) rfl ?_; (with_reducible refine (bounds_check.run lo hi _).mono ?_); rintro e w4 ⟨rfl, hb⟩; refine ⟨_, rfl, ?_⟩; replace HB3 := Aside0.mk (below_on HB3.out hb); rw [CV.out]; clear hb))
        go_roundg g1
        case measure => omega
        case rel =>
         obtain ⟨e0, e1, e2⟩ := E.out
         have hI := HI.out
         have hD := D.out.2
         have ei1 : i1 = i + 1 := by rw [← hi1, i64_w]; unfold wrap64; omega
         refine ⟨i1, rfl, ⟨by omega, by omega⟩, ⟨fun j hj => ?_⟩, HB3⟩
         rcases Nat.lt_or_ge j i.toNat with hh | hh
         ·
          exact HN.out j hh
         ·
          have : j = i.toNat := by omega
          subst this
          rw [HV.out.2]; exact Z.out
       ·
        have CV := Aside0.mk (show (if inR n 1 10 then boundsV lo hi else 3) = cv from HV.out.1)
        go_wp2_with (first | (go_at_call 44; (with_reducible refine (blueprint_of.run 5 n lo hi code _).mono ?_); rintro e w3 ⟨rfl, hb⟩; have HB3 := Aside0.mk (below_on (below_alloc HBl.out _) hb); rw [hok, show ofR 5 n lo hi code = .iface 104 (.agg #[.int .i64 lo, .int .i64 hi, .int .i64 n]) from rfl]; clear hb) | ((with_reducible refine gate_dst (N := 31) rfl ?_); refine invL_ (some 31) rfl rfl (.tmp 30) 104 (.agg #[.int .i64 lo, .int .i64 hi, .int .i64 n]) (.agg #[.int .i64 lo, .int .i64 hi, .int .i64 n]) (by rfl) (by rfl) (meth104 _) Tryz.func167 (by kernel_rfl) rfl ?_; (with_reducible refine (key_check.run lo hi n _).mono ?_); rintro e w4 ⟨rfl, hb⟩; refine ⟨_, rfl, ?_⟩; replace HB3 := Aside0.mk (below_on HB3.out hb); rw [CV.out]; clear hb))
        go_roundg g1
        case measure => omega
        case rel =>
         obtain ⟨e0, e1, e2⟩ := E.out
         have hI := HI.out
         have hD := D.out.2
         have ei1 : i1 = i + 1 := by rw [← hi1, i64_w]; unfold wrap64; omega
         refine ⟨i1, rfl, ⟨by omega, by omega⟩, ⟨fun j hj => ?_⟩, HB3⟩
         rcases Nat.lt_or_ge j i.toNat with hh | hh
         ·
          exact HN.out j hh
         ·
          have : j = i.toNat := by omega
          subst this
          rw [HV.out.2]; exact Z.out
       ·
        have CV := Aside0.mk (show (if inR n 1 9999999 && !(lo == 0) then boundsV lo hi else 3) = cv from HV.out.1)
        go_wp2_with (first | (go_at_call 44; (with_reducible refine (blueprint_of.run 6 n lo hi code _).mono ?_); rintro e w3 ⟨rfl, hb⟩; have HB3 := Aside0.mk (below_on (below_alloc HBl.out _) hb); rw [hok, show ofR 6 n lo hi code = .iface 105 (.agg #[.int .i64 lo, .int .i64 hi, .int .i64 n]) from rfl]; clear hb) | ((with_reducible refine gate_dst (N := 31) rfl ?_); refine invL_ (some 31) rfl rfl (.tmp 30) 105 (.agg #[.int .i64 lo, .int .i64 hi, .int .i64 n]) (.agg #[.int .i64 lo, .int .i64 hi, .int .i64 n]) (by rfl) (by rfl) (meth105 _) Tryz.func172 (by kernel_rfl) rfl ?_; (with_reducible refine (set_check.run lo hi n _).mono ?_); rintro e w4 ⟨rfl, hb⟩; refine ⟨_, rfl, ?_⟩; replace HB3 := Aside0.mk (below_on HB3.out hb); rw [CV.out]; clear hb))
        go_roundg g1
        case measure => omega
        case rel =>
         obtain ⟨e0, e1, e2⟩ := E.out
         have hI := HI.out
         have hD := D.out.2
         have ei1 : i1 = i + 1 := by rw [← hi1, i64_w]; unfold wrap64; omega
         refine ⟨i1, rfl, ⟨by omega, by omega⟩, ⟨fun j hj => ?_⟩, HB3⟩
         rcases Nat.lt_or_ge j i.toNat with hh | hh
         ·
          exact HN.out j hh
         ·
          have : j = i.toNat := by omega
          subst this
          rw [HV.out.2]; exact Z.out
       ·
        have CV := Aside0.mk (show (if inR n 1 9999999 then 0 else 3) = cv from HV.out.1)
        go_wp2_with (first | (go_at_call 44; (with_reducible refine (blueprint_of.run 7 n lo hi code _).mono ?_); rintro e w3 ⟨rfl, hb⟩; have HB3 := Aside0.mk (below_on (below_alloc HBl.out _) hb); rw [hok, show ofR 7 n lo hi code = .iface 107 (.agg #[.int .i64 n, .bool true]) from rfl]; clear hb) | ((with_reducible refine gate_dst (N := 31) rfl ?_); refine invL_ (some 31) rfl rfl (.tmp 30) 107 (.agg #[.int .i64 n, .bool true]) (.agg #[.int .i64 n, .bool true]) (by rfl) (by rfl) (meth107 _) Tryz.func177 (by kernel_rfl) rfl ?_; (with_reducible refine (item_check.run n _ _).mono ?_); rintro e w4 ⟨rfl, hb⟩; refine ⟨_, rfl, ?_⟩; replace HB3 := Aside0.mk (below_on HB3.out hb); rw [CV.out]; clear hb))
        go_roundg g1
        case measure => omega
        case rel =>
         obtain ⟨e0, e1, e2⟩ := E.out
         have hI := HI.out
         have hD := D.out.2
         have ei1 : i1 = i + 1 := by rw [← hi1, i64_w]; unfold wrap64; omega
         refine ⟨i1, rfl, ⟨by omega, by omega⟩, ⟨fun j hj => ?_⟩, HB3⟩
         rcases Nat.lt_or_ge j i.toNat with hh | hh
         ·
          exact HN.out j hh
         ·
          have : j = i.toNat := by omega
          subst this
          rw [HV.out.2]; exact Z.out
       ·
        have CV := Aside0.mk (show (if inR n 1 9999999 then 0 else 3) = cv from HV.out.1)
        go_wp2_with (first | (go_at_call 44; (with_reducible refine (blueprint_of.run 8 n lo hi code _).mono ?_); rintro e w3 ⟨rfl, hb⟩; have HB3 := Aside0.mk (below_on (below_alloc HBl.out _) hb); rw [hok, show ofR 8 n lo hi code = .iface 107 (.agg #[.int .i64 n, .bool false]) from rfl]; clear hb) | ((with_reducible refine gate_dst (N := 31) rfl ?_); refine invL_ (some 31) rfl rfl (.tmp 30) 107 (.agg #[.int .i64 n, .bool false]) (.agg #[.int .i64 n, .bool false]) (by rfl) (by rfl) (meth107 _) Tryz.func177 (by kernel_rfl) rfl ?_; (with_reducible refine (item_check.run n _ _).mono ?_); rintro e w4 ⟨rfl, hb⟩; refine ⟨_, rfl, ?_⟩; replace HB3 := Aside0.mk (below_on HB3.out hb); rw [CV.out]; clear hb))
        go_roundg g1
        case measure => omega
        case rel =>
         obtain ⟨e0, e1, e2⟩ := E.out
         have hI := HI.out
         have hD := D.out.2
         have ei1 : i1 = i + 1 := by rw [← hi1, i64_w]; unfold wrap64; omega
         refine ⟨i1, rfl, ⟨by omega, by omega⟩, ⟨fun j hj => ?_⟩, HB3⟩
         rcases Nat.lt_or_ge j i.toNat with hh | hh
         ·
          exact HN.out j hh
         ·
          have : j = i.toNat := by omega
          subst this
          rw [HV.out.2]; exact Z.out
       ·
        have CV := Aside0.mk (show (0) = cv from HV.out.1)
        go_wp2_with (first | (go_at_call 44; (with_reducible refine (blueprint_of.run 9 n lo hi code _).mono ?_); rintro e w3 ⟨rfl, hb⟩; have HB3 := Aside0.mk (below_on (below_alloc HBl.out _) hb); rw [hok, show ofR 9 n lo hi code = .iface 109 (.agg #[]) from rfl]; clear hb) | ((with_reducible refine gate_dst (N := 31) rfl ?_); refine invL_ (some 31) rfl rfl (.tmp 30) 109 (.agg #[]) (.agg #[]) (by rfl) (by rfl) (meth109 _) Tryz.func182 (by kernel_rfl) rfl ?_; (with_reducible refine (family_check.run _).mono ?_); rintro e w4 ⟨rfl, hb⟩; refine ⟨_, rfl, ?_⟩; replace HB3 := Aside0.mk (below_on HB3.out hb); rw [CV.out]; clear hb))
        go_roundg g1
        case measure => omega
        case rel =>
         obtain ⟨e0, e1, e2⟩ := E.out
         have hI := HI.out
         have hD := D.out.2
         have ei1 : i1 = i + 1 := by rw [← hi1, i64_w]; unfold wrap64; omega
         refine ⟨i1, rfl, ⟨by omega, by omega⟩, ⟨fun j hj => ?_⟩, HB3⟩
         rcases Nat.lt_or_ge j i.toNat with hh | hh
         ·
          exact HN.out j hh
         ·
          have : j = i.toNat := by omega
          subst this
          rw [HV.out.2]; exact Z.out
      ·
       have kz : (cv == 0) = false := by rw [beq_eq_false_iff_ne]; exact cz
       have kzn : (cv != 0) = true := by rw [bne, kz]; rfl
       have Z := Aside0.mk cz
       clear cz
       have : kd = 1 ∨ kd = 2 ∨ kd = 3 ∨ kd = 4 ∨ kd = 5 ∨ kd = 6 ∨ kd = 7 ∨ kd = 8 ∨ kd = 9 := by omega
       clear hkind
       rcases this with rfl | rfl | rfl | rfl | rfl | rfl | rfl | rfl | rfl
       ·
        have CV := Aside0.mk (show (if validS code then boundsV lo hi else 2) = cv from HV.out.1)
        go_wp2_with (first | (go_at_call 44; (with_reducible refine (blueprint_of.run 1 n lo hi code _).mono ?_); rintro e w3 ⟨rfl, hb⟩; have HB3 := Aside0.mk (below_on (below_alloc HBl.out _) hb); rw [hok, show ofR 1 n lo hi code = .iface 100 (.agg #[.int .i64 lo, .int .i64 hi, .string code]) from rfl]; clear hb) | ((with_reducible refine gate_dst (N := 31) rfl ?_); refine invL_ (some 31) rfl rfl (.tmp 30) 100 (.agg #[.int .i64 lo, .int .i64 hi, .string code]) (.agg #[.int .i64 lo, .int .i64 hi, .string code]) (by rfl) (by rfl) (meth100 _) Tryz.func146 (by kernel_rfl) rfl ?_; (with_reducible refine (content_check.run lo hi code _ HM.out).mono ?_); rintro e w4 ⟨rfl, hb⟩; refine ⟨_, rfl, ?_⟩; replace HB3 := Aside0.mk (below_on HB3.out hb); rw [CV.out]; clear hb))
        go_ret
        refine ⟨?_, HB3.out⟩
        obtain ⟨e0, e1, e2⟩ := E.out
        rw [show blueV len rs = cv by unfold blueV; rw [D.out.1, if_pos rfl, if_neg (Nat.not_lt.2 D.out.2), rulesV_at rs i.toNat (by omega) HN.out (by rw [HV.out.2]; exact Z.out), HV.out.2]]
        rfl
       ·
        have CV := Aside0.mk (show (boundsV lo hi) = cv from HV.out.1)
        go_wp2_with (first | (go_at_call 44; (with_reducible refine (blueprint_of.run 2 n lo hi code _).mono ?_); rintro e w3 ⟨rfl, hb⟩; have HB3 := Aside0.mk (below_on (below_alloc HBl.out _) hb); rw [hok, show ofR 2 n lo hi code = .iface 102 (.agg #[.int .i64 lo, .int .i64 hi, .int .i64 2]) from rfl]; clear hb) | ((with_reducible refine gate_dst (N := 31) rfl ?_); refine invL_ (some 31) rfl rfl (.tmp 30) 102 (.agg #[.int .i64 lo, .int .i64 hi, .int .i64 2]) (.agg #[.int .i64 lo, .int .i64 hi]) (by rfl) (by rfl) (meth102 _ _ _) Tryz.func143 (by kernel_rfl) rfl ?_; (with_reducible refine (bounds_check.run lo hi _).mono ?_); rintro e w4 ⟨rfl, hb⟩; refine ⟨_, rfl, ?_⟩; replace HB3 := Aside0.mk (below_on HB3.out hb); rw [CV.out]; clear hb))
        go_ret
        refine ⟨?_, HB3.out⟩
        obtain ⟨e0, e1, e2⟩ := E.out
        rw [show blueV len rs = cv by unfold blueV; rw [D.out.1, if_pos rfl, if_neg (Nat.not_lt.2 D.out.2), rulesV_at rs i.toNat (by omega) HN.out (by rw [HV.out.2]; exact Z.out), HV.out.2]]
        rfl
       ·
        have CV := Aside0.mk (show (boundsV lo hi) = cv from HV.out.1)
        go_wp2_with (first | (go_at_call 44; (with_reducible refine (blueprint_of.run 3 n lo hi code _).mono ?_); rintro e w3 ⟨rfl, hb⟩; have HB3 := Aside0.mk (below_on (below_alloc HBl.out _) hb); rw [hok, show ofR 3 n lo hi code = .iface 102 (.agg #[.int .i64 lo, .int .i64 hi, .int .i64 3]) from rfl]; clear hb) | ((with_reducible refine gate_dst (N := 31) rfl ?_); refine invL_ (some 31) rfl rfl (.tmp 30) 102 (.agg #[.int .i64 lo, .int .i64 hi, .int .i64 3]) (.agg #[.int .i64 lo, .int .i64 hi]) (by rfl) (by rfl) (meth102 _ _ _) Tryz.func143 (by kernel_rfl) rfl ?_; (with_reducible refine (bounds_check.run lo hi _).mono ?_); rintro e w4 ⟨rfl, hb⟩; refine ⟨_, rfl, ?_⟩; replace HB3 := Aside0.mk (below_on HB3.out hb); rw [CV.out]; clear hb))
        go_ret
        refine ⟨?_, HB3.out⟩
        obtain ⟨e0, e1, e2⟩ := E.out
        rw [show blueV len rs = cv by unfold blueV; rw [D.out.1, if_pos rfl, if_neg (Nat.not_lt.2 D.out.2), rulesV_at rs i.toNat (by omega) HN.out (by rw [HV.out.2]; exact Z.out), HV.out.2]]
        rfl
       ·
        have CV := Aside0.mk (show (boundsV lo hi) = cv from HV.out.1)
        go_wp2_with (first | (go_at_call 44; (with_reducible refine (blueprint_of.run 4 n lo hi code _).mono ?_); rintro e w3 ⟨rfl, hb⟩; have HB3 := Aside0.mk (below_on (below_alloc HBl.out _) hb); rw [hok, show ofR 4 n lo hi code = .iface 102 (.agg #[.int .i64 lo, .int .i64 hi, .int .i64 4]) from rfl]; clear hb) | ((with_reducible refine gate_dst (N := 31) rfl ?_); refine invL_ (some 31) rfl rfl (.tmp 30) 102 (.agg #[.int .i64 lo, .int .i64 hi, .int .i64 4]) (.agg #[.int .i64 lo, .int .i64 hi]) (by rfl) (by rfl) (meth102 _ _ _) Tryz.func143 (by kernel_rfl) rfl ?_; (with_reducible refine (bounds_check.run lo hi _).mono ?_); rintro e w4 ⟨rfl, hb⟩; refine ⟨_, rfl, ?_⟩; replace HB3 := Aside0.mk (below_on HB3.out hb); rw [CV.out]; clear hb))
        go_ret
        refine ⟨?_, HB3.out⟩
        obtain ⟨e0, e1, e2⟩ := E.out
        rw [show blueV len rs = cv by unfold blueV; rw [D.out.1, if_pos rfl, if_neg (Nat.not_lt.2 D.out.2), rulesV_at rs i.toNat (by omega) HN.out (by rw [HV.out.2]; exact Z.out), HV.out.2]]
        rfl
       ·
        have CV := Aside0.mk (show (if inR n 1 10 then boundsV lo hi else 3) = cv from HV.out.1)
        go_wp2_with (first | (go_at_call 44; (with_reducible refine (blueprint_of.run 5 n lo hi code _).mono ?_); rintro e w3 ⟨rfl, hb⟩; have HB3 := Aside0.mk (below_on (below_alloc HBl.out _) hb); rw [hok, show ofR 5 n lo hi code = .iface 104 (.agg #[.int .i64 lo, .int .i64 hi, .int .i64 n]) from rfl]; clear hb) | ((with_reducible refine gate_dst (N := 31) rfl ?_); refine invL_ (some 31) rfl rfl (.tmp 30) 104 (.agg #[.int .i64 lo, .int .i64 hi, .int .i64 n]) (.agg #[.int .i64 lo, .int .i64 hi, .int .i64 n]) (by rfl) (by rfl) (meth104 _) Tryz.func167 (by kernel_rfl) rfl ?_; (with_reducible refine (key_check.run lo hi n _).mono ?_); rintro e w4 ⟨rfl, hb⟩; refine ⟨_, rfl, ?_⟩; replace HB3 := Aside0.mk (below_on HB3.out hb); rw [CV.out]; clear hb))
        go_ret
        refine ⟨?_, HB3.out⟩
        obtain ⟨e0, e1, e2⟩ := E.out
        rw [show blueV len rs = cv by unfold blueV; rw [D.out.1, if_pos rfl, if_neg (Nat.not_lt.2 D.out.2), rulesV_at rs i.toNat (by omega) HN.out (by rw [HV.out.2]; exact Z.out), HV.out.2]]
        rfl
       ·
        have CV := Aside0.mk (show (if inR n 1 9999999 && !(lo == 0) then boundsV lo hi else 3) = cv from HV.out.1)
        go_wp2_with (first | (go_at_call 44; (with_reducible refine (blueprint_of.run 6 n lo hi code _).mono ?_); rintro e w3 ⟨rfl, hb⟩; have HB3 := Aside0.mk (below_on (below_alloc HBl.out _) hb); rw [hok, show ofR 6 n lo hi code = .iface 105 (.agg #[.int .i64 lo, .int .i64 hi, .int .i64 n]) from rfl]; clear hb) | ((with_reducible refine gate_dst (N := 31) rfl ?_); refine invL_ (some 31) rfl rfl (.tmp 30) 105 (.agg #[.int .i64 lo, .int .i64 hi, .int .i64 n]) (.agg #[.int .i64 lo, .int .i64 hi, .int .i64 n]) (by rfl) (by rfl) (meth105 _) Tryz.func172 (by kernel_rfl) rfl ?_; (with_reducible refine (set_check.run lo hi n _).mono ?_); rintro e w4 ⟨rfl, hb⟩; refine ⟨_, rfl, ?_⟩; replace HB3 := Aside0.mk (below_on HB3.out hb); rw [CV.out]; clear hb))
        go_ret
        refine ⟨?_, HB3.out⟩
        obtain ⟨e0, e1, e2⟩ := E.out
        rw [show blueV len rs = cv by unfold blueV; rw [D.out.1, if_pos rfl, if_neg (Nat.not_lt.2 D.out.2), rulesV_at rs i.toNat (by omega) HN.out (by rw [HV.out.2]; exact Z.out), HV.out.2]]
        rfl
       ·
        have CV := Aside0.mk (show (if inR n 1 9999999 then 0 else 3) = cv from HV.out.1)
        go_wp2_with (first | (go_at_call 44; (with_reducible refine (blueprint_of.run 7 n lo hi code _).mono ?_); rintro e w3 ⟨rfl, hb⟩; have HB3 := Aside0.mk (below_on (below_alloc HBl.out _) hb); rw [hok, show ofR 7 n lo hi code = .iface 107 (.agg #[.int .i64 n, .bool true]) from rfl]; clear hb) | ((with_reducible refine gate_dst (N := 31) rfl ?_); refine invL_ (some 31) rfl rfl (.tmp 30) 107 (.agg #[.int .i64 n, .bool true]) (.agg #[.int .i64 n, .bool true]) (by rfl) (by rfl) (meth107 _) Tryz.func177 (by kernel_rfl) rfl ?_; (with_reducible refine (item_check.run n _ _).mono ?_); rintro e w4 ⟨rfl, hb⟩; refine ⟨_, rfl, ?_⟩; replace HB3 := Aside0.mk (below_on HB3.out hb); rw [CV.out]; clear hb))
        go_ret
        refine ⟨?_, HB3.out⟩
        obtain ⟨e0, e1, e2⟩ := E.out
        rw [show blueV len rs = cv by unfold blueV; rw [D.out.1, if_pos rfl, if_neg (Nat.not_lt.2 D.out.2), rulesV_at rs i.toNat (by omega) HN.out (by rw [HV.out.2]; exact Z.out), HV.out.2]]
        rfl
       ·
        have CV := Aside0.mk (show (if inR n 1 9999999 then 0 else 3) = cv from HV.out.1)
        go_wp2_with (first | (go_at_call 44; (with_reducible refine (blueprint_of.run 8 n lo hi code _).mono ?_); rintro e w3 ⟨rfl, hb⟩; have HB3 := Aside0.mk (below_on (below_alloc HBl.out _) hb); rw [hok, show ofR 8 n lo hi code = .iface 107 (.agg #[.int .i64 n, .bool false]) from rfl]; clear hb) | ((with_reducible refine gate_dst (N := 31) rfl ?_); refine invL_ (some 31) rfl rfl (.tmp 30) 107 (.agg #[.int .i64 n, .bool false]) (.agg #[.int .i64 n, .bool false]) (by rfl) (by rfl) (meth107 _) Tryz.func177 (by kernel_rfl) rfl ?_; (with_reducible refine (item_check.run n _ _).mono ?_); rintro e w4 ⟨rfl, hb⟩; refine ⟨_, rfl, ?_⟩; replace HB3 := Aside0.mk (below_on HB3.out hb); rw [CV.out]; clear hb))
        go_ret
        refine ⟨?_, HB3.out⟩
        obtain ⟨e0, e1, e2⟩ := E.out
        rw [show blueV len rs = cv by unfold blueV; rw [D.out.1, if_pos rfl, if_neg (Nat.not_lt.2 D.out.2), rulesV_at rs i.toNat (by omega) HN.out (by rw [HV.out.2]; exact Z.out), HV.out.2]]
        rfl
       ·
        have CV := Aside0.mk (show (0) = cv from HV.out.1)
        go_wp2_with (first | (go_at_call 44; (with_reducible refine (blueprint_of.run 9 n lo hi code _).mono ?_); rintro e w3 ⟨rfl, hb⟩; have HB3 := Aside0.mk (below_on (below_alloc HBl.out _) hb); rw [hok, show ofR 9 n lo hi code = .iface 109 (.agg #[]) from rfl]; clear hb) | ((with_reducible refine gate_dst (N := 31) rfl ?_); refine invL_ (some 31) rfl rfl (.tmp 30) 109 (.agg #[]) (.agg #[]) (by rfl) (by rfl) (meth109 _) Tryz.func182 (by kernel_rfl) rfl ?_; (with_reducible refine (family_check.run _).mono ?_); rintro e w4 ⟨rfl, hb⟩; refine ⟨_, rfl, ?_⟩; replace HB3 := Aside0.mk (below_on HB3.out hb); rw [CV.out]; clear hb))
        go_ret
        refine ⟨?_, HB3.out⟩
        obtain ⟨e0, e1, e2⟩ := E.out
        rw [show blueV len rs = cv by unfold blueV; rw [D.out.1, if_pos rfl, if_neg (Nat.not_lt.2 D.out.2), rulesV_at rs i.toNat (by omega) HN.out (by rw [HV.out.2]; exact Z.out), HV.out.2]]
        rfl
    ·
     have d1 : decide (i < (rs.length : Int)) = false := decide_eq_false ci
     have HF := Aside0.mk (show ∀ j, j < rs.length → ruleV (rs.getD j noRule) = 0 from fun j hj => HN.out j (by omega))
     clear ci
     go_wp2
     go_ret
     refine ⟨?_, HBl.out⟩
     rw [show blueV len rs = 0 by unfold blueV; rw [D.out.1, if_pos rfl, if_neg (Nat.not_lt.2 D.out.2), rulesV_zero rs HF.out]]
     rfl
end Go.Proofs.YtnmfmiemkcaocaaGreat.Hand
namespace Go.Proofs.YtnmfmiemkcaocaaGreat.Hand
open Go.RowKit Go.Proofs.YtnmfmiemkcaocaaGreatW.PrintWords Go.Proofs.YtnmfmiemkcaocaaGreatW.PrintLast Go.Proofs.YtnmfmiemkcaocaaGreatW.PrintMore
set_option linter.unusedVariables false
set_option linter.unusedSimpArgs false
structure Pol where
 len : Int
 rs : List RuleT
 RA : Option Addr
 rc : Nat
 ps : List Int
 PA : Option Addr
 pc : Nat
 qs : List Int
 QA : Option Addr
 qc : Nat
 en : Nat
 EA : Option Addr
 ec : Nat
 mn : Int
 vs : Bool
 vA : Option Addr
 vk : Nat
 vc : Nat
 vB : Option Addr
 vl : Nat
 vd : Nat
 vx : Nat
 vy : Nat
 cut : Int
 ls : Bool
 lA : Option Addr
 lk : Nat
 lc : Nat
 lB : Option Addr
 ll : Nat
 ld : Nat
 lx : Nat
 ly : Nat
 top : Int
 ts : Bool
 tA : Option Addr
 tk : Nat
 tc : Nat
 tB : Option Addr
 tl : Nat
 td : Nat
 tx : Nat
 ty : Nat
 slack : Int
structure PolOK (w : World) (p : Pol) (L : Nat) : Prop where
 rs : Kd.C k74 w p.RA p.rs.length p.rs
 rsz : ∀ x ∈ p.rs, x.2.2.2.2.size ≤ reachBytes
 ps : Kd.C (Kd.int .i64) w p.PA p.ps.length p.ps
 psc : p.ps.length ≤ p.pc
 psl : p.ps.length ≤ 100000000
 qs : Kd.C (Kd.int .i64) w p.QA p.qs.length p.qs
 vn : NA w (.slice p.vA p.vk p.vc) p.vx L
 vd : NA w (.slice p.vB p.vl p.vd) p.vy L
 ln : NA w (.slice p.lA p.lk p.lc) p.lx L
 ld : NA w (.slice p.lB p.ll p.ld) p.ly L
 tn : NA w (.slice p.tA p.tk p.tc) p.tx L
 td : NA w (.slice p.tB p.tl p.td) p.ty L
 lim : L ≤ 1100000
theorem PolOK.below {w W : World} {p : Pol} {L : Nat} (h : PolOK w p L) (hb : Below w.heap.size w W) : PolOK W p L :=
 ⟨Kd.C_below h.rs hb, h.rsz, Kd.C_below h.ps hb, h.psc, h.psl, Kd.C_below h.qs hb, h.vn.below hb, h.vd.below hb, h.ln.below hb, h.ld.below hb, h.tn.below hb, h.td.below hb, h.lim⟩
def aboveB (X Y N M : Int) : Bool := decide (N * Y < X * M) && decide (X ≤ Y)
def halfB (X Y : Int) : Bool := decide (Y < 2 * X) && decide (X ≤ Y)
def unitB (X Y : Int) : Bool := decide (0 < X) && decide (X ≤ Y)
theorem half_above {X Y n m : Int} (h : n * 2 = 1 * m) (hm : 0 < m) : aboveB X Y n m = halfB X Y := by
 unfold aboveB halfB
 congr 1
 refine decide_eq_decide.2 ?_
 have := half_cmp (x := X) (y := Y) h hm
 omega
theorem zero_above {X Y n m : Int} (h : n * 1 = 0 * m) (hm : 0 < m) (hy : 0 < Y) : aboveB X Y n m = unitB X Y := by
 unfold aboveB unitB
 congr 1
 refine decide_eq_decide.2 ?_
 have hn : n = 0 := by omega
 subst hn
 rw [Int.zero_mul]
 constructor
 ·
  intro h1
  rcases Int.lt_or_le 0 X with c | c
  ·
   exact c
  ·
   have := Int.mul_le_mul_of_nonneg_right c (Int.le_of_lt hm)
   rw [Int.zero_mul] at this
   omega
 ·
  intro h1
  exact Int.mul_pos h1 hm
def validV (p : Pol) : Int :=
 if blueV p.len p.rs ≠ 0 then blueV p.len p.rs
 else if gridV p.ps p.qs ≠ 0 then gridV p.ps p.qs
 else if 400 < p.en then 5
 else if !(inR p.mn 0 p.len) || decide (pn p.vs p.vx p.vy < 0) || !(inR p.cut 0 ((p.ps.length : Int) - 1)) then 3
 else if (!(p.cut == 0) && !(halfB (pn p.ls p.lx p.ly) (pd p.ly))) || !(inR p.top 1 5) || !(unitB (pn p.ts p.tx p.ty) (pd p.ty)) || !(inR p.slack 0 1000000) then 3
 else 0
theorem st_within.run (x lo hi : Int) (w : World) : Calls Tryz.prog 24 #[.int .i64 x, .int .i64 lo, .int .i64 hi] w fun e w' => e = .returned (.bool (inR x lo hi)) ∧ w' = w := by
 by_cases c1 : lo ≤ x
 ·
  have k1 : decide (lo ≤ x) = true := decide_eq_true c1
  go_enter Tryz.func24, Tryz.ntmps24
  go_wp2
  go_ret
  refine ⟨?_, rfl⟩
  simp [inR, c1]
 ·
  have k1 : decide (lo ≤ x) = false := decide_eq_false c1
  have K := Aside0.mk k1
  clear c1
  go_enter Tryz.func24, Tryz.ntmps24
  go_wp2
  go_ret
  refine ⟨?_, rfl⟩
  simp [inR, K.out]
theorem stopping_above.run (s t : Bool) (A B D E : Option Addr) (k c l d m1 m2 p1 p2 a b x y L1 L2 L3 L4 : Nat) (w : World) (hv : NA w (.slice A k c) a L1) (hu : NA w (.slice B l d) b L2) (hx : NA w (.slice D m1 m2) x L3) (hy : NA w (.slice E p1 p2) y L4) (hL : L1 + L2 + L3 + L4 ≤ 30000000) :
  Calls Tryz.prog 25 #[.agg #[.bool s, .slice A k c, .slice B l d], .agg #[.bool t, .slice D m1 m2, .slice E p1 p2]] w fun e w' => e = .returned (.bool (aboveB (pn s a b) (pd b) (pn t x y) (pd y))) ∧ Below w.heap.size w w' := by
 have H91 := Aside0.mk hv
 have H92 := Aside0.mk hu
 have H93 := Aside0.mk hx
 have H94 := Aside0.mk hy
 have HL := Aside0.mk hL
 have HB := Aside0.mk (Below.refl w.heap.size w)
 clear hv hu hx hy hL
 have DD := Aside0.mk (show True from trivial)
 by_cases c1 : pn t x y * (pd b : Int) < pn s a b * (pd y : Int)
 ·
  have k1 : decide (0 < cmpZ (pn s a b * pd y) (pn t x y * pd b)) = true := decide_eq_true (cmpZ_pos.2 c1)
  have D1x := Aside0.mk c1
  clear c1
  go_enter Tryz.func25, Tryz.ntmps25
  go_wp2_with (first | (go_at_call 19; (with_reducible refine (ratio_Cmp.run s s3 _ _ _ _ _ _ _ _ _ _ _ _ a b n3 m3 L1 L2 4 4 _ (H91.1.be HB.1) (H92.1.be HB.1) H4.1.na H5.1.na (by have := HL.out; omega)).mono ?_); rintro e w9 ⟨rfl, hb⟩; replace H4 := As (H4.1.be hb); replace H5 := As (H5.1.be hb); replace B2 := Bb B2 hb; replace B3 := Bb B3 hb; replace B5 := Bb B5 hb; replace HB := Ob HB hb; have kc9 : decide ((cmpZ (pn s a b * pd m3) (pn s3 n3 m3 * pd b)) ≤ 0) = decide (pn s a b ≤ pd b) := (by have q := F3.out; refine decide_eq_decide.2 ?_; rw [cmpZ_nonpos, pn_of q.1, pd_of q.1]; have z := one_cmp (x := pn s a b) (y := pd b) q.2 (by have := q.1; omega); omega); clear hb) | (go_at_call 19; (with_reducible refine (ratio_Cmp.run s t _ _ _ _ _ _ _ _ _ _ _ _ a b x y L1 L2 L3 L4 _ (H91.1.be HB.1) (H92.1.be HB.1) (H93.1.be HB.1) (H94.1.be HB.1) (by have := HL.out; omega)).mono ?_); rintro e w8 ⟨rfl, hb⟩; replace H4 := As (H4.1.be hb); replace H5 := As (H5.1.be hb); replace B2 := Bb B2 hb; replace B3 := Bb B3 hb; replace B5 := Bb B5 hb; replace HB := Ob HB hb; clear hb; (try clear cb2_0); have cb2_0 := Cl0 B2; (try clear cb2_1); have cb2_1 := Cl1 B2; (try clear cb2_2); have cb2_2 := Cl2 B2; (try clear cb5_0); have cb5_0 := Cl0 B5; (try clear cb5_1); have cb5_1 := Cl1 B5; (try clear cb5_2); have cb5_2 := Cl2 B5) | ((with_reducible refine gate_store (t := 34) (p := 5) rfl ?_); refine Sto (t := 34) (p := 5) (by rfl) (.tmp 9) (by rfl) (by rfl) g5 #[.bool s3, .slice A3 k3 c3, .slice D3 l3 d3] (by rfl) (by first | rfl | (go_simp; done) | (go_simp; rfl)) B5 (by kernel_rfl) rfl (by kernel_rfl) ?_; intro w7 ho hB2; replace H4 := As (H4.1.o3 ho B5); replace H5 := As (H5.1.o3 ho B5); replace B2 := Oo B2 ho NE2_5; replace B3 := Oo B3 ho NE3_5; replace HB := Lo HB ho G5; replace B5 := hB2; clear ho hB2; (try clear cb2_0); have cb2_0 := Cl0 B2; (try clear cb2_1); have cb2_1 := Cl1 B2; (try clear cb2_2); have cb2_2 := Cl2 B2; (try clear cb3_0); have cb3_0 := Cl0 B3; (try clear cb3_1); have cb3_1 := Cl1 B3; (try clear cb3_2); have cb3_2 := Cl2 B3) | ((with_reducible refine gate_dst (N := 5) rfl ?_); refine box_event (by rfl) (N := 5) (by rfl) (cs := #[.bool false, .slice none 0 0, .slice none 0 0]) (t := 34) ?hr ?_; (case hr => first | (go_simp; done) | (go_simp; rfl)); intro g5 hgx w6 hbx hb; have B5 := As hbx; have NE2_5 := Nn B2 hgx; have NE3_5 := Nn B3 hgx; have G5 := Gg HB hgx; replace H4 := As (H4.1.be hb); replace H5 := As (H5.1.be hb); replace B2 := Bb B2 hb; replace B3 := Bb B3 hb; replace HB := Ob HB hb; clear hbx hb hgx) | (go_at_call 23; (with_reducible refine (ratio_Of.run (1) (1) _ (by decide) (by decide) (by decide) (by decide)).mono ?_); rintro e w3 ⟨s3, A3, k3, c3, D3, l3, d3, n3, m3, rfl, hq3, hr3, hm3, hz3, hb⟩; have H4 := Aside0.mk hq3; have H5 := Aside0.mk hr3; have F3 := Aside0.mk (And.intro hm3 hz3); clear hq3 hr3 hm3 hz3; replace B2 := Bb B2 hb; replace B3 := Bb B3 hb; replace HB := Ob HB hb; clear hb) | ((with_reducible refine gate_dst (N := 3) rfl ?_); refine box_event (by rfl) (N := 3) (by rfl) (cs := #[.bool t, .slice D m1 m2, .slice E p1 p2]) (t := 34) ?hr ?_; (case hr => first | (go_simp; done) | (go_simp; rfl)); intro g3 hgx w2 hbx hb; have B3 := As hbx; have NE2_3 := Nn B2 hgx; have G3 := Gg HB hgx; replace B2 := Bb B2 hb; replace HB := Ob HB hb; clear hbx hb hgx) | ((with_reducible refine gate_dst (N := 2) rfl ?_); refine box_event (by rfl) (N := 2) (by rfl) (cs := #[.bool s, .slice A k c, .slice B l d]) (t := 34) ?hr ?_; (case hr => first | (go_simp; done) | (go_simp; rfl)); intro g2 hgx w1 hbx hb; have B2 := As hbx; have G2 := Gg HB hgx; replace HB := Ob HB hb; clear hbx hb hgx))
  go_ret
  refine ⟨?_, HB.out⟩
  rw [show aboveB (pn s a b) (pd b) (pn t x y) (pd y) = decide (pn s a b ≤ pd b) by unfold aboveB; rw [decide_eq_true D1x.out, Bool.true_and]]
  rfl
 ·
  have k1 : decide (0 < cmpZ (pn s a b * pd y) (pn t x y * pd b)) = false := decide_eq_false (fun h => c1 (cmpZ_pos.1 h))
  have D1x := Aside0.mk (Int.not_lt.1 c1)
  clear c1
  go_enter Tryz.func25, Tryz.ntmps25
  go_wp2_with (first | (go_at_call 19; (with_reducible refine (ratio_Cmp.run s t _ _ _ _ _ _ _ _ _ _ _ _ a b x y L1 L2 L3 L4 _ (H91.1.be HB.1) (H92.1.be HB.1) (H93.1.be HB.1) (H94.1.be HB.1) (by have := HL.out; omega)).mono ?_); rintro e w8 ⟨rfl, hb⟩; replace H4 := As (H4.1.be hb); replace H5 := As (H5.1.be hb); replace B2 := Bb B2 hb; replace B3 := Bb B3 hb; replace B5 := Bb B5 hb; replace HB := Ob HB hb; clear hb) | ((with_reducible refine gate_store (t := 34) (p := 5) rfl ?_); refine Sto (t := 34) (p := 5) (by rfl) (.tmp 9) (by rfl) (by rfl) g5 #[.bool s3, .slice A3 k3 c3, .slice D3 l3 d3] (by rfl) (by first | rfl | (go_simp; done) | (go_simp; rfl)) B5 (by kernel_rfl) rfl (by kernel_rfl) ?_; intro w7 ho hB2; replace H4 := As (H4.1.o3 ho B5); replace H5 := As (H5.1.o3 ho B5); replace B2 := Oo B2 ho NE2_5; replace B3 := Oo B3 ho NE3_5; replace HB := Lo HB ho G5; replace B5 := hB2; clear ho hB2; (try clear cb2_0); have cb2_0 := Cl0 B2; (try clear cb2_1); have cb2_1 := Cl1 B2; (try clear cb2_2); have cb2_2 := Cl2 B2; (try clear cb3_0); have cb3_0 := Cl0 B3; (try clear cb3_1); have cb3_1 := Cl1 B3; (try clear cb3_2); have cb3_2 := Cl2 B3) | ((with_reducible refine gate_dst (N := 5) rfl ?_); refine box_event (by rfl) (N := 5) (by rfl) (cs := #[.bool false, .slice none 0 0, .slice none 0 0]) (t := 34) ?hr ?_; (case hr => first | (go_simp; done) | (go_simp; rfl)); intro g5 hgx w6 hbx hb; have B5 := As hbx; have NE2_5 := Nn B2 hgx; have NE3_5 := Nn B3 hgx; have G5 := Gg HB hgx; replace H4 := As (H4.1.be hb); replace H5 := As (H5.1.be hb); replace B2 := Bb B2 hb; replace B3 := Bb B3 hb; replace HB := Ob HB hb; clear hbx hb hgx) | (go_at_call 23; (with_reducible refine (ratio_Of.run (1) (1) _ (by decide) (by decide) (by decide) (by decide)).mono ?_); rintro e w3 ⟨s3, A3, k3, c3, D3, l3, d3, n3, m3, rfl, hq3, hr3, hm3, hz3, hb⟩; have H4 := Aside0.mk hq3; have H5 := Aside0.mk hr3; have F3 := Aside0.mk (And.intro hm3 hz3); clear hq3 hr3 hm3 hz3; replace B2 := Bb B2 hb; replace B3 := Bb B3 hb; replace HB := Ob HB hb; clear hb) | ((with_reducible refine gate_dst (N := 3) rfl ?_); refine box_event (by rfl) (N := 3) (by rfl) (cs := #[.bool t, .slice D m1 m2, .slice E p1 p2]) (t := 34) ?hr ?_; (case hr => first | (go_simp; done) | (go_simp; rfl)); intro g3 hgx w2 hbx hb; have B3 := As hbx; have NE2_3 := Nn B2 hgx; have G3 := Gg HB hgx; replace B2 := Bb B2 hb; replace HB := Ob HB hb; clear hbx hb hgx) | ((with_reducible refine gate_dst (N := 2) rfl ?_); refine box_event (by rfl) (N := 2) (by rfl) (cs := #[.bool s, .slice A k c, .slice B l d]) (t := 34) ?hr ?_; (case hr => first | (go_simp; done) | (go_simp; rfl)); intro g2 hgx w1 hbx hb; have B2 := As hbx; have G2 := Gg HB hgx; replace HB := Ob HB hb; clear hbx hb hgx))
  go_ret
  refine ⟨?_, HB.out⟩
  rw [show aboveB (pn s a b) (pd b) (pn t x y) (pd y) = false by unfold aboveB; rw [decide_eq_false (Int.not_lt.2 D1x.out), Bool.false_and]]
  rfl
end Go.Proofs.YtnmfmiemkcaocaaGreat.Hand
