-- Written by a program of this session.
import Derived.Test.YtkkdabdceooakaaQIdentx0
namespace Go.Proofs.Ytkkdabdceooakaa.QIdent
open Go.RowKit Go.Proofs.YtkkdabdceooakaaW.PrintWords Go.Proofs.YtkkdabdceooakaaW.PrintLast Go.Proofs.YtkkdabdceooakaaW.PrintMore
attribute [local go_sem] max2_int min2_int max_two min_two max_three min_three max_four min_four   -- for this text's walks alone
set_option linter.unusedVariables false
set_option linter.unusedSimpArgs false

/-! ### ident_check: function 17 -/
def ident_check.f (a0 : Int) (a1 : Int) : Option (Int) := some (wrap64 (98 - (Int.tmod (wrap64 ((wrap64 ((wrap64 (a0 * 10000000)) + a1)) * 100)) 97)))
set_option maxHeartbeats 8000000 in
set_option maxRecDepth 100000 in
theorem ident_check.calls (a0 : Int) (a1 : Int) (r : Int) (w : World) (h : ident_check.f a0 a1 = some r) :
    Calls Try.prog 17 #[.int .i64 a0, .int .i64 a1] w fun e w' => e = .returned (.int .i64 r) ∧ Drawn0 w w' := by
  have H : (some (wrap64 (98 - (Int.tmod (wrap64 ((wrap64 ((wrap64 (a0 * 10000000)) + a1)) * 100)) 97)))) = some r := h
  clear h
  obtain rfl := Option.some.inj H
  go_enter Try.func17, Try.ntmps17
  go_wp2
  go_ret
  exact ⟨by first | rfl | (simp; done) | (simp [*]; done), by repeat (first | exact Drawn0.refl _ | apply Drawn0.step)⟩

/-! ### ident_Check: function 10 -/
def ident_Check.j0 : Nat → Int → Int → Bool → Option (Int × Int)
  | 0, _, _, _ => none
  | k + 1, x0, x1, x11 => if x11 = true then (some (0, 1)) else (if x1 < 1 then (some (0, 3)) else (if x1 > 9999999 then (some (0, 3)) else ((ident_check.f x0 x1).bind fun t101 => (some (t101, 0)))))
def ident_Check.f (k : Nat) (a0 : Int) (a1 : Int) : Option (Int × Int) := if a0 < 1 then (ident_Check.j0 k a0 a1 true) else (ident_Check.j0 k a0 a1 (decide (a0 > 6)))
theorem ident_Check.mono_l : ∀ k, (∀ y0 y1 y2, LeO (ident_Check.j0 k y0 y1 y2) (ident_Check.j0 (k + 1) y0 y1 y2))
  | 0 => fun _ _ _ r h => by simp [ident_Check.j0] at h
  | k + 1 => by
    have ih0 := ident_Check.mono_l k
    · intro y0 y1 y2
      unfold ident_Check.j0
      repeat' first
      | (with_reducible exact ih0 _ _ _)
      | (with_reducible exact LeO.refl _)
      | (with_reducible exact LeO.none _)
      | (with_reducible refine LeO.ite ?_ ?_)
      | (with_reducible refine LeO.bind ?_ (fun _ => ?_))
      | exact ih0 _ _ _
      | exact LeO.none _
      | refine LeO.ite ?_ ?_
      | refine LeO.bind ?_ (fun _ => ?_)
theorem ident_Check.mono : ∀ a0 a1 k, LeO (ident_Check.f k a0 a1) (ident_Check.f (k + 1) a0 a1) := by
  intro a0 a1 k
  have ih0 := ident_Check.mono_l k
  unfold ident_Check.f
  repeat' first
      | (with_reducible exact ih0 _ _ _)
      | (with_reducible exact LeO.refl _)
      | (with_reducible exact LeO.none _)
      | (with_reducible refine LeO.ite ?_ ?_)
      | (with_reducible refine LeO.bind ?_ (fun _ => ?_))
      | exact ih0 _ _ _
      | exact LeO.none _
      | refine LeO.ite ?_ ?_
      | refine LeO.bind ?_ (fun _ => ?_)
set_option maxHeartbeats 8000000 in
set_option maxRecDepth 100000 in
theorem ident_Check.calls (k : Nat) (a0 : Int) (a1 : Int) (r1 : Int) (r2 : Int) (w : World) (h : ident_Check.f k a0 a1 = some (r1, r2)) :
    Calls Try.prog 10 #[.int .i64 a0, .int .i64 a1] w fun e w' => e = .returned (.tuple #[.int .i64 r1, .int .i64 r2]) ∧ Drawn0 w w' := by
  have H : (if a0 < 1 then (ident_Check.j0 k a0 a1 true) else (ident_Check.j0 k a0 a1 (decide (a0 > 6)))) = some (r1, r2) := h
  clear h
  have HC3 := Aside0.mk H
  clear H
  go_enter Try.func10, Try.ntmps10
  go_upto_region 1 with (fail)
  go_cut [11] (fun v11 wc => ∃ (kq : Nat) (x11_2 : Bool), v11 = .bool x11_2 ∧ Aside0 (ident_Check.j0 kq a0 a1 x11_2 = some (r1, r2)) ∧ Aside0 (kq ≤ k) ∧ Drawn0 w wc)
  case first =>
    have H := HC3.out
    clear HC3
    by_cases c4 : a0 < 1
    · rw [if_pos c4] at H
      have c4b0 : decide (a0 < 1) = true := decide_eq_true c4
      clear c4
      (first | rw [c4b0] | (simp only [i64_w, i32_w]; rw [c4b0]) | skip)
      have H' := Aside0.mk H
      clear H
      go_wp2
      go_meet
      case rel => exact ⟨_, (true), (by first | rfl | (simp; done) | (simp [*]; done)), H', ⟨by first | omega | exact Nat.le_refl _⟩, by repeat (first | exact Drawn0.refl _ | apply Drawn0.step)⟩
    · rw [if_neg c4] at H
      have c4b0 : decide (a0 < 1) = false := decide_eq_false c4
      clear c4
      (first | rw [c4b0] | (simp only [i64_w, i32_w]; rw [c4b0]) | skip)
      have H' := Aside0.mk H
      clear H
      go_wp2
      go_meet
      case rel => exact ⟨_, (decide (a0 > 6)), (by first | rfl | (simp; done) | (simp [*]; done)), H', ⟨by first | omega | exact Nat.le_refl _⟩, by repeat (first | exact Drawn0.refl _ | apply Drawn0.step)⟩
  case rest =>
    clear HC3
    try clear c1
    try clear p2
    try clear c4
    try clear c4b0
    obtain ⟨kq, x11_2, rfl, HA, HJ2, ⟨mc2, rfl⟩⟩ := hcut
    cases kq with
    | zero => exact absurd HA.out (by simp [ident_Check.j0])
    | succ kj2 =>
      have H := HA.out
      clear HA
      simp only [ident_Check.j0] at H
      by_cases c5 : x11_2 = true
      · subst c5
        have H1 : (some (0, 1)) = some (r1, r2) := by rw [if_pos rfl] at H; exact H
        clear H
        have H := H1
        clear H1
        simp only [Option.some.injEq, Prod.mk.injEq] at H
        obtain ⟨rfl, rfl⟩ := H
        go_wp2
        go_ret2
        exact ⟨by first | rfl | (simp; done) | (simp [*]; done), by repeat (first | exact Drawn0.refl _ | apply Drawn0.step)⟩
      · replace c5 := Bool.eq_false_iff.mpr c5
        subst c5
        have H1 : (if a1 < 1 then (some (0, 3)) else (if a1 > 9999999 then (some (0, 3)) else ((ident_check.f a0 a1).bind fun t101 => (some (t101, 0))))) = some (r1, r2) := by rw [if_neg (show ¬ (false = true) by decide)] at H; exact H
        clear H
        have H := H1
        clear H1
        by_cases c6 : a1 < 1
        · rw [if_pos c6] at H
          have c6b0 : decide (a1 < 1) = true := decide_eq_true c6
          clear c6
          simp only [Option.some.injEq, Prod.mk.injEq] at H
          obtain ⟨rfl, rfl⟩ := H
          go_wp2
          go_ret2
          exact ⟨by first | rfl | (simp; done) | (simp [*]; done), by repeat (first | exact Drawn0.refl _ | apply Drawn0.step)⟩
        · rw [if_neg c6] at H
          have c6b0 : decide (a1 < 1) = false := decide_eq_false c6
          clear c6
          by_cases c7 : a1 > 9999999
          · rw [if_pos c7] at H
            have c7b0 : decide (9999999 < a1) = true := decide_eq_true c7
            clear c7
            simp only [Option.some.injEq, Prod.mk.injEq] at H
            obtain ⟨rfl, rfl⟩ := H
            go_wp2
            go_ret2
            exact ⟨by first | rfl | (simp; done) | (simp [*]; done), by repeat (first | exact Drawn0.refl _ | apply Drawn0.step)⟩
          · rw [if_neg c7] at H
            have c7b0 : decide (9999999 < a1) = false := decide_eq_false c7
            clear c7
            replace H := Option.bind_eq_some_iff.mp H
            obtain ⟨t101, A80, H⟩ := H
            replace H : (some (t101, 0)) = some (r1, r2) := H
            have A8 := Aside0.mk A80
            clear A80
            simp only [Option.some.injEq, Prod.mk.injEq] at H
            obtain ⟨rfl, rfl⟩ := H
            go_wp2_with (first | ((with_reducible refine gate_callee (f := 17) rfl ?_); refine goesL_ (some 20) rfl rfl Try.func17 (by kernel_rfl) rfl #[.int .i64 a0, .int .i64 a1] rfl (by (try simp only [List.map_toArray, List.map_cons, List.map_nil]); first | done | rfl | (simp only [List.length_drop, List.length_take]; rfl)) ?_; (with_reducible refine (ident_check.calls a0 a1 t101 _ A8.out).mono ?_); rintro e w' ⟨rfl, ⟨nd, rfl⟩⟩; refine ⟨_, rfl, ?_⟩))
            go_ret2
            exact ⟨by first | rfl | (simp; done) | (simp [*]; done), by repeat (first | exact Drawn0.refl _ | apply Drawn0.step)⟩

/-! ### ident_digits: function 18 -/
def ident_digits.l0 : Nat → List Int → Int → Int → Option (ByteArray)
  | 0, _, _, _ => none
  | k + 1, x5, x6, x7 => if x7 ≥ 0 then (if 0 ≤ x7 then (if x7 < (x5.length : Int) then (ident_digits.l0 k (x5.set (x7 : Int).toNat ((wrap64 (48 + (Int.tmod x6 10))) % 256)) (wrap64 (Int.tdiv x6 10)) (wrap64 (x7 - 1))) else (none)) else (none)) else (some (strOfNums x5))
def ident_digits.f (k : Nat) (a0 : Int) (a1 : Int) : Option (ByteArray) := if 0 ≤ a1 then (if (a1 : Int).toNat ≤ 281474976710656 then (ident_digits.l0 k (List.replicate (a1 : Int).toNat 0) a0 (wrap64 (a1 - 1))) else (none)) else (none)
theorem ident_digits.mono_l : ∀ k, (∀ y0 y1 y2, LeO (ident_digits.l0 k y0 y1 y2) (ident_digits.l0 (k + 1) y0 y1 y2))
  | 0 => fun _ _ _ r h => by simp [ident_digits.l0] at h
  | k + 1 => by
    have ih0 := ident_digits.mono_l k
    · intro y0 y1 y2
      unfold ident_digits.l0
      repeat' first
      | (with_reducible exact ih0 _ _ _)
      | (with_reducible exact LeO.refl _)
      | (with_reducible exact LeO.none _)
      | (with_reducible refine LeO.ite ?_ ?_)
      | (with_reducible refine LeO.bind ?_ (fun _ => ?_))
      | exact ih0 _ _ _
      | exact LeO.none _
      | refine LeO.ite ?_ ?_
      | refine LeO.bind ?_ (fun _ => ?_)
theorem ident_digits.mono : ∀ a0 a1 k, LeO (ident_digits.f k a0 a1) (ident_digits.f (k + 1) a0 a1) := by
  intro a0 a1 k
  have ih0 := ident_digits.mono_l k
  unfold ident_digits.f
  repeat' first
      | (with_reducible exact ih0 _ _ _)
      | (with_reducible exact LeO.refl _)
      | (with_reducible exact LeO.none _)
      | (with_reducible refine LeO.ite ?_ ?_)
      | (with_reducible refine LeO.bind ?_ (fun _ => ?_))
      | exact ih0 _ _ _
      | exact LeO.none _
      | refine LeO.ite ?_ ?_
      | refine LeO.bind ?_ (fun _ => ?_)
set_option maxHeartbeats 8000000 in
set_option maxRecDepth 100000 in
theorem ident_digits.calls (k : Nat) (a0 : Int) (a1 : Int) (r : ByteArray) (w : World) (h : ident_digits.f k a0 a1 = some r) :
    Calls Try.prog 18 #[.int .i64 a0, .int .i64 a1] w fun e w' => e = .returned (.string r) ∧ Below w.heap.size w w' := by
  have HB := Aside0.mk (Below.refl w.heap.size w)
  have H : (if 0 ≤ a1 then (if (a1 : Int).toNat ≤ 281474976710656 then (ident_digits.l0 k (List.replicate (a1 : Int).toNat 0) a0 (wrap64 (a1 - 1))) else (none)) else (none)) = some r := h
  clear h
  by_cases c3 : 0 ≤ a1
  · rw [if_pos c3] at H
    have c3b0 := eq_true c3
    have c3b1 : decide (0 ≤ a1) = true := decide_eq_true c3
    clear c3
    by_cases c4 : (a1 : Int).toNat ≤ 281474976710656
    · rw [if_pos c4] at H
      have c4b0 := eq_true c4
      have c4b1 : decide ((a1 : Int).toNat ≤ 281474976710656) = true := decide_eq_true c4
      clear c4
      obtain ⟨y102, hy102⟩ : ∃ y_ : List Int, y_ = (List.replicate (a1 : Int).toNat 0) := ⟨_, rfl⟩
      replace H : (ident_digits.l0 k y102 a0 (wrap64 (a1 - 1))) = some r := by first | (rw [hy102]; with_reducible exact H) | (have H2_ := (Option.bind_some _ _).symm.trans H; rw [hy102]; with_reducible exact H2_) | (have H2_ := (Option.bind_some _ _).symm.trans H; with_reducible exact H2_) | with_reducible exact H | (rw [hy102]; exact H) | exact H
      have Ny102 := Aside0.mk hy102
      clear hy102
      have H' := Aside0.mk H
      clear H
      go_enter Try.func18, Try.ntmps18
      go_wp2_with (first | ((with_reducible refine gate_dst (N := 9) rfl ?_); refine Kd.R_make (Kd.int .u8) _ 5 rfl (N := 9) rfl 31 _ _ rfl a1 rfl rfl Try.underlying31 (.int .u8 0) 1 info5 rfl (by decide) (by omega) 0 (ok := fun _ => True) (okp := fun _ => True) rfl (fun _ hk => hk) trivial (of_decide_eq_true (by first | (with_reducible assumption) | assumption)) (Nat.le_trans (Nat.mul_le_mul_right _ (of_decide_eq_true (by first | (with_reducible assumption) | assumption) : a1.toNat ≤ 281474976710656)) (by omega)) (Below.refl _ _) (Nat.le_refl _) ?_; intro v103 w5 ho6 hb hg_ hnew_; clear hg_ hnew_; (first | rw [← Ny102.out] at ho6 | (simp only [Int.reduceToNat] at ho6; rw [← Ny102.out] at ho6)); have n0_ := Aside0.mk (Kd.R_lower ho6 (below_size (by repeat (first | (with_reducible first | exact HB.out | apply below_alloc | apply pw_below_drewN | apply below_drew1) | exact HB.out)))); have n1_ := Aside0.mk (below_step (by repeat (first | (with_reducible first | exact HB.out | apply below_alloc | apply pw_below_drewN | apply below_drew1) | exact HB.out)) hb); clear HB; have HO104 := n0_; have HB := n1_; clear n0_ n1_; clear hb ho6))
      go_loopg [6, 7] k (fun kq v6 v7 w' => ∃ (x5_1 : List Int) (x6_1 : Int) (x7_1 : Int), v6 = .int .i64 x6_1 ∧ v7 = .int .i64 x7_1 ∧ Aside0 (ident_digits.l0 kq x5_1 x6_1 x7_1 = some r) ∧ Aside0 (kq ≤ k) ∧ Aside0 (Kd.R (Kd.int .u8) 5 w' w.heap.size (fun _ => True) v103 x5_1) ∧ Aside0 (Below w.heap.size w w'))
      case atStart => exact ⟨(y102), (a0), (wrap64 (a1 - 1)), (by first | rfl | (simp; done) | (simp [*]; done)), (by first | rfl | (simp; done) | (simp [*]; done)), H', ⟨Nat.le_refl _⟩, ⟨by (with_reducible repeat (first | apply Kd.R_alloc | apply Kd.R_drewN | apply Kd.R_drew)); exact HO104.out⟩, ⟨by repeat (first | (with_reducible first | exact HB.out | apply below_alloc | apply pw_below_drewN | apply below_drew1) | exact HB.out)⟩⟩
      case round =>
        clear H'
        try clear c1
        try clear p2
        try clear c3
        try clear c3b0
        try clear c3b1
        try clear c4
        try clear c4b0
        try clear c4b1
        try clear p6
        obtain ⟨x5_1, x6_1, x7_1, rfl, rfl, HA, HK1, HO_5, HB⟩ := hrel
        cases gk with
        | zero => exact absurd HA.out (by simp [ident_digits.l0])
        | succ k1 =>
          have H := HA.out
          clear HA
          simp only [ident_digits.l0] at H
          by_cases c7 : x7_1 ≥ 0
          · rw [if_pos c7] at H
            have c7b0 : decide (0 ≤ x7_1) = true := decide_eq_true c7
            clear c7
            by_cases c8 : 0 ≤ x7_1
            · rw [if_pos c8] at H
              have c8b0 : decide (0 ≤ x7_1) = true := decide_eq_true c8
              clear c8
              by_cases c9 : x7_1 < (x5_1.length : Int)
              · rw [if_pos c9] at H
                have c9b0 : decide (x7_1 < (x5_1.length : Int)) = true := decide_eq_true c9
                clear c9
                obtain ⟨y105, hy105⟩ : ∃ y_ : List Int, y_ = (x5_1.set (x7_1 : Int).toNat ((wrap64 (48 + (Int.tmod x6_1 10))) % 256)) := ⟨_, rfl⟩
                replace H : (ident_digits.l0 k1 y105 (wrap64 (Int.tdiv x6_1 10)) (wrap64 (x7_1 - 1))) = some r := by first | (rw [hy105]; with_reducible exact H) | (have H2_ := (Option.bind_some _ _).symm.trans H; rw [hy105]; with_reducible exact H2_) | (have H2_ := (Option.bind_some _ _).symm.trans H; with_reducible exact H2_) | with_reducible exact H | (rw [hy105]; exact H) | exact H
                have Ny105 := Aside0.mk hy105
                clear hy105
                have H' := Aside0.mk H
                clear H
                have p10 : 0 ≤ (x7_1 : Int) := of_decide_eq_true (by first | (with_reducible assumption) | assumption)
                have q10 : (x7_1 : Int) < ((x5_1.length : Int) : Int) := of_decide_eq_true (by first | (with_reducible assumption) | assumption)
                obtain ⟨go10, co10, eo10, gb10, gl10, cl10, HG10⟩ := Kd.R_form HO_5.out (by omega)
                (first | cases eo10 | (injection eo10 with ea_ en_ ec_; (first | subst ea_ | (injection ea_ with ea_; subst ea_)); subst ec_; clear en_))
                have GB10 := Aside0.mk gb10
                have GG10 := Aside0.mk HG10
                clear gb10 gl10 HG10
                obtain ⟨hx10_0, hf10_0⟩ := Kd.R_celln 0 HO_5.out (x7_1 : Int) p10 q10
                replace p10 := eq_true p10
                replace q10 := eq_true q10
                have HP11 := Kd.R_putg HO_5.out (x7_1 : Int) ((wrap64 (48 + (Int.tmod x6_1 10))) % 256)
                go_wp2_with (first | ((with_reducible refine gate_store (t := 5) (p := 23) rfl ?_); refine store_event (t := 5) (p := 23) (v := ?vo_w12) (w1 := (wr.setCell ⟨go10, (x7_1 : Int).toNat, none⟩ (.int .u8 ((wrap64 (48 + (Int.tmod x6_1 10))) % 256)))) ?hg ?ho ?hn ?hr ?_; (case ho => rfl); (case hg => rfl); (case hn => rfl); (case hr => first | (go_simp; done) | (go_simp; rfl)); intro w12 hw; have hg : wr.grownBy w12 (some go10) := (by rw [hw]; exact HP11.2); have hp_ : Kd.R (Kd.int .u8) 5 w12 w.heap.size (fun _ => True) (.slice (some ⟨go10, 0, none⟩) x5_1.length co10) y105 := (by rw [hw, Ny105.out]; exact HP11.1); clear HP11; have n0_ := Aside0.mk (hp_); have n1_ := Aside0.mk ((by rw [hw]; exact below_set (HB.out) GB10.out : Below w.heap.size w w12)); clear HO_5; clear HB; have HO_5 := n0_; have HB := n1_; clear n0_ n1_; clear hg hw hp_))
                go_roundg k1
                case measure => have := HK1.out; omega
                case rel => exact ⟨(y105), (wrap64 (Int.tdiv x6_1 10)), (wrap64 (x7_1 - 1)), (by first | rfl | (simp; done) | (simp [*]; done)), (by first | rfl | (simp; done) | (simp [*]; done)), H', ⟨by have := HK1.out; omega⟩, ⟨by (with_reducible repeat (first | apply Kd.R_alloc | apply Kd.R_drewN | apply Kd.R_drew)); exact HO_5.out⟩, ⟨by repeat (first | (with_reducible first | exact HB.out | apply below_alloc | apply pw_below_drewN | apply below_drew1) | exact HB.out)⟩⟩
              · rw [if_neg c9] at H
                exact absurd H (by simp)
            · rw [if_neg c8] at H
              exact absurd H (by simp)
          · rw [if_neg c7] at H
            have c7b0 : decide (0 ≤ x7_1) = false := decide_eq_false c7
            clear c7
            obtain rfl := Option.some.inj H
            have hcv13 := own_string (P := Try.prog) Try.underlying31 Try.underlying5 Try.underlying9 (Kd.own_of_R HO_5.out)
            go_wp2
            go_ret
            exact ⟨by first | rfl | (simp [errW_none, errW_some] <;> rfl) | (simp [*, errW_none, errW_some] <;> rfl), by repeat (first | (with_reducible first | exact HB.out | apply below_alloc | apply pw_below_drewN | apply below_drew1) | exact HB.out)⟩
    · rw [if_neg c4] at H
      exact absurd H (by simp)
  · rw [if_neg c3] at H
    exact absurd H (by simp)

/-! ### ident_Print: function 11 -/
def ident_Print.f (k : Nat) (a0 : Int) (a1 : Int) : Option (ByteArray × Int) := (ident_Check.f k a0 a1).bind fun bt106 => (if bt106.2 = 0 then (if 0 ≤ (wrap64 ((wrap64 (3 * a0)) - 3)) then (if (wrap64 ((wrap64 (3 * a0)) - 3)) ≤ (wrap64 (3 * a0)) then (if (wrap64 (3 * a0)) ≤ 18 then (if ((⟨#[73, 84, 77, 70, 82, 77, 67, 65, 78, 83, 69, 83, 82, 65, 84, 65, 83, 84]⟩ : ByteArray).extract ((wrap64 ((wrap64 (3 * a0)) - 3)) : Int).toNat ((wrap64 (3 * a0)) : Int).toNat).size + 1 ≤ 9223372036854775807 then ((ident_digits.f k a1 7).bind fun t108 => (if (((⟨#[73, 84, 77, 70, 82, 77, 67, 65, 78, 83, 69, 83, 82, 65, 84, 65, 83, 84]⟩ : ByteArray).extract ((wrap64 ((wrap64 (3 * a0)) - 3)) : Int).toNat ((wrap64 (3 * a0)) : Int).toNat) ++ (⟨#[45]⟩ : ByteArray)).size + t108.size ≤ 9223372036854775807 then (if ((((⟨#[73, 84, 77, 70, 82, 77, 67, 65, 78, 83, 69, 83, 82, 65, 84, 65, 83, 84]⟩ : ByteArray).extract ((wrap64 ((wrap64 (3 * a0)) - 3)) : Int).toNat ((wrap64 (3 * a0)) : Int).toNat) ++ (⟨#[45]⟩ : ByteArray)) ++ t108).size + 1 ≤ 9223372036854775807 then ((ident_digits.f k bt106.1 2).bind fun t109 => (if (((((⟨#[73, 84, 77, 70, 82, 77, 67, 65, 78, 83, 69, 83, 82, 65, 84, 65, 83, 84]⟩ : ByteArray).extract ((wrap64 ((wrap64 (3 * a0)) - 3)) : Int).toNat ((wrap64 (3 * a0)) : Int).toNat) ++ (⟨#[45]⟩ : ByteArray)) ++ t108) ++ (⟨#[45]⟩ : ByteArray)).size + t109.size ≤ 9223372036854775807 then (some ((((((⟨#[73, 84, 77, 70, 82, 77, 67, 65, 78, 83, 69, 83, 82, 65, 84, 65, 83, 84]⟩ : ByteArray).extract ((wrap64 ((wrap64 (3 * a0)) - 3)) : Int).toNat ((wrap64 (3 * a0)) : Int).toNat) ++ (⟨#[45]⟩ : ByteArray)) ++ t108) ++ (⟨#[45]⟩ : ByteArray)) ++ t109, 0)) else (none))) else (none)) else (none))) else (none)) else (none)) else (none)) else (none)) else (some ((⟨#[]⟩ : ByteArray), bt106.2)))
theorem ident_Print.mono : ∀ a0 a1 k, LeO (ident_Print.f k a0 a1) (ident_Print.f (k + 1) a0 a1) := by
  intro a0 a1 k
  unfold ident_Print.f
  repeat' first
      | (with_reducible exact ident_Check.mono _ _ _)
      | (with_reducible exact ident_digits.mono _ _ _)
      | (with_reducible exact LeO.refl _)
      | (with_reducible exact LeO.none _)
      | (with_reducible refine LeO.ite ?_ ?_)
      | (with_reducible refine LeO.bind ?_ (fun _ => ?_))
      | exact ident_Check.mono _ _ _
      | exact ident_digits.mono _ _ _
      | exact LeO.none _
      | refine LeO.ite ?_ ?_
      | refine LeO.bind ?_ (fun _ => ?_)
def ident_Print.T4 : Bool × List (List Nat × List Nat) := (true, [([], []), ([0], [0]), ([1], [1]), ([], []), ([3], [3]), ([2, 4], [2, 4]), ([5], [5]), ([], []), ([7], [7]), ([6, 8], [6, 8]), ([9], [9]), ([], []), ([11, 8], [11]), ([10, 12], [10, 12]), ([13, 12, 0, 1, 2, 3, 4, 5, 6, 7, 8, 9, 10, 11, 12, 13], [13]), ([14, 0, 1, 2, 3, 4, 5, 6, 7, 8, 9, 10, 11, 12, 13, 14], [])])
def ident_Print.B4 : List Nat := [0, 1, 3, 0, 8, 31, 63, 0, 128, 511, 1023, 0, 2432, 8191, 16383, 32767]
theorem ident_Print.tab4 : rtab .any (opsOf Try.f11 4) = ident_Print.T4 := by kernel_rfl
theorem ident_Print.bits4 : waitsOk ident_Print.T4.2 ident_Print.B4 = true := by kernel_rfl
set_option maxHeartbeats 8000000 in
set_option maxRecDepth 100000 in
theorem ident_Print.calls (k : Nat) (a0 : Int) (a1 : Int) (r1 : ByteArray) (r2 : Int) (w : World) (h : ident_Print.f k a0 a1 = some (r1, r2)) :
    Calls Try.prog 11 #[.int .i64 a0, .int .i64 a1] w fun e w' => e = .returned (.tuple #[.string r1, .int .i64 r2]) ∧ Below w.heap.size w w' := by
  have HB := Aside0.mk (Below.refl w.heap.size w)
  have H : ((ident_Check.f k a0 a1).bind fun bt106 => (if bt106.2 = 0 then (if 0 ≤ (wrap64 ((wrap64 (3 * a0)) - 3)) then (if (wrap64 ((wrap64 (3 * a0)) - 3)) ≤ (wrap64 (3 * a0)) then (if (wrap64 (3 * a0)) ≤ 18 then (if ((⟨#[73, 84, 77, 70, 82, 77, 67, 65, 78, 83, 69, 83, 82, 65, 84, 65, 83, 84]⟩ : ByteArray).extract ((wrap64 ((wrap64 (3 * a0)) - 3)) : Int).toNat ((wrap64 (3 * a0)) : Int).toNat).size + 1 ≤ 9223372036854775807 then ((ident_digits.f k a1 7).bind fun t108 => (if (((⟨#[73, 84, 77, 70, 82, 77, 67, 65, 78, 83, 69, 83, 82, 65, 84, 65, 83, 84]⟩ : ByteArray).extract ((wrap64 ((wrap64 (3 * a0)) - 3)) : Int).toNat ((wrap64 (3 * a0)) : Int).toNat) ++ (⟨#[45]⟩ : ByteArray)).size + t108.size ≤ 9223372036854775807 then (if ((((⟨#[73, 84, 77, 70, 82, 77, 67, 65, 78, 83, 69, 83, 82, 65, 84, 65, 83, 84]⟩ : ByteArray).extract ((wrap64 ((wrap64 (3 * a0)) - 3)) : Int).toNat ((wrap64 (3 * a0)) : Int).toNat) ++ (⟨#[45]⟩ : ByteArray)) ++ t108).size + 1 ≤ 9223372036854775807 then ((ident_digits.f k bt106.1 2).bind fun t109 => (if (((((⟨#[73, 84, 77, 70, 82, 77, 67, 65, 78, 83, 69, 83, 82, 65, 84, 65, 83, 84]⟩ : ByteArray).extract ((wrap64 ((wrap64 (3 * a0)) - 3)) : Int).toNat ((wrap64 (3 * a0)) : Int).toNat) ++ (⟨#[45]⟩ : ByteArray)) ++ t108) ++ (⟨#[45]⟩ : ByteArray)).size + t109.size ≤ 9223372036854775807 then (some ((((((⟨#[73, 84, 77, 70, 82, 77, 67, 65, 78, 83, 69, 83, 82, 65, 84, 65, 83, 84]⟩ : ByteArray).extract ((wrap64 ((wrap64 (3 * a0)) - 3)) : Int).toNat ((wrap64 (3 * a0)) : Int).toNat) ++ (⟨#[45]⟩ : ByteArray)) ++ t108) ++ (⟨#[45]⟩ : ByteArray)) ++ t109, 0)) else (none))) else (none)) else (none))) else (none)) else (none)) else (none)) else (none)) else (some ((⟨#[]⟩ : ByteArray), bt106.2)))) = some (r1, r2) := h
  clear h
  replace H := Option.bind_eq_some_iff.mp H
  obtain ⟨⟨t106, t107⟩, A30, H⟩ := H
  replace H : (if t107 = 0 then (if 0 ≤ (wrap64 ((wrap64 (3 * a0)) - 3)) then (if (wrap64 ((wrap64 (3 * a0)) - 3)) ≤ (wrap64 (3 * a0)) then (if (wrap64 (3 * a0)) ≤ 18 then (if ((⟨#[73, 84, 77, 70, 82, 77, 67, 65, 78, 83, 69, 83, 82, 65, 84, 65, 83, 84]⟩ : ByteArray).extract ((wrap64 ((wrap64 (3 * a0)) - 3)) : Int).toNat ((wrap64 (3 * a0)) : Int).toNat).size + 1 ≤ 9223372036854775807 then ((ident_digits.f k a1 7).bind fun t108 => (if (((⟨#[73, 84, 77, 70, 82, 77, 67, 65, 78, 83, 69, 83, 82, 65, 84, 65, 83, 84]⟩ : ByteArray).extract ((wrap64 ((wrap64 (3 * a0)) - 3)) : Int).toNat ((wrap64 (3 * a0)) : Int).toNat) ++ (⟨#[45]⟩ : ByteArray)).size + t108.size ≤ 9223372036854775807 then (if ((((⟨#[73, 84, 77, 70, 82, 77, 67, 65, 78, 83, 69, 83, 82, 65, 84, 65, 83, 84]⟩ : ByteArray).extract ((wrap64 ((wrap64 (3 * a0)) - 3)) : Int).toNat ((wrap64 (3 * a0)) : Int).toNat) ++ (⟨#[45]⟩ : ByteArray)) ++ t108).size + 1 ≤ 9223372036854775807 then ((ident_digits.f k t106 2).bind fun t109 => (if (((((⟨#[73, 84, 77, 70, 82, 77, 67, 65, 78, 83, 69, 83, 82, 65, 84, 65, 83, 84]⟩ : ByteArray).extract ((wrap64 ((wrap64 (3 * a0)) - 3)) : Int).toNat ((wrap64 (3 * a0)) : Int).toNat) ++ (⟨#[45]⟩ : ByteArray)) ++ t108) ++ (⟨#[45]⟩ : ByteArray)).size + t109.size ≤ 9223372036854775807 then (some ((((((⟨#[73, 84, 77, 70, 82, 77, 67, 65, 78, 83, 69, 83, 82, 65, 84, 65, 83, 84]⟩ : ByteArray).extract ((wrap64 ((wrap64 (3 * a0)) - 3)) : Int).toNat ((wrap64 (3 * a0)) : Int).toNat) ++ (⟨#[45]⟩ : ByteArray)) ++ t108) ++ (⟨#[45]⟩ : ByteArray)) ++ t109, 0)) else (none))) else (none)) else (none))) else (none)) else (none)) else (none)) else (none)) else (some ((⟨#[]⟩ : ByteArray), t107))) = some (r1, r2) := H
  have A3 := Aside0.mk A30
  clear A30
  by_cases c4 : t107 = 0
  · rw [if_pos c4] at H
    have c4b0 : (t107 == 0) = true := beq_iff_eq.mpr c4
    have c4b1 : (t107 != 0) = false := bne_eq_false_iff_eq.mpr c4
    clear c4
    obtain ⟨ji5, hji5⟩ : ∃ j_ : Int, (wrap64 ((wrap64 (3 * a0)) - 3)) = j_ := ⟨_, rfl⟩
    replace H : (if 0 ≤ (ji5) then (if (ji5) ≤ (wrap64 (3 * a0)) then (if (wrap64 (3 * a0)) ≤ 18 then (if ((⟨#[73, 84, 77, 70, 82, 77, 67, 65, 78, 83, 69, 83, 82, 65, 84, 65, 83, 84]⟩ : ByteArray).extract ((ji5) : Int).toNat ((wrap64 (3 * a0)) : Int).toNat).size + 1 ≤ 9223372036854775807 then ((ident_digits.f k a1 7).bind fun t108 => (if (((⟨#[73, 84, 77, 70, 82, 77, 67, 65, 78, 83, 69, 83, 82, 65, 84, 65, 83, 84]⟩ : ByteArray).extract ((ji5) : Int).toNat ((wrap64 (3 * a0)) : Int).toNat) ++ (⟨#[45]⟩ : ByteArray)).size + t108.size ≤ 9223372036854775807 then (if ((((⟨#[73, 84, 77, 70, 82, 77, 67, 65, 78, 83, 69, 83, 82, 65, 84, 65, 83, 84]⟩ : ByteArray).extract ((ji5) : Int).toNat ((wrap64 (3 * a0)) : Int).toNat) ++ (⟨#[45]⟩ : ByteArray)) ++ t108).size + 1 ≤ 9223372036854775807 then ((ident_digits.f k t106 2).bind fun t109 => (if (((((⟨#[73, 84, 77, 70, 82, 77, 67, 65, 78, 83, 69, 83, 82, 65, 84, 65, 83, 84]⟩ : ByteArray).extract ((ji5) : Int).toNat ((wrap64 (3 * a0)) : Int).toNat) ++ (⟨#[45]⟩ : ByteArray)) ++ t108) ++ (⟨#[45]⟩ : ByteArray)).size + t109.size ≤ 9223372036854775807 then (some ((((((⟨#[73, 84, 77, 70, 82, 77, 67, 65, 78, 83, 69, 83, 82, 65, 84, 65, 83, 84]⟩ : ByteArray).extract ((ji5) : Int).toNat ((wrap64 (3 * a0)) : Int).toNat) ++ (⟨#[45]⟩ : ByteArray)) ++ t108) ++ (⟨#[45]⟩ : ByteArray)) ++ t109, 0)) else (none))) else (none)) else (none))) else (none)) else (none)) else (none)) else (none)) = some (r1, r2) := by first | (rw [hji5] at H; exact H) | (simp only [hji5] at H ⊢; exact H)
    (try rw [hji5] at A3)
    have hji5w : (IntKind.i64.wrap ((wrap64 (3 * a0)) - 3)) = ji5 := (i64_w _).trans hji5
    by_cases c6 : 0 ≤ (ji5)
    · rw [if_pos c6] at H
      have c6b0 := eq_true c6
      have c6b1 : decide (0 ≤ (ji5)) = true := decide_eq_true c6
      clear c6
      by_cases c7 : (ji5) ≤ (wrap64 (3 * a0))
      · rw [if_pos c7] at H
        have c7b0 := eq_true c7
        have c7b1 : decide ((ji5) ≤ (wrap64 (3 * a0))) = true := decide_eq_true c7
        clear c7
        by_cases c8 : (wrap64 (3 * a0)) ≤ 18
        · rw [if_pos c8] at H
          have c8b0 := eq_true c8
          have c8b1 : decide ((wrap64 (3 * a0)) ≤ 18) = true := decide_eq_true c8
          clear c8
          by_cases c9 : ((⟨#[73, 84, 77, 70, 82, 77, 67, 65, 78, 83, 69, 83, 82, 65, 84, 65, 83, 84]⟩ : ByteArray).extract ((ji5) : Int).toNat ((wrap64 (3 * a0)) : Int).toNat).size + 1 ≤ 9223372036854775807
          · rw [if_pos c9] at H
            have c9b0 := eq_true c9
            have c9b1 : decide (((⟨#[73, 84, 77, 70, 82, 77, 67, 65, 78, 83, 69, 83, 82, 65, 84, 65, 83, 84]⟩ : ByteArray).extract ((ji5) : Int).toNat ((wrap64 (3 * a0)) : Int).toNat).size + 1 ≤ 9223372036854775807) = true := decide_eq_true c9
            try have c9b2 : (9223372036854775807 < ((⟨#[73, 84, 77, 70, 82, 77, 67, 65, 78, 83, 69, 83, 82, 65, 84, 65, 83, 84]⟩ : ByteArray).extract ((ji5) : Int).toNat ((wrap64 (3 * a0)) : Int).toNat).size + 1) = False := eq_false (Nat.not_lt.2 c9)
            (try (have c9b3 : (9223372036854775807 < (((wrap64 (3 * a0))).toNat - ((ji5)).toNat) + 1) = False := eq_false (by have h_ := c9; have e0_ : (⟨#[73, 84, 77, 70, 82, 77, 67, 65, 78, 83, 69, 83, 82, 65, 84, 65, 83, 84]⟩ : ByteArray).size = 18 := rfl; simp only [ByteArray.size_append, ByteArray.size_extract, e0_] at h_; (try have gc6b1_ := of_decide_eq_true c6b1); (try have gc7b1_ := of_decide_eq_true c7b1); (try have gc8b1_ := of_decide_eq_true c8b1); omega)))
            replace H := Option.bind_eq_some_iff.mp H
            obtain ⟨t108, A100, H⟩ := H
            replace H : (if (((⟨#[73, 84, 77, 70, 82, 77, 67, 65, 78, 83, 69, 83, 82, 65, 84, 65, 83, 84]⟩ : ByteArray).extract ((ji5) : Int).toNat ((wrap64 (3 * a0)) : Int).toNat) ++ (⟨#[45]⟩ : ByteArray)).size + t108.size ≤ 9223372036854775807 then (if ((((⟨#[73, 84, 77, 70, 82, 77, 67, 65, 78, 83, 69, 83, 82, 65, 84, 65, 83, 84]⟩ : ByteArray).extract ((ji5) : Int).toNat ((wrap64 (3 * a0)) : Int).toNat) ++ (⟨#[45]⟩ : ByteArray)) ++ t108).size + 1 ≤ 9223372036854775807 then ((ident_digits.f k t106 2).bind fun t109 => (if (((((⟨#[73, 84, 77, 70, 82, 77, 67, 65, 78, 83, 69, 83, 82, 65, 84, 65, 83, 84]⟩ : ByteArray).extract ((ji5) : Int).toNat ((wrap64 (3 * a0)) : Int).toNat) ++ (⟨#[45]⟩ : ByteArray)) ++ t108) ++ (⟨#[45]⟩ : ByteArray)).size + t109.size ≤ 9223372036854775807 then (some ((((((⟨#[73, 84, 77, 70, 82, 77, 67, 65, 78, 83, 69, 83, 82, 65, 84, 65, 83, 84]⟩ : ByteArray).extract ((ji5) : Int).toNat ((wrap64 (3 * a0)) : Int).toNat) ++ (⟨#[45]⟩ : ByteArray)) ++ t108) ++ (⟨#[45]⟩ : ByteArray)) ++ t109, 0)) else (none))) else (none)) else (none)) = some (r1, r2) := H
            have A10 := Aside0.mk A100
            clear A100
            by_cases c11 : (((⟨#[73, 84, 77, 70, 82, 77, 67, 65, 78, 83, 69, 83, 82, 65, 84, 65, 83, 84]⟩ : ByteArray).extract ((ji5) : Int).toNat ((wrap64 (3 * a0)) : Int).toNat) ++ (⟨#[45]⟩ : ByteArray)).size + t108.size ≤ 9223372036854775807
            · rw [if_pos c11] at H
              have c11b0 := eq_true c11
              have c11b1 : decide ((((⟨#[73, 84, 77, 70, 82, 77, 67, 65, 78, 83, 69, 83, 82, 65, 84, 65, 83, 84]⟩ : ByteArray).extract ((ji5) : Int).toNat ((wrap64 (3 * a0)) : Int).toNat) ++ (⟨#[45]⟩ : ByteArray)).size + t108.size ≤ 9223372036854775807) = true := decide_eq_true c11
              try have c11b2 : (9223372036854775807 < (((⟨#[73, 84, 77, 70, 82, 77, 67, 65, 78, 83, 69, 83, 82, 65, 84, 65, 83, 84]⟩ : ByteArray).extract ((ji5) : Int).toNat ((wrap64 (3 * a0)) : Int).toNat) ++ (⟨#[45]⟩ : ByteArray)).size + t108.size) = False := eq_false (Nat.not_lt.2 c11)
              (try (have c11b3 : (9223372036854775807 < (((wrap64 (3 * a0))).toNat - ((ji5)).toNat) + 1 + t108.size) = False := eq_false (by have h_ := c11; have e0_ : (⟨#[45]⟩ : ByteArray).size = 1 := rfl; have e1_ : (⟨#[73, 84, 77, 70, 82, 77, 67, 65, 78, 83, 69, 83, 82, 65, 84, 65, 83, 84]⟩ : ByteArray).size = 18 := rfl; simp only [ByteArray.size_append, ByteArray.size_extract, e0_, e1_] at h_; (try have gc6b1_ := of_decide_eq_true c6b1); (try have gc7b1_ := of_decide_eq_true c7b1); (try have gc8b1_ := of_decide_eq_true c8b1); omega)))
              by_cases c12 : ((((⟨#[73, 84, 77, 70, 82, 77, 67, 65, 78, 83, 69, 83, 82, 65, 84, 65, 83, 84]⟩ : ByteArray).extract ((ji5) : Int).toNat ((wrap64 (3 * a0)) : Int).toNat) ++ (⟨#[45]⟩ : ByteArray)) ++ t108).size + 1 ≤ 9223372036854775807
              · rw [if_pos c12] at H
                have c12b0 := eq_true c12
                have c12b1 : decide (((((⟨#[73, 84, 77, 70, 82, 77, 67, 65, 78, 83, 69, 83, 82, 65, 84, 65, 83, 84]⟩ : ByteArray).extract ((ji5) : Int).toNat ((wrap64 (3 * a0)) : Int).toNat) ++ (⟨#[45]⟩ : ByteArray)) ++ t108).size + 1 ≤ 9223372036854775807) = true := decide_eq_true c12
                try have c12b2 : (9223372036854775807 < ((((⟨#[73, 84, 77, 70, 82, 77, 67, 65, 78, 83, 69, 83, 82, 65, 84, 65, 83, 84]⟩ : ByteArray).extract ((ji5) : Int).toNat ((wrap64 (3 * a0)) : Int).toNat) ++ (⟨#[45]⟩ : ByteArray)) ++ t108).size + 1) = False := eq_false (Nat.not_lt.2 c12)
                (try (have c12b3 : (9223372036854775807 < (((wrap64 (3 * a0))).toNat - ((ji5)).toNat) + 1 + t108.size + 1) = False := eq_false (by have h_ := c12; have e0_ : (⟨#[45]⟩ : ByteArray).size = 1 := rfl; have e1_ : (⟨#[73, 84, 77, 70, 82, 77, 67, 65, 78, 83, 69, 83, 82, 65, 84, 65, 83, 84]⟩ : ByteArray).size = 18 := rfl; simp only [ByteArray.size_append, ByteArray.size_extract, e0_, e1_] at h_; (try have gc6b1_ := of_decide_eq_true c6b1); (try have gc7b1_ := of_decide_eq_true c7b1); (try have gc8b1_ := of_decide_eq_true c8b1); omega)))
                replace H := Option.bind_eq_some_iff.mp H
                obtain ⟨t109, A130, H⟩ := H
                replace H : (if (((((⟨#[73, 84, 77, 70, 82, 77, 67, 65, 78, 83, 69, 83, 82, 65, 84, 65, 83, 84]⟩ : ByteArray).extract ((ji5) : Int).toNat ((wrap64 (3 * a0)) : Int).toNat) ++ (⟨#[45]⟩ : ByteArray)) ++ t108) ++ (⟨#[45]⟩ : ByteArray)).size + t109.size ≤ 9223372036854775807 then (some ((((((⟨#[73, 84, 77, 70, 82, 77, 67, 65, 78, 83, 69, 83, 82, 65, 84, 65, 83, 84]⟩ : ByteArray).extract ((ji5) : Int).toNat ((wrap64 (3 * a0)) : Int).toNat) ++ (⟨#[45]⟩ : ByteArray)) ++ t108) ++ (⟨#[45]⟩ : ByteArray)) ++ t109, 0)) else (none)) = some (r1, r2) := H
                have A13 := Aside0.mk A130
                clear A130
                by_cases c14 : (((((⟨#[73, 84, 77, 70, 82, 77, 67, 65, 78, 83, 69, 83, 82, 65, 84, 65, 83, 84]⟩ : ByteArray).extract ((ji5) : Int).toNat ((wrap64 (3 * a0)) : Int).toNat) ++ (⟨#[45]⟩ : ByteArray)) ++ t108) ++ (⟨#[45]⟩ : ByteArray)).size + t109.size ≤ 9223372036854775807
                · rw [if_pos c14] at H
                  have c14b0 := eq_true c14
                  have c14b1 : decide ((((((⟨#[73, 84, 77, 70, 82, 77, 67, 65, 78, 83, 69, 83, 82, 65, 84, 65, 83, 84]⟩ : ByteArray).extract ((ji5) : Int).toNat ((wrap64 (3 * a0)) : Int).toNat) ++ (⟨#[45]⟩ : ByteArray)) ++ t108) ++ (⟨#[45]⟩ : ByteArray)).size + t109.size ≤ 9223372036854775807) = true := decide_eq_true c14
                  try have c14b2 : (9223372036854775807 < (((((⟨#[73, 84, 77, 70, 82, 77, 67, 65, 78, 83, 69, 83, 82, 65, 84, 65, 83, 84]⟩ : ByteArray).extract ((ji5) : Int).toNat ((wrap64 (3 * a0)) : Int).toNat) ++ (⟨#[45]⟩ : ByteArray)) ++ t108) ++ (⟨#[45]⟩ : ByteArray)).size + t109.size) = False := eq_false (Nat.not_lt.2 c14)
                  (try (have c14b3 : (9223372036854775807 < (((wrap64 (3 * a0))).toNat - ((ji5)).toNat) + 1 + t108.size + 1 + t109.size) = False := eq_false (by have h_ := c14; have e0_ : (⟨#[45]⟩ : ByteArray).size = 1 := rfl; have e1_ : (⟨#[73, 84, 77, 70, 82, 77, 67, 65, 78, 83, 69, 83, 82, 65, 84, 65, 83, 84]⟩ : ByteArray).size = 18 := rfl; simp only [ByteArray.size_append, ByteArray.size_extract, e0_, e1_] at h_; (try have gc6b1_ := of_decide_eq_true c6b1); (try have gc7b1_ := of_decide_eq_true c7b1); (try have gc8b1_ := of_decide_eq_true c8b1); omega)))
                  simp only [Option.some.injEq, Prod.mk.injEq] at H
                  obtain ⟨rfl, rfl⟩ := H
                  go_enter Try.func11, Try.ntmps11
                  try go_wp2_with (first | ((with_reducible refine gate_callee (f := 10) rfl ?_); refine goesL_ (some 11) rfl rfl Try.func10 (by kernel_rfl) rfl #[.int .i64 a0, .int .i64 a1] rfl (by (try simp only [List.map_toArray, List.map_cons, List.map_nil]); first | done | rfl | (simp only [List.length_drop, List.length_take]; rfl)) ?_; (with_reducible refine (ident_Check.calls k a0 a1 t106 t107 _ A3.out).mono ?_); rintro e w' ⟨rfl, ⟨nd, rfl⟩⟩; refine ⟨_, rfl, ?_⟩))
                  (try simp only [World.drewN_drewN])
                  (first | generalize hq_ : World.drewN w _ = w15 | (rw [drewN_self w]; generalize hq_ : World.drewN w _ = w15))
                  have n0_ := Aside0.mk (below_at hq_ HB.out)
                  clear hq_
                  (try clear HB)
                  have HB := n0_
                  clear n0_
                  have n0_ := Aside0.mk (below_drew1 HB.out)
                  clear HB
                  have HB := n0_
                  clear n0_
                  refine start_ (n := 16) (S := fun w' => True) (ds := []) #[false, false, false, false, false, false, false, false, false, false, false, false, false, false, false, false] (by kernel_rfl) rfl rfl trivial (fun hHeld => ?_); refine with_tabW ident_Print.tab4 ident_Print.bits4 (fun HT_ HW_ => ?_)
                  generalize w15.drew = w16 at HB hHeld ⊢
                  refine pure_ (i := 0) (N := some 17) (v := ?_) (a' := ?_) #[true, false, false, false, false, false, false, false, false, false, false, false, false, false, false, false] rfl rfl (any_of HT_.out (by kernel_rfl)) (fun _ _ _ h => h) (Or.inl ⟨by rfl, ?_⟩) ?_ ?_
                  rotate_left
                  · intro w'
                    go_simp
                    with_reducible rfl
                  rotate_left
                  · simp only [Act.put, List.setIfInBounds_toArray, List.set_cons_zero, List.set_cons_succ, i64_w, i32_w]
                    rfl
                  refine pure_ (i := 1) (N := some 18) (v := ?_) (a' := ?_) #[true, true, false, false, false, false, false, false, false, false, false, false, false, false, false, false] rfl rfl (any_of HT_.out (by kernel_rfl)) (fun _ _ _ h => h) (Or.inl ⟨by rfl, ?_⟩) ?_ ?_
                  rotate_left
                  · intro w'
                    go_simp
                    with_reducible rfl
                  rotate_left
                  · simp only [Act.put, List.setIfInBounds_toArray, List.set_cons_zero, List.set_cons_succ, i64_w, i32_w]
                    rfl
                  refine pure_ (i := 2) (N := some 19) (v := ?_) (a' := ?_) #[true, true, true, false, false, false, false, false, false, false, false, false, false, false, false, false] rfl rfl (any_of HT_.out (by kernel_rfl)) (fun _ _ _ h => h) (Or.inl ⟨by rfl, ?_⟩) ?_ ?_
                  rotate_left
                  · intro w'
                    go_simp
                    with_reducible rfl
                  rotate_left
                  · simp only [Act.put, List.setIfInBounds_toArray, List.set_cons_zero, List.set_cons_succ, i64_w, i32_w]
                    rfl
                  refine pure_ (i := 3) (N := some 20) (v := ?_) (a' := ?_) #[true, true, true, true, false, false, false, false, false, false, false, false, false, false, false, false] rfl rfl (any_of HT_.out (by kernel_rfl)) (fun _ _ _ h => h) (Or.inl ⟨by rfl, ?_⟩) ?_ ?_
                  rotate_left
                  · intro w'
                    go_simp
                    with_reducible rfl
                  rotate_left
                  · simp only [Act.put, List.setIfInBounds_toArray, List.set_cons_zero, List.set_cons_succ, i64_w, i32_w]
                    rfl
                  refine pure_ (i := 4) (N := some 21) (v := ?_) (a' := ?_) #[true, true, true, true, true, false, false, false, false, false, false, false, false, false, false, false] rfl rfl (any_of HT_.out (by kernel_rfl)) (fun _ _ _ h => h) (Or.inl ⟨by rfl, ?_⟩) ?_ ?_
                  rotate_left
                  · intro w'
                    go_simp
                    with_reducible rfl
                  rotate_left
                  · simp only [Act.put, List.setIfInBounds_toArray, List.set_cons_zero, List.set_cons_succ, i64_w, i32_w]
                    rfl
                  refine pure_ (i := 5) (N := some 22) (v := ?_) (a' := ?_) #[true, true, true, true, true, true, false, false, false, false, false, false, false, false, false, false] rfl rfl (any_of HT_.out (by kernel_rfl)) (fun _ _ _ h => h) (Or.inl ⟨by rfl, ?_⟩) ?_ ?_
                  rotate_left
                  · intro w'
                    go_simp
                    with_reducible rfl
                  rotate_left
                  · simp only [Act.put, List.setIfInBounds_toArray, List.set_cons_zero, List.set_cons_succ, i64_w, i32_w]
                    rfl
                  refine pure_ (i := 6) (N := some 23) (v := ?_) (a' := ?_) #[true, true, true, true, true, true, true, false, false, false, false, false, false, false, false, false] rfl rfl (any_of HT_.out (by kernel_rfl)) (fun _ _ _ h => h) (Or.inl ⟨by rfl, ?_⟩) ?_ ?_
                  rotate_left
                  · intro w'
                    go_simp
                    with_reducible rfl
                  rotate_left
                  · simp only [Act.put, List.setIfInBounds_toArray, List.set_cons_zero, List.set_cons_succ, i64_w, i32_w]
                    rfl
                  refine pure_ (i := 7) (N := some 24) (v := ?_) (a' := ?_) #[true, true, true, true, true, true, true, true, false, false, false, false, false, false, false, false] rfl rfl (any_of HT_.out (by kernel_rfl)) (fun _ _ _ h => h) (Or.inl ⟨by rfl, ?_⟩) ?_ ?_
                  rotate_left
                  · intro w'
                    go_simp
                    with_reducible rfl
                  rotate_left
                  · simp only [Act.put, List.setIfInBounds_toArray, List.set_cons_zero, List.set_cons_succ, i64_w, i32_w]
                    rfl
                  refine pure_ (i := 11) (N := some 28) (v := ?_) (a' := ?_) #[true, true, true, true, true, true, true, true, false, false, false, true, false, false, false, false] rfl rfl (any_of HT_.out (by kernel_rfl)) (fun _ _ _ h => h) (Or.inl ⟨by rfl, ?_⟩) ?_ ?_
                  rotate_left
                  · intro w'
                    go_simp
                    with_reducible rfl
                  rotate_left
                  · simp only [Act.put, List.setIfInBounds_toArray, List.set_cons_zero, List.set_cons_succ, i64_w, i32_w]
                    rfl
                  refine one_ (i := 8) (N := some 25) #[true, true, true, true, true, true, true, true, true, false, false, true, false, false, false, false] rfl rfl (one_of HT_.out (by kernel_rfl)) (by decide) (fun K hK => ?_)
                  refine goes_ Try.func18 (by kernel_rfl) rfl #[.int .i64 a1, .int .i64 7] (by rfl) rfl rfl (by (try simp only [List.map_toArray, List.map_cons, List.map_nil]); first | done | rfl | (simp only [List.length_drop, List.length_take]; rfl)) ?_
                  with_reducible refine (ident_digits.calls k a1 7 t108 _ A10.out).mono ?_
                  rintro e w17 ⟨rfl, hb⟩
                  refine ⟨_, rfl, ?_⟩
                  have n0_ := Aside0.mk (below_step (by repeat (first | (with_reducible first | exact HB.out | apply below_alloc | apply pw_below_drewN | apply below_drew1) | exact HB.out)) hb)
                  clear HB
                  have HB := n0_
                  clear n0_
                  (try clear hb)
                  (try clear hb2)
                  (try clear hk)
                  (try clear hi)
                  refine hK.out _ _ trivial (fun hHeld => ?_)
                  clear hK K
                  refine norm_ (a' := ?_) ?_ ?_
                  rotate_left
                  · show Act.put _ (some 25) _ = _
                    simp only [Act.put, List.setIfInBounds_toArray, List.set_cons_zero, List.set_cons_succ, i64_w, i32_w]
                    rfl
                  refine pure_ (i := 9) (N := some 26) (v := ?_) (a' := ?_) #[true, true, true, true, true, true, true, true, true, true, false, true, false, false, false, false] rfl rfl (any_of HT_.out (by kernel_rfl)) (fun _ _ _ h => h) (Or.inl ⟨by rfl, ?_⟩) ?_ ?_
                  rotate_left
                  · intro w'
                    go_simp
                    with_reducible rfl
                  rotate_left
                  · simp only [Act.put, List.setIfInBounds_toArray, List.set_cons_zero, List.set_cons_succ, i64_w, i32_w]
                    rfl
                  refine pure_ (i := 10) (N := some 27) (v := ?_) (a' := ?_) #[true, true, true, true, true, true, true, true, true, true, true, true, false, false, false, false] rfl rfl (any_of HT_.out (by kernel_rfl)) (fun _ _ _ h => h) (Or.inl ⟨by rfl, ?_⟩) ?_ ?_
                  rotate_left
                  · intro w'
                    go_simp
                    with_reducible rfl
                  rotate_left
                  · simp only [Act.put, List.setIfInBounds_toArray, List.set_cons_zero, List.set_cons_succ, i64_w, i32_w]
                    rfl
                  refine one_ (i := 12) (N := some 29) #[true, true, true, true, true, true, true, true, true, true, true, true, true, false, false, false] rfl rfl (one_of HT_.out (by kernel_rfl)) (by decide) (fun K hK => ?_)
                  refine goes_ Try.func18 (by kernel_rfl) rfl #[.int .i64 t106, .int .i64 2] (by rfl) rfl rfl (by (try simp only [List.map_toArray, List.map_cons, List.map_nil]); first | done | rfl | (simp only [List.length_drop, List.length_take]; rfl)) ?_
                  with_reducible refine (ident_digits.calls k t106 2 t109 _ A13.out).mono ?_
                  rintro e w18 ⟨rfl, hb⟩
                  refine ⟨_, rfl, ?_⟩
                  have n0_ := Aside0.mk (below_step (by repeat (first | (with_reducible first | exact HB.out | apply below_alloc | apply pw_below_drewN | apply below_drew1) | exact HB.out)) hb)
                  clear HB
                  have HB := n0_
                  clear n0_
                  (try clear hb)
                  (try clear hb2)
                  (try clear hk)
                  (try clear hi)
                  refine hK.out _ _ trivial (fun hHeld => ?_)
                  clear hK K
                  refine norm_ (a' := ?_) ?_ ?_
                  rotate_left
                  · show Act.put _ (some 29) _ = _
                    simp only [Act.put, List.setIfInBounds_toArray, List.set_cons_zero, List.set_cons_succ, i64_w, i32_w]
                    rfl
                  refine pure_ (i := 13) (N := some 30) (v := ?_) (a' := ?_) #[true, true, true, true, true, true, true, true, true, true, true, true, true, true, false, false] rfl rfl (any_of HT_.out (by kernel_rfl)) (fun _ _ _ h => h) (Or.inl ⟨by rfl, ?_⟩) ?_ ?_
                  rotate_left
                  · intro w'
                    go_simp
                    with_reducible rfl
                  rotate_left
                  · simp only [Act.put, List.setIfInBounds_toArray, List.set_cons_zero, List.set_cons_succ, i64_w, i32_w]
                    rfl
                  refine pure_ (i := 14) (N := some 4) (v := ?_) (a' := ?_) #[true, true, true, true, true, true, true, true, true, true, true, true, true, true, true, false] rfl rfl (any_of HT_.out (by kernel_rfl)) (fun _ _ _ h => h) (Or.inl ⟨by rfl, ?_⟩) ?_ ?_
                  rotate_left
                  · intro w'
                    go_simp
                    with_reducible rfl
                  rotate_left
                  · simp only [Act.put, List.setIfInBounds_toArray, List.set_cons_zero, List.set_cons_succ, i64_w, i32_w]
                    rfl
                  refine pure_ (i := 15) (N := some 5) (v := ?_) (a' := ?_) #[true, true, true, true, true, true, true, true, true, true, true, true, true, true, true, true] rfl rfl (any_of HT_.out (by kernel_rfl)) (fun _ _ _ h => h) (Or.inl ⟨by rfl, ?_⟩) ?_ ?_
                  rotate_left
                  · intro w'
                    go_simp
                    with_reducible rfl
                  rotate_left
                  · simp only [Act.put, List.setIfInBounds_toArray, List.set_cons_zero, List.set_cons_succ, i64_w, i32_w]
                    rfl
                  refine done_ (done_of HT_.out (by kernel_rfl)) ?_
                  try go_wp2
                  go_ret2
                  exact ⟨by first | rfl | (simp [errW_none, errW_some] <;> rfl) | (simp only [← hji5]; first | rfl | (simp [errW_none, errW_some] <;> rfl)) | (simp [*, errW_none, errW_some] <;> rfl), by repeat (first | (with_reducible first | exact HB.out | apply below_alloc | apply pw_below_drewN | apply below_drew1) | exact HB.out)⟩
                · rw [if_neg c14] at H
                  exact absurd H (by simp)
              · rw [if_neg c12] at H
                exact absurd H (by simp)
            · rw [if_neg c11] at H
              exact absurd H (by simp)
          · rw [if_neg c9] at H
            exact absurd H (by simp)
        · rw [if_neg c8] at H
          exact absurd H (by simp)
      · rw [if_neg c7] at H
        exact absurd H (by simp)
    · rw [if_neg c6] at H
      exact absurd H (by simp)
  · rw [if_neg c4] at H
    have c4b0 : (t107 == 0) = false := beq_eq_false_iff_ne.mpr c4
    have c4b1 : (t107 != 0) = true := bne_iff_ne.mpr c4
    simp only [Option.some.injEq, Prod.mk.injEq] at H
    obtain ⟨rfl, rfl⟩ := H
    go_enter Try.func11, Try.ntmps11
    go_wp2_with (first | ((with_reducible refine gate_callee (f := 10) rfl ?_); refine goesL_ (some 11) rfl rfl Try.func10 (by kernel_rfl) rfl #[.int .i64 a0, .int .i64 a1] rfl (by (try simp only [List.map_toArray, List.map_cons, List.map_nil]); first | done | rfl | (simp only [List.length_drop, List.length_take]; rfl)) ?_; (with_reducible refine (ident_Check.calls k a0 a1 t106 t107 _ A3.out).mono ?_); rintro e w' ⟨rfl, ⟨nd, rfl⟩⟩; refine ⟨_, rfl, ?_⟩))
    go_ret2
    exact ⟨by first | rfl | (simp [errW_none, errW_some] <;> rfl) | (simp [*, errW_none, errW_some] <;> rfl), by repeat (first | (with_reducible first | exact HB.out | apply below_alloc | apply pw_below_drewN | apply below_drew1) | exact HB.out)⟩

/-! ### examboardref09_prefix: function 19 -/
def examboardref09_prefix.f (a0 : Int) : Option (ByteArray) := if a0 = 1 then (some (⟨#[73, 84, 77]⟩ : ByteArray)) else (if a0 = 2 then (some (⟨#[70, 82, 77]⟩ : ByteArray)) else (if a0 = 3 then (some (⟨#[67, 65, 78]⟩ : ByteArray)) else (if a0 = 4 then (some (⟨#[83, 69, 83]⟩ : ByteArray)) else (if a0 = 5 then (some (⟨#[82, 65, 84]⟩ : ByteArray)) else (if a0 = 6 then (some (⟨#[65, 83, 84]⟩ : ByteArray)) else (some (⟨#[]⟩ : ByteArray)))))))
set_option maxHeartbeats 8000000 in
set_option maxRecDepth 100000 in
theorem examboardref09_prefix.calls (a0 : Int) (r : ByteArray) (w : World) (h : examboardref09_prefix.f a0 = some r) :
    Calls Try.prog 19 #[.int .i64 a0] w fun e w' => e = .returned (.string r) ∧ Drawn0 w w' := by
  have H : (if a0 = 1 then (some (⟨#[73, 84, 77]⟩ : ByteArray)) else (if a0 = 2 then (some (⟨#[70, 82, 77]⟩ : ByteArray)) else (if a0 = 3 then (some (⟨#[67, 65, 78]⟩ : ByteArray)) else (if a0 = 4 then (some (⟨#[83, 69, 83]⟩ : ByteArray)) else (if a0 = 5 then (some (⟨#[82, 65, 84]⟩ : ByteArray)) else (if a0 = 6 then (some (⟨#[65, 83, 84]⟩ : ByteArray)) else (some (⟨#[]⟩ : ByteArray)))))))) = some r := h
  clear h
  by_cases c2 : a0 = 1
  · rw [if_pos c2] at H
    have c2b0 : (a0 == 1) = true := beq_iff_eq.mpr c2
    have c2b1 : (a0 != 1) = false := bne_eq_false_iff_eq.mpr c2
    clear c2
    obtain rfl := Option.some.inj H
    go_enter Try.func19, Try.ntmps19
    go_wp2
    go_ret
    exact ⟨by first | rfl | (simp; done) | (simp [*]; done), by repeat (first | exact Drawn0.refl _ | apply Drawn0.step)⟩
  · rw [if_neg c2] at H
    have c2b0 : (a0 == 1) = false := beq_eq_false_iff_ne.mpr c2
    have c2b1 : (a0 != 1) = true := bne_iff_ne.mpr c2
    by_cases c3 : a0 = 2
    · rw [if_pos c3] at H
      have c3b0 : (a0 == 2) = true := beq_iff_eq.mpr c3
      have c3b1 : (a0 != 2) = false := bne_eq_false_iff_eq.mpr c3
      clear c3
      obtain rfl := Option.some.inj H
      go_enter Try.func19, Try.ntmps19
      go_wp2
      go_ret
      exact ⟨by first | rfl | (simp; done) | (simp [*]; done), by repeat (first | exact Drawn0.refl _ | apply Drawn0.step)⟩
    · rw [if_neg c3] at H
      have c3b0 : (a0 == 2) = false := beq_eq_false_iff_ne.mpr c3
      have c3b1 : (a0 != 2) = true := bne_iff_ne.mpr c3
      by_cases c4 : a0 = 3
      · rw [if_pos c4] at H
        have c4b0 : (a0 == 3) = true := beq_iff_eq.mpr c4
        have c4b1 : (a0 != 3) = false := bne_eq_false_iff_eq.mpr c4
        clear c4
        obtain rfl := Option.some.inj H
        go_enter Try.func19, Try.ntmps19
        go_wp2
        go_ret
        exact ⟨by first | rfl | (simp; done) | (simp [*]; done), by repeat (first | exact Drawn0.refl _ | apply Drawn0.step)⟩
      · rw [if_neg c4] at H
        have c4b0 : (a0 == 3) = false := beq_eq_false_iff_ne.mpr c4
        have c4b1 : (a0 != 3) = true := bne_iff_ne.mpr c4
        by_cases c5 : a0 = 4
        · rw [if_pos c5] at H
          have c5b0 : (a0 == 4) = true := beq_iff_eq.mpr c5
          have c5b1 : (a0 != 4) = false := bne_eq_false_iff_eq.mpr c5
          clear c5
          obtain rfl := Option.some.inj H
          go_enter Try.func19, Try.ntmps19
          go_wp2
          go_ret
          exact ⟨by first | rfl | (simp; done) | (simp [*]; done), by repeat (first | exact Drawn0.refl _ | apply Drawn0.step)⟩
        · rw [if_neg c5] at H
          have c5b0 : (a0 == 4) = false := beq_eq_false_iff_ne.mpr c5
          have c5b1 : (a0 != 4) = true := bne_iff_ne.mpr c5
          by_cases c6 : a0 = 5
          · rw [if_pos c6] at H
            have c6b0 : (a0 == 5) = true := beq_iff_eq.mpr c6
            have c6b1 : (a0 != 5) = false := bne_eq_false_iff_eq.mpr c6
            clear c6
            obtain rfl := Option.some.inj H
            go_enter Try.func19, Try.ntmps19
            go_wp2
            go_ret
            exact ⟨by first | rfl | (simp; done) | (simp [*]; done), by repeat (first | exact Drawn0.refl _ | apply Drawn0.step)⟩
          · rw [if_neg c6] at H
            have c6b0 : (a0 == 5) = false := beq_eq_false_iff_ne.mpr c6
            have c6b1 : (a0 != 5) = true := bne_iff_ne.mpr c6
            by_cases c7 : a0 = 6
            · rw [if_pos c7] at H
              have c7b0 : (a0 == 6) = true := beq_iff_eq.mpr c7
              have c7b1 : (a0 != 6) = false := bne_eq_false_iff_eq.mpr c7
              clear c7
              obtain rfl := Option.some.inj H
              go_enter Try.func19, Try.ntmps19
              go_wp2
              go_ret
              exact ⟨by first | rfl | (simp; done) | (simp [*]; done), by repeat (first | exact Drawn0.refl _ | apply Drawn0.step)⟩
            · rw [if_neg c7] at H
              have c7b0 : (a0 == 6) = false := beq_eq_false_iff_ne.mpr c7
              have c7b1 : (a0 != 6) = true := bne_iff_ne.mpr c7
              obtain rfl := Option.some.inj H
              go_enter Try.func19, Try.ntmps19
              go_wp2
              go_ret
              exact ⟨by first | rfl | (simp; done) | (simp [*]; done), by repeat (first | exact Drawn0.refl _ | apply Drawn0.step)⟩

/-! ### examboardref09_Check: function 13 -/
def examboardref09_Check.f (a0 : Int) (a1 : Int) : Option (Int × Int) := (examboardref09_prefix.f a0).bind fun t110 => (if t110.toList = ([] : List UInt8) then (some (0, 1)) else (if a1 < 1 then (some (0, 3)) else (if a1 > 9999999 then (some (0, 3)) else (some (wrap64 (98 - (Int.tmod (wrap64 ((wrap64 ((wrap64 (a0 * 10000000)) + a1)) * 100)) 97)), 0)))))
set_option maxHeartbeats 8000000 in
set_option maxRecDepth 100000 in
theorem examboardref09_Check.calls (a0 : Int) (a1 : Int) (r1 : Int) (r2 : Int) (w : World) (h : examboardref09_Check.f a0 a1 = some (r1, r2)) :
    Calls Try.prog 13 #[.int .i64 a0, .int .i64 a1] w fun e w' => e = .returned (.tuple #[.int .i64 r1, .int .i64 r2]) ∧ Drawn0 w w' := by
  have H : ((examboardref09_prefix.f a0).bind fun t110 => (if t110.toList = ([] : List UInt8) then (some (0, 1)) else (if a1 < 1 then (some (0, 3)) else (if a1 > 9999999 then (some (0, 3)) else (some (wrap64 (98 - (Int.tmod (wrap64 ((wrap64 ((wrap64 (a0 * 10000000)) + a1)) * 100)) 97)), 0)))))) = some (r1, r2) := h
  clear h
  replace H := Option.bind_eq_some_iff.mp H
  obtain ⟨t110, A30, H⟩ := H
  replace H : (if t110.toList = ([] : List UInt8) then (some (0, 1)) else (if a1 < 1 then (some (0, 3)) else (if a1 > 9999999 then (some (0, 3)) else (some (wrap64 (98 - (Int.tmod (wrap64 ((wrap64 ((wrap64 (a0 * 10000000)) + a1)) * 100)) 97)), 0))))) = some (r1, r2) := H
  have A3 := Aside0.mk A30
  clear A30
  by_cases c4 : t110.toList = ([] : List UInt8)
  · rw [if_pos c4] at H
    have c4b0 : (t110.toList == ([] : List UInt8)) = true := beq_iff_eq.mpr c4
    have c4b1 : (t110.toList != ([] : List UInt8)) = false := bne_eq_false_iff_eq.mpr c4
    clear c4
    simp only [Option.some.injEq, Prod.mk.injEq] at H
    obtain ⟨rfl, rfl⟩ := H
    go_enter Try.func13, Try.ntmps13
    go_wp2_with (first | ((with_reducible refine gate_callee (f := 19) rfl ?_); refine goesL_ (some 7) rfl rfl Try.func19 (by kernel_rfl) rfl #[.int .i64 a0] rfl (by (try simp only [List.map_toArray, List.map_cons, List.map_nil]); first | done | rfl | (simp only [List.length_drop, List.length_take]; rfl)) ?_; (with_reducible refine (examboardref09_prefix.calls a0 t110 _ A3.out).mono ?_); rintro e w' ⟨rfl, ⟨nd, rfl⟩⟩; refine ⟨_, rfl, ?_⟩))
    go_ret2
    exact ⟨by first | rfl | (simp; done) | (simp [*]; done), by repeat (first | exact Drawn0.refl _ | apply Drawn0.step)⟩
  · rw [if_neg c4] at H
    have c4b0 : (t110.toList == ([] : List UInt8)) = false := beq_eq_false_iff_ne.mpr c4
    have c4b1 : (t110.toList != ([] : List UInt8)) = true := bne_iff_ne.mpr c4
    by_cases c5 : a1 < 1
    · rw [if_pos c5] at H
      have c5b0 : decide (a1 < 1) = true := decide_eq_true c5
      clear c5
      simp only [Option.some.injEq, Prod.mk.injEq] at H
      obtain ⟨rfl, rfl⟩ := H
      go_enter Try.func13, Try.ntmps13
      go_wp2_with (first | ((with_reducible refine gate_callee (f := 19) rfl ?_); refine goesL_ (some 7) rfl rfl Try.func19 (by kernel_rfl) rfl #[.int .i64 a0] rfl (by (try simp only [List.map_toArray, List.map_cons, List.map_nil]); first | done | rfl | (simp only [List.length_drop, List.length_take]; rfl)) ?_; (with_reducible refine (examboardref09_prefix.calls a0 t110 _ A3.out).mono ?_); rintro e w' ⟨rfl, ⟨nd, rfl⟩⟩; refine ⟨_, rfl, ?_⟩))
      go_ret2
      exact ⟨by first | rfl | (simp; done) | (simp [*]; done), by repeat (first | exact Drawn0.refl _ | apply Drawn0.step)⟩
    · rw [if_neg c5] at H
      have c5b0 : decide (a1 < 1) = false := decide_eq_false c5
      clear c5
      by_cases c6 : a1 > 9999999
      · rw [if_pos c6] at H
        have c6b0 : decide (9999999 < a1) = true := decide_eq_true c6
        clear c6
        simp only [Option.some.injEq, Prod.mk.injEq] at H
        obtain ⟨rfl, rfl⟩ := H
        go_enter Try.func13, Try.ntmps13
        go_wp2_with (first | ((with_reducible refine gate_callee (f := 19) rfl ?_); refine goesL_ (some 7) rfl rfl Try.func19 (by kernel_rfl) rfl #[.int .i64 a0] rfl (by (try simp only [List.map_toArray, List.map_cons, List.map_nil]); first | done | rfl | (simp only [List.length_drop, List.length_take]; rfl)) ?_; (with_reducible refine (examboardref09_prefix.calls a0 t110 _ A3.out).mono ?_); rintro e w' ⟨rfl, ⟨nd, rfl⟩⟩; refine ⟨_, rfl, ?_⟩))
        go_ret2
        exact ⟨by first | rfl | (simp; done) | (simp [*]; done), by repeat (first | exact Drawn0.refl _ | apply Drawn0.step)⟩
      · rw [if_neg c6] at H
        have c6b0 : decide (9999999 < a1) = false := decide_eq_false c6
        clear c6
        simp only [Option.some.injEq, Prod.mk.injEq] at H
        obtain ⟨rfl, rfl⟩ := H
        go_enter Try.func13, Try.ntmps13
        go_wp2_with (first | ((with_reducible refine gate_callee (f := 19) rfl ?_); refine goesL_ (some 7) rfl rfl Try.func19 (by kernel_rfl) rfl #[.int .i64 a0] rfl (by (try simp only [List.map_toArray, List.map_cons, List.map_nil]); first | done | rfl | (simp only [List.length_drop, List.length_take]; rfl)) ?_; (with_reducible refine (examboardref09_prefix.calls a0 t110 _ A3.out).mono ?_); rintro e w' ⟨rfl, ⟨nd, rfl⟩⟩; refine ⟨_, rfl, ?_⟩))
        go_ret2
        exact ⟨by first | rfl | (simp; done) | (simp [*]; done), by repeat (first | exact Drawn0.refl _ | apply Drawn0.step)⟩

/-! ### examboardref09_digits: function 20 -/
def examboardref09_digits.l0 : Nat → Int → Int → ByteArray → Int → Option (ByteArray)
  | 0, _, _, _, _ => none
  | k + 1, x0, x1, x5, x6 => if x6 < x1 then ((some (([(wrap64 (48 + (Int.tmod x0 10))) % 256] : List Int) : List Int)).bind fun y111 => (if (strOfNums y111).size + x5.size ≤ 9223372036854775807 then (examboardref09_digits.l0 k (wrap64 (Int.tdiv x0 10)) x1 ((strOfNums y111) ++ x5) (wrap64 (x6 + 1))) else (none))) else (some x5)
def examboardref09_digits.f (k : Nat) (a0 : Int) (a1 : Int) : Option (ByteArray) := examboardref09_digits.l0 k a0 a1 (⟨#[]⟩ : ByteArray) 0
theorem examboardref09_digits.mono_l : ∀ k, (∀ y0 y1 y2 y3, LeO (examboardref09_digits.l0 k y0 y1 y2 y3) (examboardref09_digits.l0 (k + 1) y0 y1 y2 y3))
  | 0 => fun _ _ _ _ r h => by simp [examboardref09_digits.l0] at h
  | k + 1 => by
    have ih0 := examboardref09_digits.mono_l k
    · intro y0 y1 y2 y3
      unfold examboardref09_digits.l0
      repeat' first
      | (with_reducible exact ih0 _ _ _ _)
      | (with_reducible exact LeO.refl _)
      | (with_reducible exact LeO.none _)
      | (with_reducible refine LeO.ite ?_ ?_)
      | (with_reducible refine LeO.bind ?_ (fun _ => ?_))
      | exact ih0 _ _ _ _
      | exact LeO.none _
      | refine LeO.ite ?_ ?_
      | refine LeO.bind ?_ (fun _ => ?_)
theorem examboardref09_digits.mono : ∀ a0 a1 k, LeO (examboardref09_digits.f k a0 a1) (examboardref09_digits.f (k + 1) a0 a1) := by
  intro a0 a1 k
  have ih0 := examboardref09_digits.mono_l k
  unfold examboardref09_digits.f
  repeat' first
      | (with_reducible exact ih0 _ _ _ _)
      | (with_reducible exact LeO.refl _)
      | (with_reducible exact LeO.none _)
      | (with_reducible refine LeO.ite ?_ ?_)
      | (with_reducible refine LeO.bind ?_ (fun _ => ?_))
      | exact ih0 _ _ _ _
      | exact LeO.none _
      | refine LeO.ite ?_ ?_
      | refine LeO.bind ?_ (fun _ => ?_)
set_option maxHeartbeats 8000000 in
set_option maxRecDepth 100000 in
theorem examboardref09_digits.calls (k : Nat) (a0 : Int) (a1 : Int) (r : ByteArray) (w : World) (h : examboardref09_digits.f k a0 a1 = some r) :
    Calls Try.prog 20 #[.int .i64 a0, .int .i64 a1] w fun e w' => e = .returned (.string r) ∧ Below w.heap.size w w' := by
  have HB := Aside0.mk (Below.refl w.heap.size w)
  have H : (examboardref09_digits.l0 k a0 a1 (⟨#[]⟩ : ByteArray) 0) = some r := h
  clear h
  have H' := Aside0.mk H
  clear H
  go_enter Try.func20, Try.ntmps20
  go_wp2
  go_loopg [0, 5, 6] k (fun kq v0 v5 v6 w' => ∃ (x0_1 : Int) (x5_1 : ByteArray) (x6_1 : Int), v0 = .int .i64 x0_1 ∧ v5 = .string x5_1 ∧ v6 = .int .i64 x6_1 ∧ Aside0 (examboardref09_digits.l0 kq x0_1 a1 x5_1 x6_1 = some r) ∧ Aside0 (kq ≤ k) ∧ Aside0 (Below w.heap.size w w'))
  case atStart => exact ⟨(a0), ((⟨#[]⟩ : ByteArray)), (0), (by first | rfl | (simp; done) | (simp [*]; done)), (by first | rfl | (simp; done) | (simp [*]; done)), (by first | rfl | (simp; done) | (simp [*]; done)), H', ⟨Nat.le_refl _⟩, ⟨by repeat (first | (with_reducible first | exact HB.out | apply below_alloc | apply pw_below_drewN | apply below_drew1) | exact HB.out)⟩⟩
  case round =>
    clear H'
    try clear c2
    try clear p2
    obtain ⟨x0_1, x5_1, x6_1, rfl, rfl, rfl, HA, HK1, HB⟩ := hrel
    cases gk with
    | zero => exact absurd HA.out (by simp [examboardref09_digits.l0])
    | succ k1 =>
      have H := HA.out
      clear HA
      simp only [examboardref09_digits.l0] at H
      by_cases c3 : x6_1 < a1
      · rw [if_pos c3] at H
        have c3b0 : decide (x6_1 < a1) = true := decide_eq_true c3
        clear c3
        obtain ⟨y111, hy111⟩ : ∃ y_ : List Int, y_ = (([(wrap64 (48 + (Int.tmod x0_1 10))) % 256] : List Int)) := ⟨_, rfl⟩
        replace H : (if (strOfNums y111).size + x5_1.size ≤ 9223372036854775807 then (examboardref09_digits.l0 k1 (wrap64 (Int.tdiv x0_1 10)) a1 ((strOfNums y111) ++ x5_1) (wrap64 (x6_1 + 1))) else (none)) = some r := by first | (rw [hy111]; with_reducible exact H) | (have H2_ := (Option.bind_some _ _).symm.trans H; rw [hy111]; with_reducible exact H2_) | (have H2_ := (Option.bind_some _ _).symm.trans H; with_reducible exact H2_) | with_reducible exact H | (rw [hy111]; exact H) | exact H
        have Ny111 := Aside0.mk hy111
        clear hy111
        by_cases c4 : (strOfNums y111).size + x5_1.size ≤ 9223372036854775807
        · rw [if_pos c4] at H
          have c4b0 := eq_true c4
          have c4b1 : decide ((strOfNums y111).size + x5_1.size ≤ 9223372036854775807) = true := decide_eq_true c4
          try have c4b2 : (9223372036854775807 < (strOfNums y111).size + x5_1.size) = False := eq_false (Nat.not_lt.2 c4)
          have H' := Aside0.mk H
          clear H
          go_wp2_with (first | ((with_reducible refine gate_dst (N := 16) rfl ?_); refine Kd.R_lit (Kd.int .u8) _ 5 ?hg (N := 16) ?hd (xs := ([(wrap64 (48 + (Int.tmod x0_1 10))) % 256] : List Int)) (inner := [.int .u8 ((wrap64 (48 + (Int.tmod x0_1 10))) % 256)]) (ok := fun _ => True) (okp := fun _ => True) ?hr ?hp (fun _ hk => hk) trivial (Below.refl _ _) (Nat.le_refl _) (by simp) ?_; (case hd => rfl); (case hg => rfl); (case hr => first | (go_simp; done) | (go_simp; rfl)); (case hp => exact (Reps.one (show Kd.M (Kd.int .u8) _ _ _ ((wrap64 (48 + (Int.tmod x0_1 10))) % 256) [.int .u8 ((wrap64 (48 + (Int.tmod x0_1 10))) % 256)] from rfl) (Reps.none _ _))); intro v112 w5 ho6 hb hg_ hnew_; clear hg_ hnew_; (first | rw [← Ny111.out] at ho6 | (simp only [Int.reduceToNat] at ho6; rw [← Ny111.out] at ho6)); have n0_ := Aside0.mk (Kd.R_lower ho6 (below_size (by repeat (first | (with_reducible first | exact HB.out | apply below_alloc | apply pw_below_drewN | apply below_drew1) | exact HB.out)))); have n1_ := Aside0.mk (below_step (by repeat (first | (with_reducible first | exact HB.out | apply below_alloc | apply pw_below_drewN | apply below_drew1) | exact HB.out)) hb); clear HB; have HO113 := n0_; have HB := n1_; clear n0_ n1_; clear hb ho6; have hcv7 := own_string (P := Try.prog) Try.underlying31 Try.underlying5 Try.underlying9 (Kd.own_of_R HO113.out)))
          go_roundg k1
          case measure => have := HK1.out; omega
          case rel => exact ⟨(wrap64 (Int.tdiv x0_1 10)), ((strOfNums y111) ++ x5_1), (wrap64 (x6_1 + 1)), (by first | rfl | (simp; done) | (simp [*]; done)), (by first | rfl | (simp; done) | (simp [*]; done)), (by first | rfl | (simp; done) | (simp [*]; done)), H', ⟨by have := HK1.out; omega⟩, ⟨by repeat (first | (with_reducible first | exact HB.out | apply below_alloc | apply pw_below_drewN | apply below_drew1) | exact HB.out)⟩⟩
        · rw [if_neg c4] at H
          exact absurd H (by simp)
      · rw [if_neg c3] at H
        have c3b0 : decide (x6_1 < a1) = false := decide_eq_false c3
        clear c3
        obtain rfl := Option.some.inj H
        go_wp2
        go_ret
        exact ⟨by first | rfl | (simp [errW_none, errW_some] <;> rfl) | (simp [*, errW_none, errW_some] <;> rfl), by repeat (first | (with_reducible first | exact HB.out | apply below_alloc | apply pw_below_drewN | apply below_drew1) | exact HB.out)⟩

/-! ### examboardref09_Print: function 12 -/
def examboardref09_Print.f (k : Nat) (a0 : Int) (a1 : Int) : Option (ByteArray × Int) := (examboardref09_Check.f a0 a1).bind fun bt114 => (if bt114.2 = 0 then ((examboardref09_prefix.f a0).bind fun t116 => (if t116.size + 1 ≤ 9223372036854775807 then ((examboardref09_digits.f k a1 7).bind fun t117 => (if (t116 ++ (⟨#[45]⟩ : ByteArray)).size + t117.size ≤ 9223372036854775807 then (if ((t116 ++ (⟨#[45]⟩ : ByteArray)) ++ t117).size + 1 ≤ 9223372036854775807 then ((examboardref09_digits.f k bt114.1 2).bind fun t118 => (if (((t116 ++ (⟨#[45]⟩ : ByteArray)) ++ t117) ++ (⟨#[45]⟩ : ByteArray)).size + t118.size ≤ 9223372036854775807 then (some ((((t116 ++ (⟨#[45]⟩ : ByteArray)) ++ t117) ++ (⟨#[45]⟩ : ByteArray)) ++ t118, 0)) else (none))) else (none)) else (none))) else (none))) else (some ((⟨#[]⟩ : ByteArray), bt114.2)))
theorem examboardref09_Print.mono : ∀ a0 a1 k, LeO (examboardref09_Print.f k a0 a1) (examboardref09_Print.f (k + 1) a0 a1) := by
  intro a0 a1 k
  unfold examboardref09_Print.f
  repeat' first
      | (with_reducible exact examboardref09_digits.mono _ _ _)
      | (with_reducible exact LeO.refl _)
      | (with_reducible exact LeO.none _)
      | (with_reducible refine LeO.ite ?_ ?_)
      | (with_reducible refine LeO.bind ?_ (fun _ => ?_))
      | exact examboardref09_digits.mono _ _ _
      | exact LeO.none _
      | refine LeO.ite ?_ ?_
      | refine LeO.bind ?_ (fun _ => ?_)
set_option maxHeartbeats 8000000 in
set_option maxRecDepth 100000 in
theorem examboardref09_Print.calls (k : Nat) (a0 : Int) (a1 : Int) (r1 : ByteArray) (r2 : Int) (w : World) (h : examboardref09_Print.f k a0 a1 = some (r1, r2)) :
    Calls Try.prog 12 #[.int .i64 a0, .int .i64 a1] w fun e w' => e = .returned (.tuple #[.string r1, .int .i64 r2]) ∧ Below w.heap.size w w' := by
  have HB := Aside0.mk (Below.refl w.heap.size w)
  have H : ((examboardref09_Check.f a0 a1).bind fun bt114 => (if bt114.2 = 0 then ((examboardref09_prefix.f a0).bind fun t116 => (if t116.size + 1 ≤ 9223372036854775807 then ((examboardref09_digits.f k a1 7).bind fun t117 => (if (t116 ++ (⟨#[45]⟩ : ByteArray)).size + t117.size ≤ 9223372036854775807 then (if ((t116 ++ (⟨#[45]⟩ : ByteArray)) ++ t117).size + 1 ≤ 9223372036854775807 then ((examboardref09_digits.f k bt114.1 2).bind fun t118 => (if (((t116 ++ (⟨#[45]⟩ : ByteArray)) ++ t117) ++ (⟨#[45]⟩ : ByteArray)).size + t118.size ≤ 9223372036854775807 then (some ((((t116 ++ (⟨#[45]⟩ : ByteArray)) ++ t117) ++ (⟨#[45]⟩ : ByteArray)) ++ t118, 0)) else (none))) else (none)) else (none))) else (none))) else (some ((⟨#[]⟩ : ByteArray), bt114.2)))) = some (r1, r2) := h
  clear h
  replace H := Option.bind_eq_some_iff.mp H
  obtain ⟨⟨t114, t115⟩, A30, H⟩ := H
  replace H : (if t115 = 0 then ((examboardref09_prefix.f a0).bind fun t116 => (if t116.size + 1 ≤ 9223372036854775807 then ((examboardref09_digits.f k a1 7).bind fun t117 => (if (t116 ++ (⟨#[45]⟩ : ByteArray)).size + t117.size ≤ 9223372036854775807 then (if ((t116 ++ (⟨#[45]⟩ : ByteArray)) ++ t117).size + 1 ≤ 9223372036854775807 then ((examboardref09_digits.f k t114 2).bind fun t118 => (if (((t116 ++ (⟨#[45]⟩ : ByteArray)) ++ t117) ++ (⟨#[45]⟩ : ByteArray)).size + t118.size ≤ 9223372036854775807 then (some ((((t116 ++ (⟨#[45]⟩ : ByteArray)) ++ t117) ++ (⟨#[45]⟩ : ByteArray)) ++ t118, 0)) else (none))) else (none)) else (none))) else (none))) else (some ((⟨#[]⟩ : ByteArray), t115))) = some (r1, r2) := H
  have A3 := Aside0.mk A30
  clear A30
  by_cases c4 : t115 = 0
  · rw [if_pos c4] at H
    have c4b0 : (t115 == 0) = true := beq_iff_eq.mpr c4
    have c4b1 : (t115 != 0) = false := bne_eq_false_iff_eq.mpr c4
    clear c4
    replace H := Option.bind_eq_some_iff.mp H
    obtain ⟨t116, A50, H⟩ := H
    replace H : (if t116.size + 1 ≤ 9223372036854775807 then ((examboardref09_digits.f k a1 7).bind fun t117 => (if (t116 ++ (⟨#[45]⟩ : ByteArray)).size + t117.size ≤ 9223372036854775807 then (if ((t116 ++ (⟨#[45]⟩ : ByteArray)) ++ t117).size + 1 ≤ 9223372036854775807 then ((examboardref09_digits.f k t114 2).bind fun t118 => (if (((t116 ++ (⟨#[45]⟩ : ByteArray)) ++ t117) ++ (⟨#[45]⟩ : ByteArray)).size + t118.size ≤ 9223372036854775807 then (some ((((t116 ++ (⟨#[45]⟩ : ByteArray)) ++ t117) ++ (⟨#[45]⟩ : ByteArray)) ++ t118, 0)) else (none))) else (none)) else (none))) else (none)) = some (r1, r2) := H
    have A5 := Aside0.mk A50
    clear A50
    by_cases c6 : t116.size + 1 ≤ 9223372036854775807
    · rw [if_pos c6] at H
      have c6b0 := eq_true c6
      have c6b1 : decide (t116.size + 1 ≤ 9223372036854775807) = true := decide_eq_true c6
      try have c6b2 : (9223372036854775807 < t116.size + 1) = False := eq_false (Nat.not_lt.2 c6)
      replace H := Option.bind_eq_some_iff.mp H
      obtain ⟨t117, A70, H⟩ := H
      replace H : (if (t116 ++ (⟨#[45]⟩ : ByteArray)).size + t117.size ≤ 9223372036854775807 then (if ((t116 ++ (⟨#[45]⟩ : ByteArray)) ++ t117).size + 1 ≤ 9223372036854775807 then ((examboardref09_digits.f k t114 2).bind fun t118 => (if (((t116 ++ (⟨#[45]⟩ : ByteArray)) ++ t117) ++ (⟨#[45]⟩ : ByteArray)).size + t118.size ≤ 9223372036854775807 then (some ((((t116 ++ (⟨#[45]⟩ : ByteArray)) ++ t117) ++ (⟨#[45]⟩ : ByteArray)) ++ t118, 0)) else (none))) else (none)) else (none)) = some (r1, r2) := H
      have A7 := Aside0.mk A70
      clear A70
      by_cases c8 : (t116 ++ (⟨#[45]⟩ : ByteArray)).size + t117.size ≤ 9223372036854775807
      · rw [if_pos c8] at H
        have c8b0 := eq_true c8
        have c8b1 : decide ((t116 ++ (⟨#[45]⟩ : ByteArray)).size + t117.size ≤ 9223372036854775807) = true := decide_eq_true c8
        try have c8b2 : (9223372036854775807 < (t116 ++ (⟨#[45]⟩ : ByteArray)).size + t117.size) = False := eq_false (Nat.not_lt.2 c8)
        (try (have c8b3 : (9223372036854775807 < t116.size + 1 + t117.size) = False := eq_false (by have h_ := c8; have e0_ : (⟨#[45]⟩ : ByteArray).size = 1 := rfl; simp only [ByteArray.size_append, ByteArray.size_extract, e0_] at h_; omega)))
        by_cases c9 : ((t116 ++ (⟨#[45]⟩ : ByteArray)) ++ t117).size + 1 ≤ 9223372036854775807
        · rw [if_pos c9] at H
          have c9b0 := eq_true c9
          have c9b1 : decide (((t116 ++ (⟨#[45]⟩ : ByteArray)) ++ t117).size + 1 ≤ 9223372036854775807) = true := decide_eq_true c9
          try have c9b2 : (9223372036854775807 < ((t116 ++ (⟨#[45]⟩ : ByteArray)) ++ t117).size + 1) = False := eq_false (Nat.not_lt.2 c9)
          (try (have c9b3 : (9223372036854775807 < t116.size + 1 + t117.size + 1) = False := eq_false (by have h_ := c9; have e0_ : (⟨#[45]⟩ : ByteArray).size = 1 := rfl; simp only [ByteArray.size_append, ByteArray.size_extract, e0_] at h_; omega)))
          replace H := Option.bind_eq_some_iff.mp H
          obtain ⟨t118, A100, H⟩ := H
          replace H : (if (((t116 ++ (⟨#[45]⟩ : ByteArray)) ++ t117) ++ (⟨#[45]⟩ : ByteArray)).size + t118.size ≤ 9223372036854775807 then (some ((((t116 ++ (⟨#[45]⟩ : ByteArray)) ++ t117) ++ (⟨#[45]⟩ : ByteArray)) ++ t118, 0)) else (none)) = some (r1, r2) := H
          have A10 := Aside0.mk A100
          clear A100
          by_cases c11 : (((t116 ++ (⟨#[45]⟩ : ByteArray)) ++ t117) ++ (⟨#[45]⟩ : ByteArray)).size + t118.size ≤ 9223372036854775807
          · rw [if_pos c11] at H
            have c11b0 := eq_true c11
            have c11b1 : decide ((((t116 ++ (⟨#[45]⟩ : ByteArray)) ++ t117) ++ (⟨#[45]⟩ : ByteArray)).size + t118.size ≤ 9223372036854775807) = true := decide_eq_true c11
            try have c11b2 : (9223372036854775807 < (((t116 ++ (⟨#[45]⟩ : ByteArray)) ++ t117) ++ (⟨#[45]⟩ : ByteArray)).size + t118.size) = False := eq_false (Nat.not_lt.2 c11)
            (try (have c11b3 : (9223372036854775807 < t116.size + 1 + t117.size + 1 + t118.size) = False := eq_false (by have h_ := c11; have e0_ : (⟨#[45]⟩ : ByteArray).size = 1 := rfl; simp only [ByteArray.size_append, ByteArray.size_extract, e0_] at h_; omega)))
            simp only [Option.some.injEq, Prod.mk.injEq] at H
            obtain ⟨rfl, rfl⟩ := H
            go_enter Try.func12, Try.ntmps12
            go_wp2_with (first | ((with_reducible refine gate_callee (f := 13) rfl ?_); refine goesL_ (some 11) rfl rfl Try.func13 (by kernel_rfl) rfl #[.int .i64 a0, .int .i64 a1] rfl (by (try simp only [List.map_toArray, List.map_cons, List.map_nil]); first | done | rfl | (simp only [List.length_drop, List.length_take]; rfl)) ?_; (with_reducible refine (examboardref09_Check.calls a0 a1 t114 t115 _ A3.out).mono ?_); rintro e w' ⟨rfl, ⟨nd, rfl⟩⟩; refine ⟨_, rfl, ?_⟩) | ((with_reducible refine gate_callee (f := 19) rfl ?_); refine goesL_ (some 18) rfl rfl Try.func19 (by kernel_rfl) rfl #[.int .i64 a0] rfl (by (try simp only [List.map_toArray, List.map_cons, List.map_nil]); first | done | rfl | (simp only [List.length_drop, List.length_take]; rfl)) ?_; (with_reducible refine (examboardref09_prefix.calls a0 t116 _ A5.out).mono ?_); rintro e w' ⟨rfl, ⟨nd, rfl⟩⟩; refine ⟨_, rfl, ?_⟩) | ((with_reducible refine gate_callee (f := 20) rfl ?_); refine goesL_ (some 21) rfl rfl Try.func20 (by kernel_rfl) rfl #[.int .i64 a1, .int .i64 7] rfl (by (try simp only [List.map_toArray, List.map_cons, List.map_nil]); first | done | rfl | (simp only [List.length_drop, List.length_take]; rfl)) ?_; (with_reducible refine (examboardref09_digits.calls k a1 7 t117 _ A7.out).mono ?_); rintro e w12 ⟨rfl, hb⟩; refine ⟨_, rfl, ?_⟩; have n0_ := Aside0.mk (below_step (by repeat (first | (with_reducible first | exact HB.out | apply below_alloc | apply pw_below_drewN | apply below_drew1) | exact HB.out)) hb); clear HB; have HB := n0_; clear n0_; (try clear hb); (try clear hb2); (try clear hk); (try clear hi)) | ((with_reducible refine gate_callee (f := 20) rfl ?_); refine goesL_ (some 25) rfl rfl Try.func20 (by kernel_rfl) rfl #[.int .i64 t114, .int .i64 2] rfl (by (try simp only [List.map_toArray, List.map_cons, List.map_nil]); first | done | rfl | (simp only [List.length_drop, List.length_take]; rfl)) ?_; (with_reducible refine (examboardref09_digits.calls k t114 2 t118 _ A10.out).mono ?_); rintro e w13 ⟨rfl, hb⟩; refine ⟨_, rfl, ?_⟩; have n0_ := Aside0.mk (below_step (by repeat (first | (with_reducible first | exact HB.out | apply below_alloc | apply pw_below_drewN | apply below_drew1) | exact HB.out)) hb); clear HB; have HB := n0_; clear n0_; (try clear hb); (try clear hb2); (try clear hk); (try clear hi)))
            go_ret2
            exact ⟨by first | rfl | (simp [errW_none, errW_some] <;> rfl) | (simp [*, errW_none, errW_some] <;> rfl), by repeat (first | (with_reducible first | exact HB.out | apply below_alloc | apply pw_below_drewN | apply below_drew1) | exact HB.out)⟩
          · rw [if_neg c11] at H
            exact absurd H (by simp)
        · rw [if_neg c9] at H
          exact absurd H (by simp)
      · rw [if_neg c8] at H
        exact absurd H (by simp)
    · rw [if_neg c6] at H
      exact absurd H (by simp)
  · rw [if_neg c4] at H
    have c4b0 : (t115 == 0) = false := beq_eq_false_iff_ne.mpr c4
    have c4b1 : (t115 != 0) = true := bne_iff_ne.mpr c4
    simp only [Option.some.injEq, Prod.mk.injEq] at H
    obtain ⟨rfl, rfl⟩ := H
    go_enter Try.func12, Try.ntmps12
    go_wp2_with (first | ((with_reducible refine gate_callee (f := 13) rfl ?_); refine goesL_ (some 11) rfl rfl Try.func13 (by kernel_rfl) rfl #[.int .i64 a0, .int .i64 a1] rfl (by (try simp only [List.map_toArray, List.map_cons, List.map_nil]); first | done | rfl | (simp only [List.length_drop, List.length_take]; rfl)) ?_; (with_reducible refine (examboardref09_Check.calls a0 a1 t114 t115 _ A3.out).mono ?_); rintro e w' ⟨rfl, ⟨nd, rfl⟩⟩; refine ⟨_, rfl, ?_⟩))
    go_ret2
    exact ⟨by first | rfl | (simp [errW_none, errW_some] <;> rfl) | (simp [*, errW_none, errW_some] <;> rfl), by repeat (first | (with_reducible first | exact HB.out | apply below_alloc | apply pw_below_drewN | apply below_drew1) | exact HB.out)⟩

end Go.Proofs.Ytkkdabdceooakaa.QIdent
