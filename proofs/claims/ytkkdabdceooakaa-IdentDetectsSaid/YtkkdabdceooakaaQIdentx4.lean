-- Written by a program of this session.
import Derived.Test.YtkkdabdceooakaaQIdentx0
import Derived.Test.YtkkdabdceooakaaQIdentx1
import Derived.Test.YtkkdabdceooakaaQIdentx2
import Derived.Test.YtkkdabdceooakaaQIdentx3
namespace Go.Proofs.Ytkkdabdceooakaa.QIdent
open Go.RowKit Go.Proofs.YtkkdabdceooakaaW.PrintWords Go.Proofs.YtkkdabdceooakaaW.PrintLast Go.Proofs.YtkkdabdceooakaaW.PrintMore
attribute [local go_sem] max2_int min2_int max_two min_two max_three min_three max_four min_four   -- for this text's walks alone
set_option linter.unusedVariables false
set_option linter.unusedSimpArgs false

/-! ### examboardlaw09_IdentUnique: function 7 -/
def examboardlaw09_IdentUnique.j0 : Nat → ByteArray → Bool → Option (Bool)
  | 0, _, _ => none
  | k + 1, x0, x22 => if x22 = true then (some false) else ((ident_Parse.f k x0).bind fun bt154 => (if bt154.2.2 = 0 then ((ident_Print.f k bt154.1 bt154.2.1).bind fun bt157 => (if bt157.2 = 0 then (if bt157.1.toList = x0.toList then ((examboardlaw09_valid.f bt154.1 bt154.2.1).bind fun t159 => (some t159)) else (some false)) else (some false))) else (if bt154.1 = 0 then (some (bt154.2.1 == 0)) else (some false))))
def examboardlaw09_IdentUnique.f (k : Nat) (a0 : ByteArray) : Option (Bool) := (ident_Parse.f k (⟨#[73, 84, 77, 45, 48, 48, 48, 48, 48, 48, 49, 45, 54, 49]⟩ : ByteArray)).bind fun bt151 => (if bt151.1 = 1 then (if bt151.2.1 = 1 then (examboardlaw09_IdentUnique.j0 k a0 (bt151.2.2 != 0)) else (examboardlaw09_IdentUnique.j0 k a0 true)) else (examboardlaw09_IdentUnique.j0 k a0 true))
theorem examboardlaw09_IdentUnique.mono_l : ∀ k, (∀ y0 y1, LeO (examboardlaw09_IdentUnique.j0 k y0 y1) (examboardlaw09_IdentUnique.j0 (k + 1) y0 y1))
  | 0 => fun _ _ r h => by simp [examboardlaw09_IdentUnique.j0] at h
  | k + 1 => by
    have ih0 := examboardlaw09_IdentUnique.mono_l k
    · intro y0 y1
      unfold examboardlaw09_IdentUnique.j0
      repeat' first
      | (with_reducible exact ih0 _ _)
      | (with_reducible exact ident_Parse.mono _ _)
      | (with_reducible exact ident_Print.mono _ _ _)
      | (with_reducible exact LeO.refl _)
      | (with_reducible exact LeO.none _)
      | (with_reducible refine LeO.ite ?_ ?_)
      | (with_reducible refine LeO.bind ?_ (fun _ => ?_))
      | exact ih0 _ _
      | exact ident_Parse.mono _ _
      | exact ident_Print.mono _ _ _
      | exact LeO.none _
      | refine LeO.ite ?_ ?_
      | refine LeO.bind ?_ (fun _ => ?_)
theorem examboardlaw09_IdentUnique.mono : ∀ a0 k, LeO (examboardlaw09_IdentUnique.f k a0) (examboardlaw09_IdentUnique.f (k + 1) a0) := by
  intro a0 k
  have ih0 := examboardlaw09_IdentUnique.mono_l k
  unfold examboardlaw09_IdentUnique.f
  repeat' first
      | (with_reducible exact ih0 _ _)
      | (with_reducible exact ident_Parse.mono _ _)
      | (with_reducible exact ident_Print.mono _ _ _)
      | (with_reducible exact LeO.refl _)
      | (with_reducible exact LeO.none _)
      | (with_reducible refine LeO.ite ?_ ?_)
      | (with_reducible refine LeO.bind ?_ (fun _ => ?_))
      | exact ih0 _ _
      | exact ident_Parse.mono _ _
      | exact ident_Print.mono _ _ _
      | exact LeO.none _
      | refine LeO.ite ?_ ?_
      | refine LeO.bind ?_ (fun _ => ?_)
set_option maxHeartbeats 8000000 in
set_option maxRecDepth 100000 in
theorem examboardlaw09_IdentUnique.calls (k : Nat) (a0 : ByteArray) (r : Bool) (w : World) (h : examboardlaw09_IdentUnique.f k a0 = some r) :
    Calls Try.prog 7 #[.string a0] w fun e w' => e = .returned (.bool r) ∧ Below w.heap.size w w' := by
  have HB := Aside0.mk (Below.refl w.heap.size w)
  have H : ((ident_Parse.f k (⟨#[73, 84, 77, 45, 48, 48, 48, 48, 48, 48, 49, 45, 54, 49]⟩ : ByteArray)).bind fun bt151 => (if bt151.1 = 1 then (if bt151.2.1 = 1 then (examboardlaw09_IdentUnique.j0 k a0 (bt151.2.2 != 0)) else (examboardlaw09_IdentUnique.j0 k a0 true)) else (examboardlaw09_IdentUnique.j0 k a0 true))) = some r := h
  clear h
  replace H := Option.bind_eq_some_iff.mp H
  obtain ⟨⟨t151, t152, t153⟩, A20, H⟩ := H
  replace H : (if t151 = 1 then (if t152 = 1 then (examboardlaw09_IdentUnique.j0 k a0 (t153 != 0)) else (examboardlaw09_IdentUnique.j0 k a0 true)) else (examboardlaw09_IdentUnique.j0 k a0 true)) = some r := H
  have A2 := Aside0.mk A20
  clear A20
  have HC3 := Aside0.mk H
  clear H
  go_enter Try.func7, Try.ntmps7
  go_upto_region 2 with (first | ((with_reducible refine gate_callee (f := 14) rfl ?_); refine goesL_ (some 9) rfl rfl Try.func14 (by kernel_rfl) rfl #[.string (⟨#[73, 84, 77, 45, 48, 48, 48, 48, 48, 48, 49, 45, 54, 49]⟩ : ByteArray)] rfl (by (try simp only [List.map_toArray, List.map_cons, List.map_nil]); first | done | rfl | (simp only [List.length_drop, List.length_take]; rfl)) ?_; (with_reducible refine (ident_Parse.calls k (⟨#[73, 84, 77, 45, 48, 48, 48, 48, 48, 48, 49, 45, 54, 49]⟩ : ByteArray) t151 t152 t153 _ A2.out).mono ?_); rintro e w4 ⟨rfl, hb⟩; refine ⟨_, rfl, ?_⟩; have n0_ := Aside0.mk (below_step (by repeat (first | (with_reducible first | exact HB.out | apply below_alloc | apply pw_below_drewN | apply below_drew1) | exact HB.out)) hb); clear HB; have HB := n0_; clear n0_; (try clear hb); (try clear hb2); (try clear hk); (try clear hi)))
  (try simp only [Act.put, List.setIfInBounds_toArray, List.set_cons_zero, List.set_cons_succ])
  go_cut [22] (fun v22 wc => ∃ (kq : Nat) (x22_2 : Bool), v22 = .bool x22_2 ∧ Aside0 (examboardlaw09_IdentUnique.j0 kq a0 x22_2 = some r) ∧ Aside0 (kq ≤ k) ∧ Aside0 (Below w.heap.size w wc))
  case first =>
    have H := HC3.out
    clear HC3
    by_cases c5 : t151 = 1
    · rw [if_pos c5] at H
      have c5b0 : (t151 == 1) = true := beq_iff_eq.mpr c5
      have c5b1 : (t151 != 1) = false := bne_eq_false_iff_eq.mpr c5
      clear c5
      (first | rw [c5b0] | (simp only [i64_w, i32_w]; rw [c5b0]) | skip)
      by_cases c6 : t152 = 1
      · rw [if_pos c6] at H
        have c6b0 : (t152 == 1) = true := beq_iff_eq.mpr c6
        have c6b1 : (t152 != 1) = false := bne_eq_false_iff_eq.mpr c6
        clear c6
        have H' := Aside0.mk H
        clear H
        go_wp2
        go_meet
        case rel => exact ⟨_, ((t153 != 0)), (by first | rfl | (simp; done) | (simp [*]; done)), H', ⟨by first | omega | exact Nat.le_refl _⟩, ⟨by repeat (first | (with_reducible first | exact HB.out | apply below_alloc | apply pw_below_drewN | apply below_drew1) | exact HB.out)⟩⟩
      · rw [if_neg c6] at H
        have c6b0 : (t152 == 1) = false := beq_eq_false_iff_ne.mpr c6
        have c6b1 : (t152 != 1) = true := bne_iff_ne.mpr c6
        have H' := Aside0.mk H
        clear H
        go_wp2
        go_meet
        case rel => exact ⟨_, (true), (by first | rfl | (simp; done) | (simp [*]; done)), H', ⟨by first | omega | exact Nat.le_refl _⟩, ⟨by repeat (first | (with_reducible first | exact HB.out | apply below_alloc | apply pw_below_drewN | apply below_drew1) | exact HB.out)⟩⟩
    · rw [if_neg c5] at H
      have c5b0 : (t151 == 1) = false := beq_eq_false_iff_ne.mpr c5
      have c5b1 : (t151 != 1) = true := bne_iff_ne.mpr c5
      (first | rw [c5b0] | (simp only [i64_w, i32_w]; rw [c5b0]) | skip)
      have H' := Aside0.mk H
      clear H
      go_wp2
      go_meet
      case rel => exact ⟨_, (true), (by first | rfl | (simp; done) | (simp [*]; done)), H', ⟨by first | omega | exact Nat.le_refl _⟩, ⟨by repeat (first | (with_reducible first | exact HB.out | apply below_alloc | apply pw_below_drewN | apply below_drew1) | exact HB.out)⟩⟩
  case rest =>
    clear HC3
    try clear c1
    try clear p2
    try clear c5
    try clear c5b0
    try clear c5b1
    try clear c6
    try clear c6b0
    try clear c6b1
    obtain ⟨kq, x22_2, rfl, HA, HJ2, HB⟩ := hcut
    cases kq with
    | zero => exact absurd HA.out (by simp [examboardlaw09_IdentUnique.j0])
    | succ kj2 =>
      have H := HA.out
      clear HA
      simp only [examboardlaw09_IdentUnique.j0] at H
      by_cases c7 : x22_2 = true
      · subst c7
        have H1 : (some false) = some r := by rw [if_pos rfl] at H; exact H
        clear H
        have H := H1
        clear H1
        obtain rfl := Option.some.inj H
        go_wp2
        go_ret
        exact ⟨by first | rfl | (simp [errW_none, errW_some] <;> rfl) | (simp [*, errW_none, errW_some] <;> rfl), by repeat (first | (with_reducible first | exact HB.out | apply below_alloc | apply pw_below_drewN | apply below_drew1) | exact HB.out)⟩
      · replace c7 := Bool.eq_false_iff.mpr c7
        subst c7
        have H1 : ((ident_Parse.f kj2 a0).bind fun bt154 => (if bt154.2.2 = 0 then ((ident_Print.f kj2 bt154.1 bt154.2.1).bind fun bt157 => (if bt157.2 = 0 then (if bt157.1.toList = a0.toList then ((examboardlaw09_valid.f bt154.1 bt154.2.1).bind fun t159 => (some t159)) else (some false)) else (some false))) else (if bt154.1 = 0 then (some (bt154.2.1 == 0)) else (some false)))) = some r := by rw [if_neg (show ¬ (false = true) by decide)] at H; exact H
        clear H
        have H := H1
        clear H1
        replace H := Option.bind_eq_some_iff.mp H
        obtain ⟨⟨t154, t155, t156⟩, A80, H⟩ := H
        replace H : (if t156 = 0 then ((ident_Print.f kj2 t154 t155).bind fun bt157 => (if bt157.2 = 0 then (if bt157.1.toList = a0.toList then ((examboardlaw09_valid.f t154 t155).bind fun t159 => (some t159)) else (some false)) else (some false))) else (if t154 = 0 then (some (t155 == 0)) else (some false))) = some r := H
        have A8 := Aside0.mk A80
        clear A80
        by_cases c9 : t156 = 0
        · rw [if_pos c9] at H
          have c9b0 : (t156 == 0) = true := beq_iff_eq.mpr c9
          have c9b1 : (t156 != 0) = false := bne_eq_false_iff_eq.mpr c9
          clear c9
          replace H := Option.bind_eq_some_iff.mp H
          obtain ⟨⟨t157, t158⟩, A100, H⟩ := H
          replace H : (if t158 = 0 then (if t157.toList = a0.toList then ((examboardlaw09_valid.f t154 t155).bind fun t159 => (some t159)) else (some false)) else (some false)) = some r := H
          have A10 := Aside0.mk A100
          clear A100
          by_cases c11 : t158 = 0
          · rw [if_pos c11] at H
            have c11b0 : (t158 == 0) = true := beq_iff_eq.mpr c11
            have c11b1 : (t158 != 0) = false := bne_eq_false_iff_eq.mpr c11
            clear c11
            by_cases c12 : t157.toList = a0.toList
            · rw [if_pos c12] at H
              have c12b0 : (t157.toList == a0.toList) = true := beq_iff_eq.mpr c12
              have c12b1 : (t157.toList != a0.toList) = false := bne_eq_false_iff_eq.mpr c12
              clear c12
              replace H := Option.bind_eq_some_iff.mp H
              obtain ⟨t159, A130, H⟩ := H
              replace H : (some t159) = some r := H
              have A13 := Aside0.mk A130
              clear A130
              obtain rfl := Option.some.inj H
              go_wp2_with (first | ((with_reducible refine gate_callee (f := 14) rfl ?_); refine goesL_ (some 25) rfl rfl Try.func14 (by kernel_rfl) rfl #[.string a0] rfl (by (try simp only [List.map_toArray, List.map_cons, List.map_nil]); first | done | rfl | (simp only [List.length_drop, List.length_take]; rfl)) ?_; (with_reducible refine (ident_Parse.calls kj2 a0 t154 t155 t156 _ A8.out).mono ?_); rintro e w14 ⟨rfl, hb⟩; refine ⟨_, rfl, ?_⟩; have n0_ := Aside0.mk (below_step (by repeat (first | (with_reducible first | exact HB.out | apply below_alloc | apply pw_below_drewN | apply below_drew1) | exact HB.out)) hb); clear HB; have HB := n0_; clear n0_; (try clear hb); (try clear hb2); (try clear hk); (try clear hi)) | ((with_reducible refine gate_callee (f := 11) rfl ?_); refine goesL_ (some 40) rfl rfl Try.func11 (by kernel_rfl) rfl #[.int .i64 t154, .int .i64 t155] rfl (by (try simp only [List.map_toArray, List.map_cons, List.map_nil]); first | done | rfl | (simp only [List.length_drop, List.length_take]; rfl)) ?_; (with_reducible refine (ident_Print.calls kj2 t154 t155 t157 t158 _ A10.out).mono ?_); rintro e w15 ⟨rfl, hb⟩; refine ⟨_, rfl, ?_⟩; have n0_ := Aside0.mk (below_step (by repeat (first | (with_reducible first | exact HB.out | apply below_alloc | apply pw_below_drewN | apply below_drew1) | exact HB.out)) hb); clear HB; have HB := n0_; clear n0_; (try clear hb); (try clear hb2); (try clear hk); (try clear hi)) | (go_at_call 9; (with_reducible refine (examboardlaw09_valid.calls t154 t155 t159 _ A13.out).mono ?_); rintro e w' ⟨rfl, ⟨nd, rfl⟩⟩))
              go_ret
              exact ⟨by first | rfl | (simp [errW_none, errW_some] <;> rfl) | (simp [*, errW_none, errW_some] <;> rfl), by repeat (first | (with_reducible first | exact HB.out | apply below_alloc | apply pw_below_drewN | apply below_drew1) | exact HB.out)⟩
            · rw [if_neg c12] at H
              have c12b0 : (t157.toList == a0.toList) = false := beq_eq_false_iff_ne.mpr c12
              have c12b1 : (t157.toList != a0.toList) = true := bne_iff_ne.mpr c12
              obtain rfl := Option.some.inj H
              go_wp2_with (first | ((with_reducible refine gate_callee (f := 14) rfl ?_); refine goesL_ (some 25) rfl rfl Try.func14 (by kernel_rfl) rfl #[.string a0] rfl (by (try simp only [List.map_toArray, List.map_cons, List.map_nil]); first | done | rfl | (simp only [List.length_drop, List.length_take]; rfl)) ?_; (with_reducible refine (ident_Parse.calls kj2 a0 t154 t155 t156 _ A8.out).mono ?_); rintro e w16 ⟨rfl, hb⟩; refine ⟨_, rfl, ?_⟩; have n0_ := Aside0.mk (below_step (by repeat (first | (with_reducible first | exact HB.out | apply below_alloc | apply pw_below_drewN | apply below_drew1) | exact HB.out)) hb); clear HB; have HB := n0_; clear n0_; (try clear hb); (try clear hb2); (try clear hk); (try clear hi)) | ((with_reducible refine gate_callee (f := 11) rfl ?_); refine goesL_ (some 40) rfl rfl Try.func11 (by kernel_rfl) rfl #[.int .i64 t154, .int .i64 t155] rfl (by (try simp only [List.map_toArray, List.map_cons, List.map_nil]); first | done | rfl | (simp only [List.length_drop, List.length_take]; rfl)) ?_; (with_reducible refine (ident_Print.calls kj2 t154 t155 t157 t158 _ A10.out).mono ?_); rintro e w17 ⟨rfl, hb⟩; refine ⟨_, rfl, ?_⟩; have n0_ := Aside0.mk (below_step (by repeat (first | (with_reducible first | exact HB.out | apply below_alloc | apply pw_below_drewN | apply below_drew1) | exact HB.out)) hb); clear HB; have HB := n0_; clear n0_; (try clear hb); (try clear hb2); (try clear hk); (try clear hi)))
              go_ret
              exact ⟨by first | rfl | (simp [errW_none, errW_some] <;> rfl) | (simp [*, errW_none, errW_some] <;> rfl), by repeat (first | (with_reducible first | exact HB.out | apply below_alloc | apply pw_below_drewN | apply below_drew1) | exact HB.out)⟩
          · rw [if_neg c11] at H
            have c11b0 : (t158 == 0) = false := beq_eq_false_iff_ne.mpr c11
            have c11b1 : (t158 != 0) = true := bne_iff_ne.mpr c11
            obtain rfl := Option.some.inj H
            go_wp2_with (first | ((with_reducible refine gate_callee (f := 14) rfl ?_); refine goesL_ (some 25) rfl rfl Try.func14 (by kernel_rfl) rfl #[.string a0] rfl (by (try simp only [List.map_toArray, List.map_cons, List.map_nil]); first | done | rfl | (simp only [List.length_drop, List.length_take]; rfl)) ?_; (with_reducible refine (ident_Parse.calls kj2 a0 t154 t155 t156 _ A8.out).mono ?_); rintro e w18 ⟨rfl, hb⟩; refine ⟨_, rfl, ?_⟩; have n0_ := Aside0.mk (below_step (by repeat (first | (with_reducible first | exact HB.out | apply below_alloc | apply pw_below_drewN | apply below_drew1) | exact HB.out)) hb); clear HB; have HB := n0_; clear n0_; (try clear hb); (try clear hb2); (try clear hk); (try clear hi)) | ((with_reducible refine gate_callee (f := 11) rfl ?_); refine goesL_ (some 40) rfl rfl Try.func11 (by kernel_rfl) rfl #[.int .i64 t154, .int .i64 t155] rfl (by (try simp only [List.map_toArray, List.map_cons, List.map_nil]); first | done | rfl | (simp only [List.length_drop, List.length_take]; rfl)) ?_; (with_reducible refine (ident_Print.calls kj2 t154 t155 t157 t158 _ A10.out).mono ?_); rintro e w19 ⟨rfl, hb⟩; refine ⟨_, rfl, ?_⟩; have n0_ := Aside0.mk (below_step (by repeat (first | (with_reducible first | exact HB.out | apply below_alloc | apply pw_below_drewN | apply below_drew1) | exact HB.out)) hb); clear HB; have HB := n0_; clear n0_; (try clear hb); (try clear hb2); (try clear hk); (try clear hi)))
            go_ret
            exact ⟨by first | rfl | (simp [errW_none, errW_some] <;> rfl) | (simp [*, errW_none, errW_some] <;> rfl), by repeat (first | (with_reducible first | exact HB.out | apply below_alloc | apply pw_below_drewN | apply below_drew1) | exact HB.out)⟩
        · rw [if_neg c9] at H
          have c9b0 : (t156 == 0) = false := beq_eq_false_iff_ne.mpr c9
          have c9b1 : (t156 != 0) = true := bne_iff_ne.mpr c9
          by_cases c20 : t154 = 0
          · rw [if_pos c20] at H
            have c20b0 : (t154 == 0) = true := beq_iff_eq.mpr c20
            have c20b1 : (t154 != 0) = false := bne_eq_false_iff_eq.mpr c20
            clear c20
            obtain rfl := Option.some.inj H
            go_wp2_with (first | ((with_reducible refine gate_callee (f := 14) rfl ?_); refine goesL_ (some 25) rfl rfl Try.func14 (by kernel_rfl) rfl #[.string a0] rfl (by (try simp only [List.map_toArray, List.map_cons, List.map_nil]); first | done | rfl | (simp only [List.length_drop, List.length_take]; rfl)) ?_; (with_reducible refine (ident_Parse.calls kj2 a0 t154 t155 t156 _ A8.out).mono ?_); rintro e w21 ⟨rfl, hb⟩; refine ⟨_, rfl, ?_⟩; have n0_ := Aside0.mk (below_step (by repeat (first | (with_reducible first | exact HB.out | apply below_alloc | apply pw_below_drewN | apply below_drew1) | exact HB.out)) hb); clear HB; have HB := n0_; clear n0_; (try clear hb); (try clear hb2); (try clear hk); (try clear hi)))
            go_ret
            exact ⟨by first | rfl | (simp [errW_none, errW_some] <;> rfl) | (simp [*, errW_none, errW_some] <;> rfl), by repeat (first | (with_reducible first | exact HB.out | apply below_alloc | apply pw_below_drewN | apply below_drew1) | exact HB.out)⟩
          · rw [if_neg c20] at H
            have c20b0 : (t154 == 0) = false := beq_eq_false_iff_ne.mpr c20
            have c20b1 : (t154 != 0) = true := bne_iff_ne.mpr c20
            obtain rfl := Option.some.inj H
            go_wp2_with (first | ((with_reducible refine gate_callee (f := 14) rfl ?_); refine goesL_ (some 25) rfl rfl Try.func14 (by kernel_rfl) rfl #[.string a0] rfl (by (try simp only [List.map_toArray, List.map_cons, List.map_nil]); first | done | rfl | (simp only [List.length_drop, List.length_take]; rfl)) ?_; (with_reducible refine (ident_Parse.calls kj2 a0 t154 t155 t156 _ A8.out).mono ?_); rintro e w22 ⟨rfl, hb⟩; refine ⟨_, rfl, ?_⟩; have n0_ := Aside0.mk (below_step (by repeat (first | (with_reducible first | exact HB.out | apply below_alloc | apply pw_below_drewN | apply below_drew1) | exact HB.out)) hb); clear HB; have HB := n0_; clear n0_; (try clear hb); (try clear hb2); (try clear hk); (try clear hi)))
            go_ret
            exact ⟨by first | rfl | (simp [errW_none, errW_some] <;> rfl) | (simp [*, errW_none, errW_some] <;> rfl), by repeat (first | (with_reducible first | exact HB.out | apply below_alloc | apply pw_below_drewN | apply below_drew1) | exact HB.out)⟩

/-- THE ONE PURE STATEMENT of examboardlaw09_IdentUnique: yours. -/
def examboardlaw09_IdentUnique.Pure : Prop := ∀ (a0 : ByteArray), a0.size ≤ 140737488351232 → ∃ k, examboardlaw09_IdentUnique.f k a0 = some true
theorem examboardlaw09_IdentUnique.walk (P : examboardlaw09_IdentUnique.Pure) (a0 : ByteArray) (w : World) (w0 : a0.size ≤ 140737488351232) :
    Calls Try.prog 7 #[.string a0] w fun e w' => e = .returned (.bool true) ∧ Below w.heap.size w w' := by
  obtain ⟨k, h⟩ := P a0 w0
  refine (examboardlaw09_IdentUnique.calls k a0 true w h).mono ?_
  rintro e w' ⟨rfl, hd⟩
  exact ⟨rfl, hd⟩

/-! ### examboardlaw09_digitAt: function 16 -/
def examboardlaw09_digitAt.f (a0 : Int) : Option (Int) := if a0 < 7 then (some (wrap64 (4 + a0))) else (some (wrap64 (5 + a0)))
set_option maxHeartbeats 8000000 in
set_option maxRecDepth 100000 in
theorem examboardlaw09_digitAt.calls (a0 : Int) (r : Int) (w : World) (h : examboardlaw09_digitAt.f a0 = some r) :
    Calls Try.prog 16 #[.int .i64 a0] w fun e w' => e = .returned (.int .i64 r) ∧ Drawn0 w w' := by
  have H : (if a0 < 7 then (some (wrap64 (4 + a0))) else (some (wrap64 (5 + a0)))) = some r := h
  clear h
  by_cases c2 : a0 < 7
  · rw [if_pos c2] at H
    have c2b0 : decide (a0 < 7) = true := decide_eq_true c2
    clear c2
    obtain rfl := Option.some.inj H
    go_enter Try.func16, Try.ntmps16
    go_wp2
    go_ret
    exact ⟨by first | rfl | (simp; done) | (simp [*]; done), by repeat (first | exact Drawn0.refl _ | apply Drawn0.step)⟩
  · rw [if_neg c2] at H
    have c2b0 : decide (a0 < 7) = false := decide_eq_false c2
    clear c2
    obtain rfl := Option.some.inj H
    go_enter Try.func16, Try.ntmps16
    go_wp2
    go_ret
    exact ⟨by first | rfl | (simp; done) | (simp [*]; done), by repeat (first | exact Drawn0.refl _ | apply Drawn0.step)⟩

-- NOT PRINTED: function 8 (examboardlaw09_IdentDetects)

end Go.Proofs.Ytkkdabdceooakaa.QIdent
