import Derived.Test.YtkkdabdceooakaaBase3
import Derived.Test.YtkkdabdceooakaaConv2
import Derived.RegionTactic
import Derived.ChangeAlike
namespace Go.Proofs.Ytkkdabdceooakaa.Det
open Go.RowKit Go.Proofs.Ytkkdabdceooakaa.QIdent Go.Proofs.YtkkdabdceooakaaW.PrintWords Go.Proofs.YtkkdabdceooakaaW.PrintLast Go.Proofs.YtkkdabdceooakaaW.PrintMore Go.Proofs.Ytkkdabdceooakaa.Conv Go.Proofs.Ytkkdabdceooakaa.Base
set_option linter.unusedVariables false
set_option linter.unusedSimpArgs false

set_option maxHeartbeats 8000000 in
set_option maxRecDepth 100000 in
theorem walk_out (a n i d : Int) (r : Bool) (w : World) (hv : examboardlaw09_valid.f a n = some r) (hr : r = false ∨ (i < 0 ∨ 8 < i)) :
    Calls Try.prog 8 #[.int .i64 a, .int .i64 n, .int .i64 i, .int .u8 d] w fun e w' => e = .returned (.bool true) ∧ Below w.heap.size w w' := by
  have HV := Aside0.mk hv
  clear hv
  have HB := Aside0.mk (Below.refl w.heap.size w)
  cases r with
  | false =>
    clear hr
    go_enter Try.func8, Try.ntmps8
    go_wp2_with (first | ((with_reducible refine gate_callee (f := 9) rfl ?_); refine goesL_ (some 25) rfl rfl Try.func9 (by kernel_rfl) rfl #[.int .i64 a, .int .i64 n] rfl (by (try simp only [List.map_toArray, List.map_cons, List.map_nil]); first | done | rfl) ?_; (with_reducible refine (examboardlaw09_valid.calls a n false _ HV.out).mono ?_); rintro e w' ⟨rfl, ⟨nd, rfl⟩⟩; refine ⟨_, rfl, ?_⟩))
    go_ret
    exact ⟨rfl, by repeat (first | exact HB.out | apply pw_below_drewN)⟩
  | true =>
    have hr' : i < 0 ∨ 8 < i := hr.resolve_left (by decide)
    clear hr
    by_cases h0 : i < 0
    · have c1 : decide (i < 0) = true := decide_eq_true h0
      clear h0 hr'
      go_enter Try.func8, Try.ntmps8
      go_wp2_with (first | ((with_reducible refine gate_callee (f := 9) rfl ?_); refine goesL_ (some 25) rfl rfl Try.func9 (by kernel_rfl) rfl #[.int .i64 a, .int .i64 n] rfl (by (try simp only [List.map_toArray, List.map_cons, List.map_nil]); first | done | rfl) ?_; (with_reducible refine (examboardlaw09_valid.calls a n true _ HV.out).mono ?_); rintro e w' ⟨rfl, ⟨nd, rfl⟩⟩; refine ⟨_, rfl, ?_⟩))
      go_ret
      exact ⟨rfl, by repeat (first | exact HB.out | apply pw_below_drewN)⟩
    · have c1 : decide (i < 0) = false := decide_eq_false h0
      have c2 : decide (8 < i) = true := decide_eq_true (by omega)
      clear h0 hr'
      go_enter Try.func8, Try.ntmps8
      go_wp2_with (first | ((with_reducible refine gate_callee (f := 9) rfl ?_); refine goesL_ (some 25) rfl rfl Try.func9 (by kernel_rfl) rfl #[.int .i64 a, .int .i64 n] rfl (by (try simp only [List.map_toArray, List.map_cons, List.map_nil]); first | done | rfl) ?_; (with_reducible refine (examboardlaw09_valid.calls a n true _ HV.out).mono ?_); rintro e w' ⟨rfl, ⟨nd, rfl⟩⟩; refine ⟨_, rfl, ?_⟩))
      go_ret
      exact ⟨rfl, by repeat (first | exact HB.out | apply pw_below_drewN)⟩

/-! MAIN -/
variable (k : Nat) (a n i d : Int) (l : List Int) (p q : Nat) (r1 r2 xp xq : Int) (w : World)

set_option maxHeartbeats 8000000 in
set_option maxRecDepth 100000 in
theorem walk_same8 (hv : examboardlaw09_valid.f a n = some true) (hP : ident_Print.f k a n = some (strOfNums l, 0)) (hS : ident_Parse.f k (strOfNums l) = some (r1, r2, 0))
    (hb : Bytes l) (hl : l.length = 14) (h0 : 0 ≤ i) (h8 : i ≤ 8) (hd : examboardlaw09_digitAt.f i = some (p : Int)) (hp : p < 14) (hq : q < 14) (hxp : l.getD p 0 = xp) (hxq : l.getD q 0 = xq) (hd0 : 0 ≤ d) (hd1 : d ≤ 255) (hc : xp = 48 + d % 10) (hi : i = 8) :
    Calls Try.prog 8 #[.int .i64 a, .int .i64 n, .int .i64 i, .int .u8 d] w fun e w' => e = .returned (.bool true) ∧ Below w.heap.size w w' := by
  have HV := Aside0.mk hv
  have HP := Aside0.mk hP
  have HS := Aside0.mk hS
  have HD := Aside0.mk hd
  have HW := Aside0.mk hb
  have HL := Aside0.mk hl
  have HX := Aside0.mk (show p < l.length by rw [hl]; exact hp)
  have HY := Aside0.mk (show q < l.length by rw [hl]; exact hq)
  have HCP := Aside0.mk hxp
  have HCQ := Aside0.mk hxq
  have HZ := Aside0.mk (size_of l)
  have c1 : decide (i < 0) = false := decide_eq_false (by omega)
  have c2 : decide (8 < i) = false := decide_eq_false (by omega)
  have c3 : ((strOfNums l).size == 14) = true := by rw [size_of, hl]; rfl
  have c4 : ((strOfNums l).size != 14) = false := by rw [size_of, hl]; rfl
  have c5 : decide ((p : Int) < 14) = true := decide_eq_true (by omega)
  have c6 : decide (0 ≤ (p : Int)) = true := decide_eq_true (by omega)
  have c7 : decide ((q : Int) < 14) = true := decide_eq_true (by omega)
  have c8 : decide (0 ≤ (q : Int)) = true := decide_eq_true (by omega)
  have e5 : ((p : Int) < 14) = True := eq_true (by omega)
  have e7 : ((q : Int) < 14) = True := eq_true (by omega)
  have c9 : (xp != 48 + d % 10) = false := by rw [hc]; simp
  have c9' : (xp == 48 + d % 10) = true := by rw [hc]; simp
  have c10 : (i == 8) = true := by rw [hi]; rfl
  clear hc hi
  clear hv hP hS hd hb hl h0 h8 hp hq hxp hxq
  have HB := Aside0.mk (Below.refl w.heap.size w)
  go_enter Try.func8, Try.ntmps8
  go_wp2_with (first | ((with_reducible refine gate_callee (f := 9) rfl ?_); refine goesL_ (some 25) rfl rfl Try.func9 (by kernel_rfl) rfl #[.int .i64 a, .int .i64 n] rfl (by (try simp only [List.map_toArray, List.map_cons, List.map_nil]); first | done | rfl) ?_; (with_reducible refine (examboardlaw09_valid.calls a n true _ HV.out).mono ?_); rintro e w' ⟨rfl, ⟨nd, rfl⟩⟩; refine ⟨_, rfl, ?_⟩) | ((with_reducible refine gate_callee (f := 11) rfl ?_); refine goesL_ (some 38) rfl rfl Try.func11 (by kernel_rfl) rfl #[.int .i64 a, .int .i64 n] rfl (by (try simp only [List.map_toArray, List.map_cons, List.map_nil]); first | done | rfl) ?_; (with_reducible refine (ident_Print.calls k a n (strOfNums l) 0 _ HP.out).mono ?_); rintro e w1 ⟨rfl, hb⟩; refine ⟨_, rfl, ?_⟩; have n0_ := Aside0.mk (below_step (by repeat (first | exact HB.out | apply below_alloc | apply pw_below_drewN | apply below_drew1)) hb); clear HB; have HB := n0_; clear n0_ hb) | ((with_reducible refine gate_callee (f := 14) rfl ?_); refine goesL_ (some 50) rfl rfl Try.func14 (by kernel_rfl) rfl #[.string (strOfNums l)] rfl (by (try simp only [List.map_toArray, List.map_cons, List.map_nil]); first | done | rfl) ?_; (with_reducible refine (ident_Parse.calls k (strOfNums l) r1 r2 0 _ HS.out).mono ?_); rintro e w2 ⟨rfl, hb⟩; refine ⟨_, rfl, ?_⟩; have n0_ := Aside0.mk (below_step (by repeat (first | exact HB.out | apply below_alloc | apply pw_below_drewN | apply below_drew1)) hb); clear HB; have HB := n0_; clear n0_ hb) | ((with_reducible refine gate_dst (N := 57) rfl ?_); refine conv_event3 HW.out HL.out rfl rfl rfl Try.underlying9 Try.underlying31 Try.underlying5 ?_; intro w3 c g hrow hg hb; have HR := Aside0.mk hrow; have HG := Aside0.mk (below_size' HB.out hg); have n0_ := Aside0.mk (below_step (by repeat (first | exact HB.out | apply below_alloc | apply pw_below_drewN | apply below_drew1)) hb); clear HB; have HB := n0_; clear n0_ hb; have hx_ := HR.out.cell p HX.out; have hy_ := HR.out.cell q HY.out; have hfx_ := HR.out.thaw p HX.out; have hfy_ := HR.out.thaw q HY.out; rw [HCP.out] at hx_; rw [HCQ.out] at hy_; clear hrow hg) | ((with_reducible refine gate_callee (f := 16) rfl ?_); refine goesL_ (some 59) rfl rfl Try.func16 (by kernel_rfl) rfl #[.int .i64 i] rfl (by (try simp only [List.map_toArray, List.map_cons, List.map_nil]); first | done | rfl) ?_; (with_reducible refine (examboardlaw09_digitAt.calls i (p : Int) _ HD.out).mono ?_); rintro e w' ⟨rfl, ⟨nd, rfl⟩⟩; refine ⟨_, rfl, ?_⟩))
  go_ret
  exact ⟨rfl, by repeat (first | exact HB.out | apply pw_below_drewN)⟩

set_option maxHeartbeats 8000000 in
set_option maxRecDepth 100000 in
theorem walk_diff8 (hv : examboardlaw09_valid.f a n = some true) (hP : ident_Print.f k a n = some (strOfNums l, 0)) (hS : ident_Parse.f k (strOfNums l) = some (r1, r2, 0))
    (hb : Bytes l) (hl : l.length = 14) (h0 : 0 ≤ i) (h8 : i ≤ 8) (hd : examboardlaw09_digitAt.f i = some (p : Int)) (hp : p < 14) (hq : q < 14) (hxp : l.getD p 0 = xp) (hxq : l.getD q 0 = xq) (hd0 : 0 ≤ d) (hd1 : d ≤ 255) (s1 s2 s3 : Int) (hA : ident_Parse.f k (strOfNums (l.set p (48 + d % 10))) = some (s1, s2, s3)) (hs3 : s3 ≠ 0) (hc : xp ≠ 48 + d % 10) (hi : i = 8) :
    Calls Try.prog 8 #[.int .i64 a, .int .i64 n, .int .i64 i, .int .u8 d] w fun e w' => e = .returned (.bool true) ∧ Below w.heap.size w w' := by
  have HV := Aside0.mk hv
  have HP := Aside0.mk hP
  have HS := Aside0.mk hS
  have HD := Aside0.mk hd
  have HW := Aside0.mk hb
  have HL := Aside0.mk hl
  have HX := Aside0.mk (show p < l.length by rw [hl]; exact hp)
  have HY := Aside0.mk (show q < l.length by rw [hl]; exact hq)
  have HCP := Aside0.mk hxp
  have HCQ := Aside0.mk hxq
  have HZ := Aside0.mk (size_of l)
  have c1 : decide (i < 0) = false := decide_eq_false (by omega)
  have c2 : decide (8 < i) = false := decide_eq_false (by omega)
  have c3 : ((strOfNums l).size == 14) = true := by rw [size_of, hl]; rfl
  have c4 : ((strOfNums l).size != 14) = false := by rw [size_of, hl]; rfl
  have c5 : decide ((p : Int) < 14) = true := decide_eq_true (by omega)
  have c6 : decide (0 ≤ (p : Int)) = true := decide_eq_true (by omega)
  have c7 : decide ((q : Int) < 14) = true := decide_eq_true (by omega)
  have c8 : decide (0 ≤ (q : Int)) = true := decide_eq_true (by omega)
  have e5 : ((p : Int) < 14) = True := eq_true (by omega)
  have e7 : ((q : Int) < 14) = True := eq_true (by omega)
  have c9 : (xp != 48 + d % 10) = true := by simpa using hc
  have c9' : (xp == 48 + d % 10) = false := by simpa using hc
  have c10 : (i == 8) = true := by rw [hi]; rfl
  have c11 : (s3 == 0) = false := by simpa using hs3
  have HA := Aside0.mk hA
  clear hc hi hA hs3
  clear hv hP hS hd hb hl h0 h8 hp hq hxp hxq
  have HB := Aside0.mk (Below.refl w.heap.size w)
  go_enter Try.func8, Try.ntmps8
  go_wp2_with (first | ((with_reducible refine gate_callee (f := 9) rfl ?_); refine goesL_ (some 25) rfl rfl Try.func9 (by kernel_rfl) rfl #[.int .i64 a, .int .i64 n] rfl (by (try simp only [List.map_toArray, List.map_cons, List.map_nil]); first | done | rfl) ?_; (with_reducible refine (examboardlaw09_valid.calls a n true _ HV.out).mono ?_); rintro e w' ⟨rfl, ⟨nd, rfl⟩⟩; refine ⟨_, rfl, ?_⟩) | ((with_reducible refine gate_callee (f := 11) rfl ?_); refine goesL_ (some 38) rfl rfl Try.func11 (by kernel_rfl) rfl #[.int .i64 a, .int .i64 n] rfl (by (try simp only [List.map_toArray, List.map_cons, List.map_nil]); first | done | rfl) ?_; (with_reducible refine (ident_Print.calls k a n (strOfNums l) 0 _ HP.out).mono ?_); rintro e w1 ⟨rfl, hb⟩; refine ⟨_, rfl, ?_⟩; have n0_ := Aside0.mk (below_step (by repeat (first | exact HB.out | apply below_alloc | apply pw_below_drewN | apply below_drew1)) hb); clear HB; have HB := n0_; clear n0_ hb) | ((with_reducible refine gate_callee (f := 14) rfl ?_); refine goesL_ (some 50) rfl rfl Try.func14 (by kernel_rfl) rfl #[.string (strOfNums l)] rfl (by (try simp only [List.map_toArray, List.map_cons, List.map_nil]); first | done | rfl) ?_; (with_reducible refine (ident_Parse.calls k (strOfNums l) r1 r2 0 _ HS.out).mono ?_); rintro e w2 ⟨rfl, hb⟩; refine ⟨_, rfl, ?_⟩; have n0_ := Aside0.mk (below_step (by repeat (first | exact HB.out | apply below_alloc | apply pw_below_drewN | apply below_drew1)) hb); clear HB; have HB := n0_; clear n0_ hb) | ((with_reducible refine gate_dst (N := 57) rfl ?_); refine conv_event3 HW.out HL.out rfl rfl rfl Try.underlying9 Try.underlying31 Try.underlying5 ?_; intro w3 c g hrow hg hb; have HR := Aside0.mk hrow; have HG := Aside0.mk (below_size' HB.out hg); have n0_ := Aside0.mk (below_step (by repeat (first | exact HB.out | apply below_alloc | apply pw_below_drewN | apply below_drew1)) hb); clear HB; have HB := n0_; clear n0_ hb; have hx_ := HR.out.cell p HX.out; have hy_ := HR.out.cell q HY.out; have hfx_ := HR.out.thaw p HX.out; have hfy_ := HR.out.thaw q HY.out; rw [HCP.out] at hx_; rw [HCQ.out] at hy_; clear hrow hg) | ((with_reducible refine gate_callee (f := 16) rfl ?_); refine goesL_ (some 59) rfl rfl Try.func16 (by kernel_rfl) rfl #[.int .i64 i] rfl (by (try simp only [List.map_toArray, List.map_cons, List.map_nil]); first | done | rfl) ?_; (with_reducible refine (examboardlaw09_digitAt.calls i (p : Int) _ HD.out).mono ?_); rintro e w' ⟨rfl, ⟨nd, rfl⟩⟩; refine ⟨_, rfl, ?_⟩) | ((with_reducible refine gate_store (t := 5) (p := 73) rfl ?_); refine store_row (c := 48 + d % 10) (by repeat (first | exact HR.out | apply RowA.drewN)) HX.out rfl rfl rfl ?hr ?_; (case hr => first | (go_simp; done) | (go_simp; rfl)); intro w12 hr2 hb2; have HR2 := Aside0.mk hr2; have n0_ := Aside0.mk (hb2 w (by repeat (first | exact HB.out | apply pw_below_drewN)) HG.out); clear HB hb2 hr2; have HB := n0_; clear n0_; have hcv_ := RowA.string (c := c) HR2.out Try.underlying31 Try.underlying5 Try.underlying9; rw [List.length_set, HL.out] at hcv_; clear hx_ hy_ hfx_ hfy_) | ((with_reducible refine gate_callee (f := 14) rfl ?_); refine goesL_ (some 77) rfl rfl Try.func14 (by kernel_rfl) rfl #[.string (strOfNums (l.set p (48 + d % 10)))] rfl (by (try simp only [List.map_toArray, List.map_cons, List.map_nil]); first | done | rfl) ?_; (with_reducible refine (ident_Parse.calls k (strOfNums (l.set p (48 + d % 10))) s1 s2 s3 _ HA.out).mono ?_); rintro e w2 ⟨rfl, hb⟩; refine ⟨_, rfl, ?_⟩; (try clear hcv_); have n0_ := Aside0.mk (below_step (by repeat (first | exact HB.out | apply below_alloc | apply pw_below_drewN | apply below_drew1)) hb); clear HB; have HB := n0_; clear n0_ hb))
  go_ret
  exact ⟨rfl, by repeat (first | exact HB.out | apply pw_below_drewN)⟩

set_option maxHeartbeats 8000000 in
set_option maxRecDepth 100000 in
theorem walk_same_eq (hv : examboardlaw09_valid.f a n = some true) (hP : ident_Print.f k a n = some (strOfNums l, 0)) (hS : ident_Parse.f k (strOfNums l) = some (r1, r2, 0))
    (hb : Bytes l) (hl : l.length = 14) (h0 : 0 ≤ i) (h8 : i ≤ 8) (hd : examboardlaw09_digitAt.f i = some (p : Int)) (hp : p < 14) (hq : q < 14) (hxp : l.getD p 0 = xp) (hxq : l.getD q 0 = xq) (hd0 : 0 ≤ d) (hd1 : d ≤ 255) (hc : xp = 48 + d % 10) (hi : i < 8) (hd2 : examboardlaw09_digitAt.f (i + 1) = some (q : Int)) (he : xp = xq) :
    Calls Try.prog 8 #[.int .i64 a, .int .i64 n, .int .i64 i, .int .u8 d] w fun e w' => e = .returned (.bool true) ∧ Below w.heap.size w w' := by
  have HV := Aside0.mk hv
  have HP := Aside0.mk hP
  have HS := Aside0.mk hS
  have HD := Aside0.mk hd
  have HW := Aside0.mk hb
  have HL := Aside0.mk hl
  have HX := Aside0.mk (show p < l.length by rw [hl]; exact hp)
  have HY := Aside0.mk (show q < l.length by rw [hl]; exact hq)
  have HCP := Aside0.mk hxp
  have HCQ := Aside0.mk hxq
  have HZ := Aside0.mk (size_of l)
  have c1 : decide (i < 0) = false := decide_eq_false (by omega)
  have c2 : decide (8 < i) = false := decide_eq_false (by omega)
  have c3 : ((strOfNums l).size == 14) = true := by rw [size_of, hl]; rfl
  have c4 : ((strOfNums l).size != 14) = false := by rw [size_of, hl]; rfl
  have c5 : decide ((p : Int) < 14) = true := decide_eq_true (by omega)
  have c6 : decide (0 ≤ (p : Int)) = true := decide_eq_true (by omega)
  have c7 : decide ((q : Int) < 14) = true := decide_eq_true (by omega)
  have c8 : decide (0 ≤ (q : Int)) = true := decide_eq_true (by omega)
  have e5 : ((p : Int) < 14) = True := eq_true (by omega)
  have e7 : ((q : Int) < 14) = True := eq_true (by omega)
  have c9 : (xp != 48 + d % 10) = false := by rw [hc]; simp
  have c9' : (xp == 48 + d % 10) = true := by rw [hc]; simp
  clear hc
  have c10 : (i == 8) = false := by simp; omega
  have c12 : wrap64 (i + 1) = i + 1 := w64 _ (by omega) (by omega)
  have HD2 := Aside0.mk hd2
  have c13 : (xp == xq) = true := by rw [he]; simp
  have c14 : 0 ≤ i + 1 := by omega
  have c15 : i + 1 ≤ 8 := by omega
  clear hi hd2 he
  clear hv hP hS hd hb hl h0 h8 hp hq hxp hxq
  have HB := Aside0.mk (Below.refl w.heap.size w)
  go_enter Try.func8, Try.ntmps8
  go_wp2_with (first | ((with_reducible refine gate_callee (f := 9) rfl ?_); refine goesL_ (some 25) rfl rfl Try.func9 (by kernel_rfl) rfl #[.int .i64 a, .int .i64 n] rfl (by (try simp only [List.map_toArray, List.map_cons, List.map_nil]); first | done | rfl) ?_; (with_reducible refine (examboardlaw09_valid.calls a n true _ HV.out).mono ?_); rintro e w' ⟨rfl, ⟨nd, rfl⟩⟩; refine ⟨_, rfl, ?_⟩) | ((with_reducible refine gate_callee (f := 11) rfl ?_); refine goesL_ (some 38) rfl rfl Try.func11 (by kernel_rfl) rfl #[.int .i64 a, .int .i64 n] rfl (by (try simp only [List.map_toArray, List.map_cons, List.map_nil]); first | done | rfl) ?_; (with_reducible refine (ident_Print.calls k a n (strOfNums l) 0 _ HP.out).mono ?_); rintro e w1 ⟨rfl, hb⟩; refine ⟨_, rfl, ?_⟩; have n0_ := Aside0.mk (below_step (by repeat (first | exact HB.out | apply below_alloc | apply pw_below_drewN | apply below_drew1)) hb); clear HB; have HB := n0_; clear n0_ hb) | ((with_reducible refine gate_callee (f := 14) rfl ?_); refine goesL_ (some 50) rfl rfl Try.func14 (by kernel_rfl) rfl #[.string (strOfNums l)] rfl (by (try simp only [List.map_toArray, List.map_cons, List.map_nil]); first | done | rfl) ?_; (with_reducible refine (ident_Parse.calls k (strOfNums l) r1 r2 0 _ HS.out).mono ?_); rintro e w2 ⟨rfl, hb⟩; refine ⟨_, rfl, ?_⟩; have n0_ := Aside0.mk (below_step (by repeat (first | exact HB.out | apply below_alloc | apply pw_below_drewN | apply below_drew1)) hb); clear HB; have HB := n0_; clear n0_ hb) | ((with_reducible refine gate_dst (N := 57) rfl ?_); refine conv_event3 HW.out HL.out rfl rfl rfl Try.underlying9 Try.underlying31 Try.underlying5 ?_; intro w3 c g hrow hg hb; have HR := Aside0.mk hrow; have HG := Aside0.mk (below_size' HB.out hg); have n0_ := Aside0.mk (below_step (by repeat (first | exact HB.out | apply below_alloc | apply pw_below_drewN | apply below_drew1)) hb); clear HB; have HB := n0_; clear n0_ hb; have hx_ := HR.out.cell p HX.out; have hy_ := HR.out.cell q HY.out; have hfx_ := HR.out.thaw p HX.out; have hfy_ := HR.out.thaw q HY.out; rw [HCP.out] at hx_; rw [HCQ.out] at hy_; clear hrow hg) | ((with_reducible refine gate_callee (f := 16) rfl ?_); refine goesL_ (some 59) rfl rfl Try.func16 (by kernel_rfl) rfl #[.int .i64 i] rfl (by (try simp only [List.map_toArray, List.map_cons, List.map_nil]); first | done | rfl) ?_; (with_reducible refine (examboardlaw09_digitAt.calls i (p : Int) _ HD.out).mono ?_); rintro e w' ⟨rfl, ⟨nd, rfl⟩⟩; refine ⟨_, rfl, ?_⟩) | ((with_reducible refine gate_dst (N := 86) rfl ?_); refine conv_event3 HW.out HL.out rfl rfl rfl Try.underlying9 Try.underlying31 Try.underlying5 ?_; intro w3 c g hrow hg hb; have HR := Aside0.mk hrow; have HG := Aside0.mk (below_size' HB.out hg); have n0_ := Aside0.mk (below_step (by repeat (first | exact HB.out | apply below_alloc | apply pw_below_drewN | apply below_drew1)) hb); clear HB; have HB := n0_; clear n0_ hb; have hx_ := HR.out.cell p HX.out; have hy_ := HR.out.cell q HY.out; have hfx_ := HR.out.thaw p HX.out; have hfy_ := HR.out.thaw q HY.out; rw [HCP.out] at hx_; rw [HCQ.out] at hy_; clear hrow hg) | ((with_reducible refine gate_callee (f := 16) rfl ?_); refine goesL_ (some 89) rfl rfl Try.func16 (by kernel_rfl) rfl #[.int .i64 (i + 1)] rfl (by (try simp only [List.map_toArray, List.map_cons, List.map_nil]); first | done | rfl) ?_; (with_reducible refine (examboardlaw09_digitAt.calls (i + 1) (q : Int) _ HD2.out).mono ?_); rintro e w' ⟨rfl, ⟨nd, rfl⟩⟩; refine ⟨_, rfl, ?_⟩))
  go_quiet (fail)
  go_wp2
  go_ret
  exact ⟨rfl, by repeat (first | exact HB.out | apply pw_below_drewN | apply below_drew1)⟩

set_option maxHeartbeats 8000000 in
set_option maxRecDepth 100000 in
theorem walk_same_ne (hv : examboardlaw09_valid.f a n = some true) (hP : ident_Print.f k a n = some (strOfNums l, 0)) (hS : ident_Parse.f k (strOfNums l) = some (r1, r2, 0))
    (hb : Bytes l) (hl : l.length = 14) (h0 : 0 ≤ i) (h8 : i ≤ 8) (hd : examboardlaw09_digitAt.f i = some (p : Int)) (hp : p < 14) (hq : q < 14) (hxp : l.getD p 0 = xp) (hxq : l.getD q 0 = xq) (hd0 : 0 ≤ d) (hd1 : d ≤ 255) (hc : xp = 48 + d % 10) (hi : i < 8) (hd2 : examboardlaw09_digitAt.f (i + 1) = some (q : Int)) (he : xp ≠ xq) (hpq : p ≠ q) (t1 t2 t3 : Int) (hE : ident_Parse.f k (strOfNums ((l.set p xq).set q xp)) = some (t1, t2, t3)) (ht3 : t3 ≠ 0)  :
    Calls Try.prog 8 #[.int .i64 a, .int .i64 n, .int .i64 i, .int .u8 d] w fun e w' => e = .returned (.bool true) ∧ Below w.heap.size w w' := by
  have HV := Aside0.mk hv
  have HP := Aside0.mk hP
  have HS := Aside0.mk hS
  have HD := Aside0.mk hd
  have HW := Aside0.mk hb
  have HL := Aside0.mk hl
  have HX := Aside0.mk (show p < l.length by rw [hl]; exact hp)
  have HY := Aside0.mk (show q < l.length by rw [hl]; exact hq)
  have HCP := Aside0.mk hxp
  have HCQ := Aside0.mk hxq
  have HZ := Aside0.mk (size_of l)
  have c1 : decide (i < 0) = false := decide_eq_false (by omega)
  have c2 : decide (8 < i) = false := decide_eq_false (by omega)
  have c3 : ((strOfNums l).size == 14) = true := by rw [size_of, hl]; rfl
  have c4 : ((strOfNums l).size != 14) = false := by rw [size_of, hl]; rfl
  have c5 : decide ((p : Int) < 14) = true := decide_eq_true (by omega)
  have c6 : decide (0 ≤ (p : Int)) = true := decide_eq_true (by omega)
  have c7 : decide ((q : Int) < 14) = true := decide_eq_true (by omega)
  have c8 : decide (0 ≤ (q : Int)) = true := decide_eq_true (by omega)
  have e5 : ((p : Int) < 14) = True := eq_true (by omega)
  have e7 : ((q : Int) < 14) = True := eq_true (by omega)
  have c9 : (xp != 48 + d % 10) = false := by rw [hc]; simp
  have c9' : (xp == 48 + d % 10) = true := by rw [hc]; simp
  clear hc
  have c10 : (i == 8) = false := by simp; omega
  have c12 : wrap64 (i + 1) = i + 1 := w64 _ (by omega) (by omega)
  have HD2 := Aside0.mk hd2
  have c13 : (xp == xq) = false := by simpa using he
  have c16 : (t3 != 0) = true := by simpa using ht3
  have HE := Aside0.mk hE
  clear hE ht3
  have c14 : 0 ≤ i + 1 := by omega
  have c15 : i + 1 ≤ 8 := by omega
  clear hi hd2 he
  clear hv hP hS hd hb hl h0 h8 hp hq hxp hxq
  have HB := Aside0.mk (Below.refl w.heap.size w)
  go_enter Try.func8, Try.ntmps8
  go_wp2_with (first | ((with_reducible refine gate_callee (f := 9) rfl ?_); refine goesL_ (some 25) rfl rfl Try.func9 (by kernel_rfl) rfl #[.int .i64 a, .int .i64 n] rfl (by (try simp only [List.map_toArray, List.map_cons, List.map_nil]); first | done | rfl) ?_; (with_reducible refine (examboardlaw09_valid.calls a n true _ HV.out).mono ?_); rintro e w' ⟨rfl, ⟨nd, rfl⟩⟩; refine ⟨_, rfl, ?_⟩) | ((with_reducible refine gate_callee (f := 11) rfl ?_); refine goesL_ (some 38) rfl rfl Try.func11 (by kernel_rfl) rfl #[.int .i64 a, .int .i64 n] rfl (by (try simp only [List.map_toArray, List.map_cons, List.map_nil]); first | done | rfl) ?_; (with_reducible refine (ident_Print.calls k a n (strOfNums l) 0 _ HP.out).mono ?_); rintro e w1 ⟨rfl, hb⟩; refine ⟨_, rfl, ?_⟩; have n0_ := Aside0.mk (below_step (by repeat (first | exact HB.out | apply below_alloc | apply pw_below_drewN | apply below_drew1)) hb); clear HB; have HB := n0_; clear n0_ hb) | ((with_reducible refine gate_callee (f := 14) rfl ?_); refine goesL_ (some 50) rfl rfl Try.func14 (by kernel_rfl) rfl #[.string (strOfNums l)] rfl (by (try simp only [List.map_toArray, List.map_cons, List.map_nil]); first | done | rfl) ?_; (with_reducible refine (ident_Parse.calls k (strOfNums l) r1 r2 0 _ HS.out).mono ?_); rintro e w2 ⟨rfl, hb⟩; refine ⟨_, rfl, ?_⟩; have n0_ := Aside0.mk (below_step (by repeat (first | exact HB.out | apply below_alloc | apply pw_below_drewN | apply below_drew1)) hb); clear HB; have HB := n0_; clear n0_ hb) | ((with_reducible refine gate_dst (N := 57) rfl ?_); refine conv_event3 HW.out HL.out rfl rfl rfl Try.underlying9 Try.underlying31 Try.underlying5 ?_; intro w3 c g hrow hg hb; have HR := Aside0.mk hrow; have HG := Aside0.mk (below_size' HB.out hg); have n0_ := Aside0.mk (below_step (by repeat (first | exact HB.out | apply below_alloc | apply pw_below_drewN | apply below_drew1)) hb); clear HB; have HB := n0_; clear n0_ hb; have hx_ := HR.out.cell p HX.out; have hy_ := HR.out.cell q HY.out; have hfx_ := HR.out.thaw p HX.out; have hfy_ := HR.out.thaw q HY.out; rw [HCP.out] at hx_; rw [HCQ.out] at hy_; clear hrow hg) | ((with_reducible refine gate_callee (f := 16) rfl ?_); refine goesL_ (some 59) rfl rfl Try.func16 (by kernel_rfl) rfl #[.int .i64 i] rfl (by (try simp only [List.map_toArray, List.map_cons, List.map_nil]); first | done | rfl) ?_; (with_reducible refine (examboardlaw09_digitAt.calls i (p : Int) _ HD.out).mono ?_); rintro e w' ⟨rfl, ⟨nd, rfl⟩⟩; refine ⟨_, rfl, ?_⟩) | ((with_reducible refine gate_dst (N := 86) rfl ?_); refine conv_event3 HW.out HL.out rfl rfl rfl Try.underlying9 Try.underlying31 Try.underlying5 ?_; intro w3 c g hrow hg hb; have HR := Aside0.mk hrow; have HG := Aside0.mk (below_size' HB.out hg); have n0_ := Aside0.mk (below_step (by repeat (first | exact HB.out | apply below_alloc | apply pw_below_drewN | apply below_drew1)) hb); clear HB; have HB := n0_; clear n0_ hb; have hx_ := HR.out.cell p HX.out; have hy_ := HR.out.cell q HY.out; have hfx_ := HR.out.thaw p HX.out; have hfy_ := HR.out.thaw q HY.out; rw [HCP.out] at hx_; rw [HCQ.out] at hy_; clear hrow hg) | ((with_reducible refine gate_callee (f := 16) rfl ?_); refine goesL_ (some 89) rfl rfl Try.func16 (by kernel_rfl) rfl #[.int .i64 (i + 1)] rfl (by (try simp only [List.map_toArray, List.map_cons, List.map_nil]); first | done | rfl) ?_; (with_reducible refine (examboardlaw09_digitAt.calls (i + 1) (q : Int) _ HD2.out).mono ?_); rintro e w' ⟨rfl, ⟨nd, rfl⟩⟩; refine ⟨_, rfl, ?_⟩))
  go_quiet (fail)
  go_wp2
  refine rename_world (fun W => RowA W g l ∧ Below w.heap.size w W) ⟨by repeat (first | exact HR.out | apply RowA.drewN), by repeat (first | exact HB.out | apply pw_below_drewN | apply below_drew1)⟩ ?_
  rintro W ⟨hr4, hb4⟩
  clear hx_ hy_ hfx_ hfy_ HR
  have hx_ := hr4.cell p HX.out
  have hy_ := hr4.cell q HY.out
  have hfx_ := hr4.thaw p HX.out
  have hfy_ := hr4.thaw q HY.out
  rw [HCP.out] at hx_
  rw [HCQ.out] at hy_
  have HR := Aside0.mk hr4
  have HB := Aside0.mk hb4
  clear hr4 hb4
  go_region
  all_goals
    have hr5 : RowA (((W.setCell ⟨g, p, none⟩ (.int .u8 xq)).setCell ⟨g, q, none⟩ (.int .u8 xp)).drew) g ((l.set p xq).set q xp) := ((HR.out.set p HX.out xq).set q (by rw [List.length_set]; exact HY.out) xp).drew
    have hcv_ := RowA.string (c := c) hr5 Try.underlying31 Try.underlying5 Try.underlying9
    rw [List.length_set, List.length_set, HL.out] at hcv_
    have hb5 := Aside0.mk (below_drew1 (below_set (j := q) (v := .int .u8 xp) (below_set (j := p) (v := .int .u8 xq) HB.out HG.out) HG.out))
    clear HB hr5
    have HB := hb5
    clear hb5 hx_ hy_ hfx_ hfy_
    go_wp2_with (first | ((with_reducible refine gate_callee (f := 14) rfl ?_); refine goesL_ (some 116) rfl rfl Try.func14 (by kernel_rfl) rfl #[.string (strOfNums ((l.set p xq).set q xp))] rfl (by (try simp only [List.map_toArray, List.map_cons, List.map_nil]); first | done | rfl) ?_; (with_reducible refine (ident_Parse.calls k (strOfNums ((l.set p xq).set q xp)) t1 t2 t3 _ HE.out).mono ?_); rintro e w2 ⟨rfl, hb⟩; refine ⟨_, rfl, ?_⟩; have n0_ := Aside0.mk (below_step (by repeat (first | exact HB.out | apply below_alloc | apply pw_below_drewN | apply below_drew1)) hb); clear HB; have HB := n0_; clear n0_ hb))
    go_ret
    exact ⟨rfl, by repeat (first | exact HB.out | apply pw_below_drewN | apply below_drew1)⟩

set_option maxHeartbeats 8000000 in
set_option maxRecDepth 100000 in
theorem walk_diff_eq (hv : examboardlaw09_valid.f a n = some true) (hP : ident_Print.f k a n = some (strOfNums l, 0)) (hS : ident_Parse.f k (strOfNums l) = some (r1, r2, 0))
    (hb : Bytes l) (hl : l.length = 14) (h0 : 0 ≤ i) (h8 : i ≤ 8) (hd : examboardlaw09_digitAt.f i = some (p : Int)) (hp : p < 14) (hq : q < 14) (hxp : l.getD p 0 = xp) (hxq : l.getD q 0 = xq) (hd0 : 0 ≤ d) (hd1 : d ≤ 255) (s1 s2 s3 : Int) (hA : ident_Parse.f k (strOfNums (l.set p (48 + d % 10))) = some (s1, s2, s3)) (hs3 : s3 ≠ 0) (hc : xp ≠ 48 + d % 10) (hi : i < 8) (hd2 : examboardlaw09_digitAt.f (i + 1) = some (q : Int)) (he : xp = xq) :
    Calls Try.prog 8 #[.int .i64 a, .int .i64 n, .int .i64 i, .int .u8 d] w fun e w' => e = .returned (.bool true) ∧ Below w.heap.size w w' := by
  have HV := Aside0.mk hv
  have HP := Aside0.mk hP
  have HS := Aside0.mk hS
  have HD := Aside0.mk hd
  have HW := Aside0.mk hb
  have HL := Aside0.mk hl
  have HX := Aside0.mk (show p < l.length by rw [hl]; exact hp)
  have HY := Aside0.mk (show q < l.length by rw [hl]; exact hq)
  have HCP := Aside0.mk hxp
  have HCQ := Aside0.mk hxq
  have HZ := Aside0.mk (size_of l)
  have c1 : decide (i < 0) = false := decide_eq_false (by omega)
  have c2 : decide (8 < i) = false := decide_eq_false (by omega)
  have c3 : ((strOfNums l).size == 14) = true := by rw [size_of, hl]; rfl
  have c4 : ((strOfNums l).size != 14) = false := by rw [size_of, hl]; rfl
  have c5 : decide ((p : Int) < 14) = true := decide_eq_true (by omega)
  have c6 : decide (0 ≤ (p : Int)) = true := decide_eq_true (by omega)
  have c7 : decide ((q : Int) < 14) = true := decide_eq_true (by omega)
  have c8 : decide (0 ≤ (q : Int)) = true := decide_eq_true (by omega)
  have e5 : ((p : Int) < 14) = True := eq_true (by omega)
  have e7 : ((q : Int) < 14) = True := eq_true (by omega)
  have c9 : (xp != 48 + d % 10) = true := by simpa using hc
  have c9' : (xp == 48 + d % 10) = false := by simpa using hc
  have c11 : (s3 == 0) = false := by simpa using hs3
  have HA := Aside0.mk hA
  clear hc hA hs3
  have c10 : (i == 8) = false := by simp; omega
  have c12 : wrap64 (i + 1) = i + 1 := w64 _ (by omega) (by omega)
  have HD2 := Aside0.mk hd2
  have c13 : (xp == xq) = true := by rw [he]; simp
  have c14 : 0 ≤ i + 1 := by omega
  have c15 : i + 1 ≤ 8 := by omega
  clear hi hd2 he
  clear hv hP hS hd hb hl h0 h8 hp hq hxp hxq
  have HB := Aside0.mk (Below.refl w.heap.size w)
  go_enter Try.func8, Try.ntmps8
  go_wp2_with (first | ((with_reducible refine gate_callee (f := 9) rfl ?_); refine goesL_ (some 25) rfl rfl Try.func9 (by kernel_rfl) rfl #[.int .i64 a, .int .i64 n] rfl (by (try simp only [List.map_toArray, List.map_cons, List.map_nil]); first | done | rfl) ?_; (with_reducible refine (examboardlaw09_valid.calls a n true _ HV.out).mono ?_); rintro e w' ⟨rfl, ⟨nd, rfl⟩⟩; refine ⟨_, rfl, ?_⟩) | ((with_reducible refine gate_callee (f := 11) rfl ?_); refine goesL_ (some 38) rfl rfl Try.func11 (by kernel_rfl) rfl #[.int .i64 a, .int .i64 n] rfl (by (try simp only [List.map_toArray, List.map_cons, List.map_nil]); first | done | rfl) ?_; (with_reducible refine (ident_Print.calls k a n (strOfNums l) 0 _ HP.out).mono ?_); rintro e w1 ⟨rfl, hb⟩; refine ⟨_, rfl, ?_⟩; have n0_ := Aside0.mk (below_step (by repeat (first | exact HB.out | apply below_alloc | apply pw_below_drewN | apply below_drew1)) hb); clear HB; have HB := n0_; clear n0_ hb) | ((with_reducible refine gate_callee (f := 14) rfl ?_); refine goesL_ (some 50) rfl rfl Try.func14 (by kernel_rfl) rfl #[.string (strOfNums l)] rfl (by (try simp only [List.map_toArray, List.map_cons, List.map_nil]); first | done | rfl) ?_; (with_reducible refine (ident_Parse.calls k (strOfNums l) r1 r2 0 _ HS.out).mono ?_); rintro e w2 ⟨rfl, hb⟩; refine ⟨_, rfl, ?_⟩; have n0_ := Aside0.mk (below_step (by repeat (first | exact HB.out | apply below_alloc | apply pw_below_drewN | apply below_drew1)) hb); clear HB; have HB := n0_; clear n0_ hb) | ((with_reducible refine gate_dst (N := 57) rfl ?_); refine conv_event3 HW.out HL.out rfl rfl rfl Try.underlying9 Try.underlying31 Try.underlying5 ?_; intro w3 c g hrow hg hb; have HR := Aside0.mk hrow; have HG := Aside0.mk (below_size' HB.out hg); have n0_ := Aside0.mk (below_step (by repeat (first | exact HB.out | apply below_alloc | apply pw_below_drewN | apply below_drew1)) hb); clear HB; have HB := n0_; clear n0_ hb; have hx_ := HR.out.cell p HX.out; have hy_ := HR.out.cell q HY.out; have hfx_ := HR.out.thaw p HX.out; have hfy_ := HR.out.thaw q HY.out; rw [HCP.out] at hx_; rw [HCQ.out] at hy_; clear hrow hg) | ((with_reducible refine gate_callee (f := 16) rfl ?_); refine goesL_ (some 59) rfl rfl Try.func16 (by kernel_rfl) rfl #[.int .i64 i] rfl (by (try simp only [List.map_toArray, List.map_cons, List.map_nil]); first | done | rfl) ?_; (with_reducible refine (examboardlaw09_digitAt.calls i (p : Int) _ HD.out).mono ?_); rintro e w' ⟨rfl, ⟨nd, rfl⟩⟩; refine ⟨_, rfl, ?_⟩) | ((with_reducible refine gate_store (t := 5) (p := 73) rfl ?_); refine store_row (c := 48 + d % 10) (by repeat (first | exact HR.out | apply RowA.drewN)) HX.out rfl rfl rfl ?hr ?_; (case hr => first | (go_simp; done) | (go_simp; rfl)); intro w12 hr2 hb2; have HR2 := Aside0.mk hr2; have n0_ := Aside0.mk (hb2 w (by repeat (first | exact HB.out | apply pw_below_drewN)) HG.out); clear HB hb2 hr2; have HB := n0_; clear n0_; have hcv_ := RowA.string (c := c) HR2.out Try.underlying31 Try.underlying5 Try.underlying9; rw [List.length_set, HL.out] at hcv_; clear hx_ hy_ hfx_ hfy_) | ((with_reducible refine gate_callee (f := 14) rfl ?_); refine goesL_ (some 77) rfl rfl Try.func14 (by kernel_rfl) rfl #[.string (strOfNums (l.set p (48 + d % 10)))] rfl (by (try simp only [List.map_toArray, List.map_cons, List.map_nil]); first | done | rfl) ?_; (with_reducible refine (ident_Parse.calls k (strOfNums (l.set p (48 + d % 10))) s1 s2 s3 _ HA.out).mono ?_); rintro e w2 ⟨rfl, hb⟩; refine ⟨_, rfl, ?_⟩; (try clear hcv_); have n0_ := Aside0.mk (below_step (by repeat (first | exact HB.out | apply below_alloc | apply pw_below_drewN | apply below_drew1)) hb); clear HB; have HB := n0_; clear n0_ hb) | ((with_reducible refine gate_dst (N := 86) rfl ?_); refine conv_event3 HW.out HL.out rfl rfl rfl Try.underlying9 Try.underlying31 Try.underlying5 ?_; intro w3 c g hrow hg hb; have HR := Aside0.mk hrow; have HG := Aside0.mk (below_size' HB.out hg); have n0_ := Aside0.mk (below_step (by repeat (first | exact HB.out | apply below_alloc | apply pw_below_drewN | apply below_drew1)) hb); clear HB; have HB := n0_; clear n0_ hb; have hx_ := HR.out.cell p HX.out; have hy_ := HR.out.cell q HY.out; have hfx_ := HR.out.thaw p HX.out; have hfy_ := HR.out.thaw q HY.out; rw [HCP.out] at hx_; rw [HCQ.out] at hy_; clear hrow hg) | ((with_reducible refine gate_callee (f := 16) rfl ?_); refine goesL_ (some 89) rfl rfl Try.func16 (by kernel_rfl) rfl #[.int .i64 (i + 1)] rfl (by (try simp only [List.map_toArray, List.map_cons, List.map_nil]); first | done | rfl) ?_; (with_reducible refine (examboardlaw09_digitAt.calls (i + 1) (q : Int) _ HD2.out).mono ?_); rintro e w' ⟨rfl, ⟨nd, rfl⟩⟩; refine ⟨_, rfl, ?_⟩))
  go_quiet (fail)
  go_wp2
  go_ret
  exact ⟨rfl, by repeat (first | exact HB.out | apply pw_below_drewN | apply below_drew1)⟩

set_option maxHeartbeats 8000000 in
set_option maxRecDepth 100000 in
theorem walk_diff_ne (hv : examboardlaw09_valid.f a n = some true) (hP : ident_Print.f k a n = some (strOfNums l, 0)) (hS : ident_Parse.f k (strOfNums l) = some (r1, r2, 0))
    (hb : Bytes l) (hl : l.length = 14) (h0 : 0 ≤ i) (h8 : i ≤ 8) (hd : examboardlaw09_digitAt.f i = some (p : Int)) (hp : p < 14) (hq : q < 14) (hxp : l.getD p 0 = xp) (hxq : l.getD q 0 = xq) (hd0 : 0 ≤ d) (hd1 : d ≤ 255) (s1 s2 s3 : Int) (hA : ident_Parse.f k (strOfNums (l.set p (48 + d % 10))) = some (s1, s2, s3)) (hs3 : s3 ≠ 0) (hc : xp ≠ 48 + d % 10) (hi : i < 8) (hd2 : examboardlaw09_digitAt.f (i + 1) = some (q : Int)) (he : xp ≠ xq) (hpq : p ≠ q) (t1 t2 t3 : Int) (hE : ident_Parse.f k (strOfNums ((l.set p xq).set q xp)) = some (t1, t2, t3)) (ht3 : t3 ≠ 0)  :
    Calls Try.prog 8 #[.int .i64 a, .int .i64 n, .int .i64 i, .int .u8 d] w fun e w' => e = .returned (.bool true) ∧ Below w.heap.size w w' := by
  have HV := Aside0.mk hv
  have HP := Aside0.mk hP
  have HS := Aside0.mk hS
  have HD := Aside0.mk hd
  have HW := Aside0.mk hb
  have HL := Aside0.mk hl
  have HX := Aside0.mk (show p < l.length by rw [hl]; exact hp)
  have HY := Aside0.mk (show q < l.length by rw [hl]; exact hq)
  have HCP := Aside0.mk hxp
  have HCQ := Aside0.mk hxq
  have HZ := Aside0.mk (size_of l)
  have c1 : decide (i < 0) = false := decide_eq_false (by omega)
  have c2 : decide (8 < i) = false := decide_eq_false (by omega)
  have c3 : ((strOfNums l).size == 14) = true := by rw [size_of, hl]; rfl
  have c4 : ((strOfNums l).size != 14) = false := by rw [size_of, hl]; rfl
  have c5 : decide ((p : Int) < 14) = true := decide_eq_true (by omega)
  have c6 : decide (0 ≤ (p : Int)) = true := decide_eq_true (by omega)
  have c7 : decide ((q : Int) < 14) = true := decide_eq_true (by omega)
  have c8 : decide (0 ≤ (q : Int)) = true := decide_eq_true (by omega)
  have e5 : ((p : Int) < 14) = True := eq_true (by omega)
  have e7 : ((q : Int) < 14) = True := eq_true (by omega)
  have c9 : (xp != 48 + d % 10) = true := by simpa using hc
  have c9' : (xp == 48 + d % 10) = false := by simpa using hc
  have c11 : (s3 == 0) = false := by simpa using hs3
  have HA := Aside0.mk hA
  clear hc hA hs3
  have c10 : (i == 8) = false := by simp; omega
  have c12 : wrap64 (i + 1) = i + 1 := w64 _ (by omega) (by omega)
  have HD2 := Aside0.mk hd2
  have c13 : (xp == xq) = false := by simpa using he
  have c16 : (t3 != 0) = true := by simpa using ht3
  have HE := Aside0.mk hE
  clear hE ht3
  have c14 : 0 ≤ i + 1 := by omega
  have c15 : i + 1 ≤ 8 := by omega
  clear hi hd2 he
  clear hv hP hS hd hb hl h0 h8 hp hq hxp hxq
  have HB := Aside0.mk (Below.refl w.heap.size w)
  go_enter Try.func8, Try.ntmps8
  go_wp2_with (first | ((with_reducible refine gate_callee (f := 9) rfl ?_); refine goesL_ (some 25) rfl rfl Try.func9 (by kernel_rfl) rfl #[.int .i64 a, .int .i64 n] rfl (by (try simp only [List.map_toArray, List.map_cons, List.map_nil]); first | done | rfl) ?_; (with_reducible refine (examboardlaw09_valid.calls a n true _ HV.out).mono ?_); rintro e w' ⟨rfl, ⟨nd, rfl⟩⟩; refine ⟨_, rfl, ?_⟩) | ((with_reducible refine gate_callee (f := 11) rfl ?_); refine goesL_ (some 38) rfl rfl Try.func11 (by kernel_rfl) rfl #[.int .i64 a, .int .i64 n] rfl (by (try simp only [List.map_toArray, List.map_cons, List.map_nil]); first | done | rfl) ?_; (with_reducible refine (ident_Print.calls k a n (strOfNums l) 0 _ HP.out).mono ?_); rintro e w1 ⟨rfl, hb⟩; refine ⟨_, rfl, ?_⟩; have n0_ := Aside0.mk (below_step (by repeat (first | exact HB.out | apply below_alloc | apply pw_below_drewN | apply below_drew1)) hb); clear HB; have HB := n0_; clear n0_ hb) | ((with_reducible refine gate_callee (f := 14) rfl ?_); refine goesL_ (some 50) rfl rfl Try.func14 (by kernel_rfl) rfl #[.string (strOfNums l)] rfl (by (try simp only [List.map_toArray, List.map_cons, List.map_nil]); first | done | rfl) ?_; (with_reducible refine (ident_Parse.calls k (strOfNums l) r1 r2 0 _ HS.out).mono ?_); rintro e w2 ⟨rfl, hb⟩; refine ⟨_, rfl, ?_⟩; have n0_ := Aside0.mk (below_step (by repeat (first | exact HB.out | apply below_alloc | apply pw_below_drewN | apply below_drew1)) hb); clear HB; have HB := n0_; clear n0_ hb) | ((with_reducible refine gate_dst (N := 57) rfl ?_); refine conv_event3 HW.out HL.out rfl rfl rfl Try.underlying9 Try.underlying31 Try.underlying5 ?_; intro w3 c g hrow hg hb; have HR := Aside0.mk hrow; have HG := Aside0.mk (below_size' HB.out hg); have n0_ := Aside0.mk (below_step (by repeat (first | exact HB.out | apply below_alloc | apply pw_below_drewN | apply below_drew1)) hb); clear HB; have HB := n0_; clear n0_ hb; have hx_ := HR.out.cell p HX.out; have hy_ := HR.out.cell q HY.out; have hfx_ := HR.out.thaw p HX.out; have hfy_ := HR.out.thaw q HY.out; rw [HCP.out] at hx_; rw [HCQ.out] at hy_; clear hrow hg) | ((with_reducible refine gate_callee (f := 16) rfl ?_); refine goesL_ (some 59) rfl rfl Try.func16 (by kernel_rfl) rfl #[.int .i64 i] rfl (by (try simp only [List.map_toArray, List.map_cons, List.map_nil]); first | done | rfl) ?_; (with_reducible refine (examboardlaw09_digitAt.calls i (p : Int) _ HD.out).mono ?_); rintro e w' ⟨rfl, ⟨nd, rfl⟩⟩; refine ⟨_, rfl, ?_⟩) | ((with_reducible refine gate_store (t := 5) (p := 73) rfl ?_); refine store_row (c := 48 + d % 10) (by repeat (first | exact HR.out | apply RowA.drewN)) HX.out rfl rfl rfl ?hr ?_; (case hr => first | (go_simp; done) | (go_simp; rfl)); intro w12 hr2 hb2; have HR2 := Aside0.mk hr2; have n0_ := Aside0.mk (hb2 w (by repeat (first | exact HB.out | apply pw_below_drewN)) HG.out); clear HB hb2 hr2; have HB := n0_; clear n0_; have hcv_ := RowA.string (c := c) HR2.out Try.underlying31 Try.underlying5 Try.underlying9; rw [List.length_set, HL.out] at hcv_; clear hx_ hy_ hfx_ hfy_) | ((with_reducible refine gate_callee (f := 14) rfl ?_); refine goesL_ (some 77) rfl rfl Try.func14 (by kernel_rfl) rfl #[.string (strOfNums (l.set p (48 + d % 10)))] rfl (by (try simp only [List.map_toArray, List.map_cons, List.map_nil]); first | done | rfl) ?_; (with_reducible refine (ident_Parse.calls k (strOfNums (l.set p (48 + d % 10))) s1 s2 s3 _ HA.out).mono ?_); rintro e w2 ⟨rfl, hb⟩; refine ⟨_, rfl, ?_⟩; (try clear hcv_); have n0_ := Aside0.mk (below_step (by repeat (first | exact HB.out | apply below_alloc | apply pw_below_drewN | apply below_drew1)) hb); clear HB; have HB := n0_; clear n0_ hb) | ((with_reducible refine gate_dst (N := 86) rfl ?_); refine conv_event3 HW.out HL.out rfl rfl rfl Try.underlying9 Try.underlying31 Try.underlying5 ?_; intro w3 c g hrow hg hb; have HR := Aside0.mk hrow; have HG := Aside0.mk (below_size' HB.out hg); have n0_ := Aside0.mk (below_step (by repeat (first | exact HB.out | apply below_alloc | apply pw_below_drewN | apply below_drew1)) hb); clear HB; have HB := n0_; clear n0_ hb; have hx_ := HR.out.cell p HX.out; have hy_ := HR.out.cell q HY.out; have hfx_ := HR.out.thaw p HX.out; have hfy_ := HR.out.thaw q HY.out; rw [HCP.out] at hx_; rw [HCQ.out] at hy_; clear hrow hg) | ((with_reducible refine gate_callee (f := 16) rfl ?_); refine goesL_ (some 89) rfl rfl Try.func16 (by kernel_rfl) rfl #[.int .i64 (i + 1)] rfl (by (try simp only [List.map_toArray, List.map_cons, List.map_nil]); first | done | rfl) ?_; (with_reducible refine (examboardlaw09_digitAt.calls (i + 1) (q : Int) _ HD2.out).mono ?_); rintro e w' ⟨rfl, ⟨nd, rfl⟩⟩; refine ⟨_, rfl, ?_⟩))
  go_quiet (fail)
  go_wp2
  refine rename_world (fun W => RowA W g l ∧ Below w.heap.size w W) ⟨by repeat (first | exact HR.out | apply RowA.drewN), by repeat (first | exact HB.out | apply pw_below_drewN | apply below_drew1)⟩ ?_
  rintro W ⟨hr4, hb4⟩
  clear hx_ hy_ hfx_ hfy_ HR
  have hx_ := hr4.cell p HX.out
  have hy_ := hr4.cell q HY.out
  have hfx_ := hr4.thaw p HX.out
  have hfy_ := hr4.thaw q HY.out
  rw [HCP.out] at hx_
  rw [HCQ.out] at hy_
  have HR := Aside0.mk hr4
  have HB := Aside0.mk hb4
  clear hr4 hb4
  go_region
  all_goals
    have hr5 : RowA (((W.setCell ⟨g, p, none⟩ (.int .u8 xq)).setCell ⟨g, q, none⟩ (.int .u8 xp)).drew) g ((l.set p xq).set q xp) := ((HR.out.set p HX.out xq).set q (by rw [List.length_set]; exact HY.out) xp).drew
    have hcv_ := RowA.string (c := c) hr5 Try.underlying31 Try.underlying5 Try.underlying9
    rw [List.length_set, List.length_set, HL.out] at hcv_
    have hb5 := Aside0.mk (below_drew1 (below_set (j := q) (v := .int .u8 xp) (below_set (j := p) (v := .int .u8 xq) HB.out HG.out) HG.out))
    clear HB hr5
    have HB := hb5
    clear hb5 hx_ hy_ hfx_ hfy_
    go_wp2_with (first | ((with_reducible refine gate_callee (f := 14) rfl ?_); refine goesL_ (some 116) rfl rfl Try.func14 (by kernel_rfl) rfl #[.string (strOfNums ((l.set p xq).set q xp))] rfl (by (try simp only [List.map_toArray, List.map_cons, List.map_nil]); first | done | rfl) ?_; (with_reducible refine (ident_Parse.calls k (strOfNums ((l.set p xq).set q xp)) t1 t2 t3 _ HE.out).mono ?_); rintro e w2 ⟨rfl, hb⟩; refine ⟨_, rfl, ?_⟩; have n0_ := Aside0.mk (below_step (by repeat (first | exact HB.out | apply below_alloc | apply pw_below_drewN | apply below_drew1)) hb); clear HB; have HB := n0_; clear n0_ hb))
    go_ret
    exact ⟨rfl, by repeat (first | exact HB.out | apply pw_below_drewN | apply below_drew1)⟩

end Go.Proofs.Ytkkdabdceooakaa.Det
