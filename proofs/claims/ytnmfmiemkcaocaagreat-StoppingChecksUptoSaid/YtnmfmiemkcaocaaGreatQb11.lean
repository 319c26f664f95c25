/- Parts of the proof, joined: RfG, RfH, RfI. No condition. -/
import Derived.Test.YtnmfmiemkcaocaaGreatQb10
set_option maxHeartbeats 8000000
set_option maxRecDepth 100000
namespace Go.Proofs.YtnmfmiemkcaocaaGreat.Hand
open Go.RowKit Go.Proofs.YtnmfmiemkcaocaaGreatW.PrintWords Go.Proofs.YtnmfmiemkcaocaaGreatW.PrintLast Go.Proofs.YtnmfmiemkcaocaaGreatW.PrintMore
set_option linter.unusedVariables false
set_option linter.unusedSimpArgs false
theorem results_tmp4 {fn : Func} {t u v x : Tmp} (h : fn.results = #[.tmp t, .tmp u, .tmp v, .tmp x]) (tmps : Array Value) (P : Program) (w : World) :
  (results fn tmps).run P w = .ok (.tuple #[tmps.getD t undef, tmps.getD u undef, tmps.getD v undef, tmps.getD x undef]) w := by
 simp [results, h]
theorem ref_valid_call (s : ByteArray) (w : World) (hs : s.size ≤ reachBytes) : Calls Tryz.prog 74 #[.string s] w fun e w' => e = .returned (.bool (validS s)) ∧ Below w.heap.size w w' := by
 have h := Con.refValid_tells s.data.toList 60 (Nat.le_refl _)
 rw [Con.ba_data] at h
 refine (Go.Proofs.YtnmfmiemkcaocaaGreat.QR13.examboardref13_Valid.calls 60 s _ w h).mono fun e w' he => ?_
 obtain ⟨he, hd⟩ := he
 obtain ⟨n, hn⟩ := hd.out
 subst hn
 exact ⟨he, pw_below_drewN (Below.refl _ _) n⟩
theorem ref_within33.run (x lo hi : Int) (w : World) : Calls Tryz.prog 48 #[.int .i64 x, .int .i64 lo, .int .i64 hi] w fun e w' => e = .returned (.bool (inR x lo hi)) ∧ w' = w := by
 cases c1 : decide (lo ≤ x)
 all_goals
  have K := Aside0.mk c1
  go_enter Tryz.func48, Tryz.ntmps48
  go_wp2
  go_ret
  refine ⟨?_, rfl⟩
  simp [inR, K.out]
theorem ref_within38.run (x lo hi : Int) (w : World) : Calls Tryz.prog 28 #[.int .i64 x, .int .i64 lo, .int .i64 hi] w fun e w' => e = .returned (.bool (inR x lo hi)) ∧ w' = w := by
 cases c1 : decide (lo ≤ x)
 all_goals
  have K := Aside0.mk c1
  go_enter Tryz.func28, Tryz.ntmps28
  go_wp2
  go_ret
  refine ⟨?_, rfl⟩
  simp [inR, K.out]
theorem ref_uses_1 (w : World) : Calls Tryz.prog 73 #[.int .i64 1] w fun e w' => e = .returned (.tuple #[.bool true, .bool false, .bool true, .bool true]) ∧ w' = w := by
 go_enter Tryz.func73, Tryz.ntmps73
 go_wp2
 try simp only [Exit.inBlock, Exit.then]
 refine bodyPost_ret (results_tmp4 rfl _ _ _) rfl ?_
 exact ⟨rfl, rfl⟩
theorem ref_uses_2 (w : World) : Calls Tryz.prog 73 #[.int .i64 2] w fun e w' => e = .returned (.tuple #[.bool false, .bool false, .bool false, .bool true]) ∧ w' = w := by
 go_enter Tryz.func73, Tryz.ntmps73
 go_wp2
 try simp only [Exit.inBlock, Exit.then]
 refine bodyPost_ret (results_tmp4 rfl _ _ _) rfl ?_
 exact ⟨rfl, rfl⟩
theorem ref_uses_3 (w : World) : Calls Tryz.prog 73 #[.int .i64 3] w fun e w' => e = .returned (.tuple #[.bool false, .bool false, .bool false, .bool true]) ∧ w' = w := by
 go_enter Tryz.func73, Tryz.ntmps73
 go_wp2
 try simp only [Exit.inBlock, Exit.then]
 refine bodyPost_ret (results_tmp4 rfl _ _ _) rfl ?_
 exact ⟨rfl, rfl⟩
theorem ref_uses_4 (w : World) : Calls Tryz.prog 73 #[.int .i64 4] w fun e w' => e = .returned (.tuple #[.bool false, .bool false, .bool true, .bool true]) ∧ w' = w := by
 go_enter Tryz.func73, Tryz.ntmps73
 go_wp2
 try simp only [Exit.inBlock, Exit.then]
 refine bodyPost_ret (results_tmp4 rfl _ _ _) rfl ?_
 exact ⟨rfl, rfl⟩
theorem ref_uses_5 (w : World) : Calls Tryz.prog 73 #[.int .i64 5] w fun e w' => e = .returned (.tuple #[.bool false, .bool true, .bool true, .bool true]) ∧ w' = w := by
 go_enter Tryz.func73, Tryz.ntmps73
 go_wp2
 try simp only [Exit.inBlock, Exit.then]
 refine bodyPost_ret (results_tmp4 rfl _ _ _) rfl ?_
 exact ⟨rfl, rfl⟩
theorem ref_uses_6 (w : World) : Calls Tryz.prog 73 #[.int .i64 6] w fun e w' => e = .returned (.tuple #[.bool false, .bool true, .bool true, .bool true]) ∧ w' = w := by
 go_enter Tryz.func73, Tryz.ntmps73
 go_wp2
 try simp only [Exit.inBlock, Exit.then]
 refine bodyPost_ret (results_tmp4 rfl _ _ _) rfl ?_
 exact ⟨rfl, rfl⟩
theorem ref_uses_7 (w : World) : Calls Tryz.prog 73 #[.int .i64 7] w fun e w' => e = .returned (.tuple #[.bool false, .bool true, .bool false, .bool false]) ∧ w' = w := by
 go_enter Tryz.func73, Tryz.ntmps73
 go_wp2
 try simp only [Exit.inBlock, Exit.then]
 refine bodyPost_ret (results_tmp4 rfl _ _ _) rfl ?_
 exact ⟨rfl, rfl⟩
theorem ref_uses_8 (w : World) : Calls Tryz.prog 73 #[.int .i64 8] w fun e w' => e = .returned (.tuple #[.bool false, .bool true, .bool false, .bool false]) ∧ w' = w := by
 go_enter Tryz.func73, Tryz.ntmps73
 go_wp2
 try simp only [Exit.inBlock, Exit.then]
 refine bodyPost_ret (results_tmp4 rfl _ _ _) rfl ?_
 exact ⟨rfl, rfl⟩
theorem ref_uses_9 (w : World) : Calls Tryz.prog 73 #[.int .i64 9] w fun e w' => e = .returned (.tuple #[.bool false, .bool false, .bool false, .bool false]) ∧ w' = w := by
 go_enter Tryz.func73, Tryz.ntmps73
 go_wp2
 try simp only [Exit.inBlock, Exit.then]
 refine bodyPost_ret (results_tmp4 rfl _ _ _) rfl ?_
 exact ⟨rfl, rfl⟩
theorem ref_rule_1 (n lo hi : Int) (code : ByteArray) (w : World) (hs : code.size ≤ reachBytes) :
  Calls Tryz.prog 49 #[.agg #[.int .i64 1, .int .i64 n, .int .i64 lo, .int .i64 hi, .string code]] w fun e w' => e = .returned (.int .i64 (ruleV (1, n, lo, hi, code))) ∧ Below w.heap.size w w' := by
 have HS := Aside0.mk hs
 have HB := Aside0.mk (Below.refl w.heap.size w)
 have h0 : inR 1 1 9 = true := rfl
 clear hs
 cases hn : (n == 0)
 focus
  have hnn : (n != 0) = true := by rw [bne, hn]; rfl
  have F := Aside0.mk (show ruleV (1, n, lo, hi, code) = 1 by simp [ruleV, okR, chkV, boundsV, hn])
 rotate_right
 focus
  have hnn : (n != 0) = false := by rw [bne, hn]; rfl
  cases hv : validS code
  focus
   have F := Aside0.mk (show ruleV (1, n, lo, hi, code) = 2 by simp [ruleV, okR, chkV, boundsV, hn, hv])
  rotate_right
  focus
   cases il : inR lo 0 9999999
   focus
    have F := Aside0.mk (show ruleV (1, n, lo, hi, code) = 3 by simp [ruleV, okR, chkV, boundsV, hn, hv, il])
   rotate_right
   focus
    cases ih : inR hi 0 9999999
    focus
     have F := Aside0.mk (show ruleV (1, n, lo, hi, code) = 3 by simp [ruleV, okR, chkV, boundsV, hn, hv, il, ih])
    rotate_right
    focus
     cases hd : decide (hi < lo)
     focus
      have F := Aside0.mk (show ruleV (1, n, lo, hi, code) = 0 by simp [ruleV, okR, chkV, boundsV, hn, hv, il, ih, Int.not_lt.1 (of_decide_eq_false hd)])
     rotate_right
     focus
      have F := Aside0.mk (show ruleV (1, n, lo, hi, code) = 23 by simp [ruleV, okR, chkV, boundsV, hn, hv, il, ih, of_decide_eq_true hd])
 all_goals
  go_enter Tryz.func49, Tryz.ntmps49
  go_wp2_with (first | (go_at_call 74; (with_reducible refine (ref_valid_call code _ HS.out).mono ?_); rintro e w4 ⟨rfl, hb⟩; replace B1 := Bb B1 hb; replace HB := Ob HB hb; clear hb d0 d1 d2 d3 d4; have d0 := Cl0 B1; have d1 := Cl1 B1; have d2 := Cl2 B1; have d3 := Cl3 B1; have d4 := Cl4 B1) | (go_at_call 48; (with_reducible refine (ref_within33.run _ _ _ _).mono ?_); rintro e w3 ⟨rfl, rfl⟩) | (go_at_call 73; (with_reducible refine (ref_uses_1 _).mono ?_); rintro e w2 ⟨rfl, rfl⟩) | ((with_reducible refine gate_dst (N := 1) rfl ?_); refine box_event (by rfl) (N := 1) (by rfl) (cs := #[.int .i64 1, .int .i64 n, .int .i64 lo, .int .i64 hi, .string code]) (t := 74) ?hr ?_; (case hr => first | (go_simp; done) | (go_simp; rfl)); intro g hg w1 hbx hb; have B1 := As hbx; replace HB := Ob HB hb; have d0 := Cl0 B1; have d1 := Cl1 B1; have d2 := Cl2 B1; have d3 := Cl3 B1; have d4 := Cl4 B1; clear hg hbx hb))
  go_ret
  exact ⟨by rw [F.out]; rfl, HB.out⟩
theorem ref_rule_2 (n lo hi : Int) (code : ByteArray) (w : World) (hs : code.size ≤ reachBytes) :
  Calls Tryz.prog 49 #[.agg #[.int .i64 2, .int .i64 n, .int .i64 lo, .int .i64 hi, .string code]] w fun e w' => e = .returned (.int .i64 (ruleV (2, n, lo, hi, code))) ∧ Below w.heap.size w w' := by
 have HS := Aside0.mk hs
 have HB := Aside0.mk (Below.refl w.heap.size w)
 have h0 : inR 2 1 9 = true := rfl
 clear hs
 cases hc : code.toList.isEmpty
 focus
  have F := Aside0.mk (show ruleV (2, n, lo, hi, code) = 1 by simp [ruleV, okR, chkV, boundsV, hc])
 rotate_right
 focus
  cases hn : (n == 0)
  focus
   have hnn : (n != 0) = true := by rw [bne, hn]; rfl
   have F := Aside0.mk (show ruleV (2, n, lo, hi, code) = 1 by simp [ruleV, okR, chkV, boundsV, hc, hn])
  rotate_right
  focus
   have hnn : (n != 0) = false := by rw [bne, hn]; rfl
   cases hl : (lo == 0)
   focus
    have hln : (lo != 0) = true := by rw [bne, hl]; rfl
    have F := Aside0.mk (show ruleV (2, n, lo, hi, code) = 1 by simp [ruleV, okR, chkV, boundsV, hc, hn, hl])
   rotate_right
   focus
    have hln : (lo != 0) = false := by rw [bne, hl]; rfl
    have zlo : inR lo 0 9999999 = true := by rw [eq_of_beq hl]; rfl
    cases ih : inR hi 0 9999999
    focus
     have F := Aside0.mk (show ruleV (2, n, lo, hi, code) = 3 by have e_ := eq_of_beq hl; subst e_; simp [ruleV, okR, chkV, boundsV, hc, hn, zlo, ih])
    rotate_right
    focus
     cases hd : decide (hi < lo)
     focus
      have F := Aside0.mk (show ruleV (2, n, lo, hi, code) = 0 by have e_ := eq_of_beq hl; subst e_; simp [ruleV, okR, chkV, boundsV, hc, hn, zlo, ih, Int.not_lt.1 (of_decide_eq_false hd)])
     rotate_right
     focus
      have F := Aside0.mk (show ruleV (2, n, lo, hi, code) = 23 by have e_ := eq_of_beq hl; subst e_; simp [ruleV, okR, chkV, boundsV, hc, hn, zlo, ih, of_decide_eq_true hd])
 all_goals
  go_enter Tryz.func49, Tryz.ntmps49
  go_wp2_with (first | (go_at_call 74; (with_reducible refine (ref_valid_call code _ HS.out).mono ?_); rintro e w4 ⟨rfl, hb⟩; replace B1 := Bb B1 hb; replace HB := Ob HB hb; clear hb d0 d1 d2 d3 d4; have d0 := Cl0 B1; have d1 := Cl1 B1; have d2 := Cl2 B1; have d3 := Cl3 B1; have d4 := Cl4 B1) | (go_at_call 48; (with_reducible refine (ref_within33.run _ _ _ _).mono ?_); rintro e w3 ⟨rfl, rfl⟩) | (go_at_call 73; (with_reducible refine (ref_uses_2 _).mono ?_); rintro e w2 ⟨rfl, rfl⟩) | ((with_reducible refine gate_dst (N := 1) rfl ?_); refine box_event (by rfl) (N := 1) (by rfl) (cs := #[.int .i64 2, .int .i64 n, .int .i64 lo, .int .i64 hi, .string code]) (t := 74) ?hr ?_; (case hr => first | (go_simp; done) | (go_simp; rfl)); intro g hg w1 hbx hb; have B1 := As hbx; replace HB := Ob HB hb; have d0 := Cl0 B1; have d1 := Cl1 B1; have d2 := Cl2 B1; have d3 := Cl3 B1; have d4 := Cl4 B1; clear hg hbx hb))
  go_ret
  exact ⟨by rw [F.out]; rfl, HB.out⟩
theorem ref_rule_3 (n lo hi : Int) (code : ByteArray) (w : World) (hs : code.size ≤ reachBytes) :
  Calls Tryz.prog 49 #[.agg #[.int .i64 3, .int .i64 n, .int .i64 lo, .int .i64 hi, .string code]] w fun e w' => e = .returned (.int .i64 (ruleV (3, n, lo, hi, code))) ∧ Below w.heap.size w w' := by
 have HS := Aside0.mk hs
 have HB := Aside0.mk (Below.refl w.heap.size w)
 have h0 : inR 3 1 9 = true := rfl
 clear hs
 cases hc : code.toList.isEmpty
 focus
  have F := Aside0.mk (show ruleV (3, n, lo, hi, code) = 1 by simp [ruleV, okR, chkV, boundsV, hc])
 rotate_right
 focus
  cases hn : (n == 0)
  focus
   have hnn : (n != 0) = true := by rw [bne, hn]; rfl
   have F := Aside0.mk (show ruleV (3, n, lo, hi, code) = 1 by simp [ruleV, okR, chkV, boundsV, hc, hn])
  rotate_right
  focus
   have hnn : (n != 0) = false := by rw [bne, hn]; rfl
   cases hl : (lo == 0)
   focus
    have hln : (lo != 0) = true := by rw [bne, hl]; rfl
    have F := Aside0.mk (show ruleV (3, n, lo, hi, code) = 1 by simp [ruleV, okR, chkV, boundsV, hc, hn, hl])
   rotate_right
   focus
    have hln : (lo != 0) = false := by rw [bne, hl]; rfl
    have zlo : inR lo 0 9999999 = true := by rw [eq_of_beq hl]; rfl
    cases ih : inR hi 0 9999999
    focus
     have F := Aside0.mk (show ruleV (3, n, lo, hi, code) = 3 by have e_ := eq_of_beq hl; subst e_; simp [ruleV, okR, chkV, boundsV, hc, hn, zlo, ih])
    rotate_right
    focus
     cases hd : decide (hi < lo)
     focus
      have F := Aside0.mk (show ruleV (3, n, lo, hi, code) = 0 by have e_ := eq_of_beq hl; subst e_; simp [ruleV, okR, chkV, boundsV, hc, hn, zlo, ih, Int.not_lt.1 (of_decide_eq_false hd)])
     rotate_right
     focus
      have F := Aside0.mk (show ruleV (3, n, lo, hi, code) = 23 by have e_ := eq_of_beq hl; subst e_; simp [ruleV, okR, chkV, boundsV, hc, hn, zlo, ih, of_decide_eq_true hd])
 all_goals
  go_enter Tryz.func49, Tryz.ntmps49
  go_wp2_with (first | (go_at_call 74; (with_reducible refine (ref_valid_call code _ HS.out).mono ?_); rintro e w4 ⟨rfl, hb⟩; replace B1 := Bb B1 hb; replace HB := Ob HB hb; clear hb d0 d1 d2 d3 d4; have d0 := Cl0 B1; have d1 := Cl1 B1; have d2 := Cl2 B1; have d3 := Cl3 B1; have d4 := Cl4 B1) | (go_at_call 48; (with_reducible refine (ref_within33.run _ _ _ _).mono ?_); rintro e w3 ⟨rfl, rfl⟩) | (go_at_call 73; (with_reducible refine (ref_uses_3 _).mono ?_); rintro e w2 ⟨rfl, rfl⟩) | ((with_reducible refine gate_dst (N := 1) rfl ?_); refine box_event (by rfl) (N := 1) (by rfl) (cs := #[.int .i64 3, .int .i64 n, .int .i64 lo, .int .i64 hi, .string code]) (t := 74) ?hr ?_; (case hr => first | (go_simp; done) | (go_simp; rfl)); intro g hg w1 hbx hb; have B1 := As hbx; replace HB := Ob HB hb; have d0 := Cl0 B1; have d1 := Cl1 B1; have d2 := Cl2 B1; have d3 := Cl3 B1; have d4 := Cl4 B1; clear hg hbx hb))
  go_ret
  exact ⟨by rw [F.out]; rfl, HB.out⟩
theorem ref_rule_4 (n lo hi : Int) (code : ByteArray) (w : World) (hs : code.size ≤ reachBytes) :
  Calls Tryz.prog 49 #[.agg #[.int .i64 4, .int .i64 n, .int .i64 lo, .int .i64 hi, .string code]] w fun e w' => e = .returned (.int .i64 (ruleV (4, n, lo, hi, code))) ∧ Below w.heap.size w w' := by
 have HS := Aside0.mk hs
 have HB := Aside0.mk (Below.refl w.heap.size w)
 have h0 : inR 4 1 9 = true := rfl
 clear hs
 cases hc : code.toList.isEmpty
 focus
  have F := Aside0.mk (show ruleV (4, n, lo, hi, code) = 1 by simp [ruleV, okR, chkV, boundsV, hc])
 rotate_right
 focus
  cases hn : (n == 0)
  focus
   have hnn : (n != 0) = true := by rw [bne, hn]; rfl
   have F := Aside0.mk (show ruleV (4, n, lo, hi, code) = 1 by simp [ruleV, okR, chkV, boundsV, hc, hn])
  rotate_right
  focus
   have hnn : (n != 0) = false := by rw [bne, hn]; rfl
   cases il : inR lo 0 9999999
   focus
    have F := Aside0.mk (show ruleV (4, n, lo, hi, code) = 3 by simp [ruleV, okR, chkV, boundsV, hc, hn, il])
   rotate_right
   focus
    cases ih : inR hi 0 9999999
    focus
     have F := Aside0.mk (show ruleV (4, n, lo, hi, code) = 3 by simp [ruleV, okR, chkV, boundsV, hc, hn, il, ih])
    rotate_right
    focus
     cases hd : decide (hi < lo)
     focus
      have F := Aside0.mk (show ruleV (4, n, lo, hi, code) = 0 by simp [ruleV, okR, chkV, boundsV, hc, hn, il, ih, Int.not_lt.1 (of_decide_eq_false hd)])
     rotate_right
     focus
      have F := Aside0.mk (show ruleV (4, n, lo, hi, code) = 23 by simp [ruleV, okR, chkV, boundsV, hc, hn, il, ih, of_decide_eq_true hd])
 all_goals
  go_enter Tryz.func49, Tryz.ntmps49
  go_wp2_with (first | (go_at_call 74; (with_reducible refine (ref_valid_call code _ HS.out).mono ?_); rintro e w4 ⟨rfl, hb⟩; replace B1 := Bb B1 hb; replace HB := Ob HB hb; clear hb d0 d1 d2 d3 d4; have d0 := Cl0 B1; have d1 := Cl1 B1; have d2 := Cl2 B1; have d3 := Cl3 B1; have d4 := Cl4 B1) | (go_at_call 48; (with_reducible refine (ref_within33.run _ _ _ _).mono ?_); rintro e w3 ⟨rfl, rfl⟩) | (go_at_call 73; (with_reducible refine (ref_uses_4 _).mono ?_); rintro e w2 ⟨rfl, rfl⟩) | ((with_reducible refine gate_dst (N := 1) rfl ?_); refine box_event (by rfl) (N := 1) (by rfl) (cs := #[.int .i64 4, .int .i64 n, .int .i64 lo, .int .i64 hi, .string code]) (t := 74) ?hr ?_; (case hr => first | (go_simp; done) | (go_simp; rfl)); intro g hg w1 hbx hb; have B1 := As hbx; replace HB := Ob HB hb; have d0 := Cl0 B1; have d1 := Cl1 B1; have d2 := Cl2 B1; have d3 := Cl3 B1; have d4 := Cl4 B1; clear hg hbx hb))
  go_ret
  exact ⟨by rw [F.out]; rfl, HB.out⟩
theorem ref_rule_5 (n lo hi : Int) (code : ByteArray) (w : World) (hs : code.size ≤ reachBytes) :
  Calls Tryz.prog 49 #[.agg #[.int .i64 5, .int .i64 n, .int .i64 lo, .int .i64 hi, .string code]] w fun e w' => e = .returned (.int .i64 (ruleV (5, n, lo, hi, code))) ∧ Below w.heap.size w w' := by
 have HS := Aside0.mk hs
 have HB := Aside0.mk (Below.refl w.heap.size w)
 have h0 : inR 5 1 9 = true := rfl
 clear hs
 cases hc : code.toList.isEmpty
 focus
  have F := Aside0.mk (show ruleV (5, n, lo, hi, code) = 1 by simp [ruleV, okR, chkV, boundsV, hc])
 rotate_right
 focus
  cases il : inR lo 0 9999999
  focus
   have F := Aside0.mk (show ruleV (5, n, lo, hi, code) = 3 by simp [ruleV, okR, chkV, boundsV, hc, il])
  rotate_right
  focus
   cases ih : inR hi 0 9999999
   focus
    have F := Aside0.mk (show ruleV (5, n, lo, hi, code) = 3 by simp [ruleV, okR, chkV, boundsV, hc, il, ih])
   rotate_right
   focus
    cases iw : inR n 1 10
    focus
     have F := Aside0.mk (show ruleV (5, n, lo, hi, code) = 3 by simp [ruleV, okR, chkV, boundsV, hc, il, ih, iw])
    rotate_right
    focus
     cases hd : decide (hi < lo)
     focus
      have F := Aside0.mk (show ruleV (5, n, lo, hi, code) = 0 by simp [ruleV, okR, chkV, boundsV, hc, il, ih, iw, Int.not_lt.1 (of_decide_eq_false hd)])
     rotate_right
     focus
      have F := Aside0.mk (show ruleV (5, n, lo, hi, code) = 23 by simp [ruleV, okR, chkV, boundsV, hc, il, ih, iw, of_decide_eq_true hd])
 all_goals
  go_enter Tryz.func49, Tryz.ntmps49
  go_wp2_with (first | (go_at_call 74; (with_reducible refine (ref_valid_call code _ HS.out).mono ?_); rintro e w4 ⟨rfl, hb⟩; replace B1 := Bb B1 hb; replace HB := Ob HB hb; clear hb d0 d1 d2 d3 d4; have d0 := Cl0 B1; have d1 := Cl1 B1; have d2 := Cl2 B1; have d3 := Cl3 B1; have d4 := Cl4 B1) | (go_at_call 48; (with_reducible refine (ref_within33.run _ _ _ _).mono ?_); rintro e w3 ⟨rfl, rfl⟩) | (go_at_call 73; (with_reducible refine (ref_uses_5 _).mono ?_); rintro e w2 ⟨rfl, rfl⟩) | ((with_reducible refine gate_dst (N := 1) rfl ?_); refine box_event (by rfl) (N := 1) (by rfl) (cs := #[.int .i64 5, .int .i64 n, .int .i64 lo, .int .i64 hi, .string code]) (t := 74) ?hr ?_; (case hr => first | (go_simp; done) | (go_simp; rfl)); intro g hg w1 hbx hb; have B1 := As hbx; replace HB := Ob HB hb; have d0 := Cl0 B1; have d1 := Cl1 B1; have d2 := Cl2 B1; have d3 := Cl3 B1; have d4 := Cl4 B1; clear hg hbx hb))
  go_ret
  exact ⟨by rw [F.out]; rfl, HB.out⟩
theorem ref_rule_6 (n lo hi : Int) (code : ByteArray) (w : World) (hs : code.size ≤ reachBytes) :
  Calls Tryz.prog 49 #[.agg #[.int .i64 6, .int .i64 n, .int .i64 lo, .int .i64 hi, .string code]] w fun e w' => e = .returned (.int .i64 (ruleV (6, n, lo, hi, code))) ∧ Below w.heap.size w w' := by
 have HS := Aside0.mk hs
 have HB := Aside0.mk (Below.refl w.heap.size w)
 have h0 : inR 6 1 9 = true := rfl
 clear hs
 cases hc : code.toList.isEmpty
 focus
  have F := Aside0.mk (show ruleV (6, n, lo, hi, code) = 1 by simp [ruleV, okR, chkV, boundsV, hc])
 rotate_right
 focus
  cases il : inR lo 0 9999999
  focus
   have F := Aside0.mk (show ruleV (6, n, lo, hi, code) = 3 by simp [ruleV, okR, chkV, boundsV, hc, il])
  rotate_right
  focus
   cases ih : inR hi 0 9999999
   focus
    have F := Aside0.mk (show ruleV (6, n, lo, hi, code) = 3 by simp [ruleV, okR, chkV, boundsV, hc, il, ih])
   rotate_right
   focus
    cases iw : inR n 1 9999999
    focus
     have F := Aside0.mk (show ruleV (6, n, lo, hi, code) = 3 by simp [ruleV, okR, chkV, boundsV, hc, il, ih, iw])
    rotate_right
    focus
     cases hl : (lo == 0)
     focus
      have hln : (lo != 0) = true := by rw [bne, hl]; rfl
      cases hd : decide (hi < lo)
      focus
       have F := Aside0.mk (show ruleV (6, n, lo, hi, code) = 0 by simp [ruleV, okR, chkV, boundsV, hc, il, ih, iw, hl, Int.not_lt.1 (of_decide_eq_false hd)])
      rotate_right
      focus
       have F := Aside0.mk (show ruleV (6, n, lo, hi, code) = 23 by simp [ruleV, okR, chkV, boundsV, hc, il, ih, iw, hl, of_decide_eq_true hd])
     rotate_right
     focus
      have hln : (lo != 0) = false := by rw [bne, hl]; rfl
      have F := Aside0.mk (show ruleV (6, n, lo, hi, code) = 3 by simp [ruleV, okR, chkV, boundsV, hc, il, ih, iw, hl])
 all_goals
  go_enter Tryz.func49, Tryz.ntmps49
  go_wp2_with (first | (go_at_call 74; (with_reducible refine (ref_valid_call code _ HS.out).mono ?_); rintro e w4 ⟨rfl, hb⟩; replace B1 := Bb B1 hb; replace HB := Ob HB hb; clear hb d0 d1 d2 d3 d4; have d0 := Cl0 B1; have d1 := Cl1 B1; have d2 := Cl2 B1; have d3 := Cl3 B1; have d4 := Cl4 B1) | (go_at_call 48; (with_reducible refine (ref_within33.run _ _ _ _).mono ?_); rintro e w3 ⟨rfl, rfl⟩) | (go_at_call 73; (with_reducible refine (ref_uses_6 _).mono ?_); rintro e w2 ⟨rfl, rfl⟩) | ((with_reducible refine gate_dst (N := 1) rfl ?_); refine box_event (by rfl) (N := 1) (by rfl) (cs := #[.int .i64 6, .int .i64 n, .int .i64 lo, .int .i64 hi, .string code]) (t := 74) ?hr ?_; (case hr => first | (go_simp; done) | (go_simp; rfl)); intro g hg w1 hbx hb; have B1 := As hbx; replace HB := Ob HB hb; have d0 := Cl0 B1; have d1 := Cl1 B1; have d2 := Cl2 B1; have d3 := Cl3 B1; have d4 := Cl4 B1; clear hg hbx hb))
  go_ret
  exact ⟨by rw [F.out]; rfl, HB.out⟩
theorem ref_rule_7 (n lo hi : Int) (code : ByteArray) (w : World) (hs : code.size ≤ reachBytes) :
  Calls Tryz.prog 49 #[.agg #[.int .i64 7, .int .i64 n, .int .i64 lo, .int .i64 hi, .string code]] w fun e w' => e = .returned (.int .i64 (ruleV (7, n, lo, hi, code))) ∧ Below w.heap.size w w' := by
 have HS := Aside0.mk hs
 have HB := Aside0.mk (Below.refl w.heap.size w)
 have h0 : inR 7 1 9 = true := rfl
 clear hs
 cases hc : code.toList.isEmpty
 focus
  have F := Aside0.mk (show ruleV (7, n, lo, hi, code) = 1 by simp [ruleV, okR, chkV, boundsV, hc])
 rotate_right
 focus
  cases hl : (lo == 0)
  focus
   have hln : (lo != 0) = true := by rw [bne, hl]; rfl
   have F := Aside0.mk (show ruleV (7, n, lo, hi, code) = 1 by simp [ruleV, okR, chkV, boundsV, hc, hl])
  rotate_right
  focus
   have hln : (lo != 0) = false := by rw [bne, hl]; rfl
   have zlo : inR lo 0 9999999 = true := by rw [eq_of_beq hl]; rfl
   cases hh : (hi == 0)
   focus
    have hhn : (hi != 0) = true := by rw [bne, hh]; rfl
    have F := Aside0.mk (show ruleV (7, n, lo, hi, code) = 1 by have e_ := eq_of_beq hl; subst e_; simp [ruleV, okR, chkV, boundsV, hc, zlo, hh])
   rotate_right
   focus
    have hhn : (hi != 0) = false := by rw [bne, hh]; rfl
    have zhi : inR hi 0 9999999 = true := by rw [eq_of_beq hh]; rfl
    have zd : decide (hi < lo) = false := by rw [eq_of_beq hl, eq_of_beq hh]; rfl
    cases iw : inR n 1 9999999
    focus
     have F := Aside0.mk (show ruleV (7, n, lo, hi, code) = 3 by have e_ := eq_of_beq hl; subst e_; have e_ := eq_of_beq hh; subst e_; simp [ruleV, okR, chkV, boundsV, hc, zlo, zhi, iw])
    rotate_right
    focus
     have F := Aside0.mk (show ruleV (7, n, lo, hi, code) = 0 by have e_ := eq_of_beq hl; subst e_; have e_ := eq_of_beq hh; subst e_; simp [ruleV, okR, chkV, boundsV, hc, zlo, zhi, iw])
 all_goals
  go_enter Tryz.func49, Tryz.ntmps49
  go_wp2_with (first | (go_at_call 74; (with_reducible refine (ref_valid_call code _ HS.out).mono ?_); rintro e w4 ⟨rfl, hb⟩; replace B1 := Bb B1 hb; replace HB := Ob HB hb; clear hb d0 d1 d2 d3 d4; have d0 := Cl0 B1; have d1 := Cl1 B1; have d2 := Cl2 B1; have d3 := Cl3 B1; have d4 := Cl4 B1) | (go_at_call 48; (with_reducible refine (ref_within33.run _ _ _ _).mono ?_); rintro e w3 ⟨rfl, rfl⟩) | (go_at_call 73; (with_reducible refine (ref_uses_7 _).mono ?_); rintro e w2 ⟨rfl, rfl⟩) | ((with_reducible refine gate_dst (N := 1) rfl ?_); refine box_event (by rfl) (N := 1) (by rfl) (cs := #[.int .i64 7, .int .i64 n, .int .i64 lo, .int .i64 hi, .string code]) (t := 74) ?hr ?_; (case hr => first | (go_simp; done) | (go_simp; rfl)); intro g hg w1 hbx hb; have B1 := As hbx; replace HB := Ob HB hb; have d0 := Cl0 B1; have d1 := Cl1 B1; have d2 := Cl2 B1; have d3 := Cl3 B1; have d4 := Cl4 B1; clear hg hbx hb))
  go_ret
  exact ⟨by rw [F.out]; rfl, HB.out⟩
theorem ref_rule_8 (n lo hi : Int) (code : ByteArray) (w : World) (hs : code.size ≤ reachBytes) :
  Calls Tryz.prog 49 #[.agg #[.int .i64 8, .int .i64 n, .int .i64 lo, .int .i64 hi, .string code]] w fun e w' => e = .returned (.int .i64 (ruleV (8, n, lo, hi, code))) ∧ Below w.heap.size w w' := by
 have HS := Aside0.mk hs
 have HB := Aside0.mk (Below.refl w.heap.size w)
 have h0 : inR 8 1 9 = true := rfl
 clear hs
 cases hc : code.toList.isEmpty
 focus
  have F := Aside0.mk (show ruleV (8, n, lo, hi, code) = 1 by simp [ruleV, okR, chkV, boundsV, hc])
 rotate_right
 focus
  cases hl : (lo == 0)
  focus
   have hln : (lo != 0) = true := by rw [bne, hl]; rfl
   have F := Aside0.mk (show ruleV (8, n, lo, hi, code) = 1 by simp [ruleV, okR, chkV, boundsV, hc, hl])
  rotate_right
  focus
   have hln : (lo != 0) = false := by rw [bne, hl]; rfl
   have zlo : inR lo 0 9999999 = true := by rw [eq_of_beq hl]; rfl
   cases hh : (hi == 0)
   focus
    have hhn : (hi != 0) = true := by rw [bne, hh]; rfl
    have F := Aside0.mk (show ruleV (8, n, lo, hi, code) = 1 by have e_ := eq_of_beq hl; subst e_; simp [ruleV, okR, chkV, boundsV, hc, zlo, hh])
   rotate_right
   focus
    have hhn : (hi != 0) = false := by rw [bne, hh]; rfl
    have zhi : inR hi 0 9999999 = true := by rw [eq_of_beq hh]; rfl
    have zd : decide (hi < lo) = false := by rw [eq_of_beq hl, eq_of_beq hh]; rfl
    cases iw : inR n 1 9999999
    focus
     have F := Aside0.mk (show ruleV (8, n, lo, hi, code) = 3 by have e_ := eq_of_beq hl; subst e_; have e_ := eq_of_beq hh; subst e_; simp [ruleV, okR, chkV, boundsV, hc, zlo, zhi, iw])
    rotate_right
    focus
     have F := Aside0.mk (show ruleV (8, n, lo, hi, code) = 0 by have e_ := eq_of_beq hl; subst e_; have e_ := eq_of_beq hh; subst e_; simp [ruleV, okR, chkV, boundsV, hc, zlo, zhi, iw])
 all_goals
  go_enter Tryz.func49, Tryz.ntmps49
  go_wp2_with (first | (go_at_call 74; (with_reducible refine (ref_valid_call code _ HS.out).mono ?_); rintro e w4 ⟨rfl, hb⟩; replace B1 := Bb B1 hb; replace HB := Ob HB hb; clear hb d0 d1 d2 d3 d4; have d0 := Cl0 B1; have d1 := Cl1 B1; have d2 := Cl2 B1; have d3 := Cl3 B1; have d4 := Cl4 B1) | (go_at_call 48; (with_reducible refine (ref_within33.run _ _ _ _).mono ?_); rintro e w3 ⟨rfl, rfl⟩) | (go_at_call 73; (with_reducible refine (ref_uses_8 _).mono ?_); rintro e w2 ⟨rfl, rfl⟩) | ((with_reducible refine gate_dst (N := 1) rfl ?_); refine box_event (by rfl) (N := 1) (by rfl) (cs := #[.int .i64 8, .int .i64 n, .int .i64 lo, .int .i64 hi, .string code]) (t := 74) ?hr ?_; (case hr => first | (go_simp; done) | (go_simp; rfl)); intro g hg w1 hbx hb; have B1 := As hbx; replace HB := Ob HB hb; have d0 := Cl0 B1; have d1 := Cl1 B1; have d2 := Cl2 B1; have d3 := Cl3 B1; have d4 := Cl4 B1; clear hg hbx hb))
  go_ret
  exact ⟨by rw [F.out]; rfl, HB.out⟩
theorem ref_rule_9 (n lo hi : Int) (code : ByteArray) (w : World) (hs : code.size ≤ reachBytes) :
  Calls Tryz.prog 49 #[.agg #[.int .i64 9, .int .i64 n, .int .i64 lo, .int .i64 hi, .string code]] w fun e w' => e = .returned (.int .i64 (ruleV (9, n, lo, hi, code))) ∧ Below w.heap.size w w' := by
 have HS := Aside0.mk hs
 have HB := Aside0.mk (Below.refl w.heap.size w)
 have h0 : inR 9 1 9 = true := rfl
 clear hs
 cases hc : code.toList.isEmpty
 focus
  have F := Aside0.mk (show ruleV (9, n, lo, hi, code) = 1 by simp [ruleV, okR, chkV, boundsV, hc])
 rotate_right
 focus
  cases hn : (n == 0)
  focus
   have hnn : (n != 0) = true := by rw [bne, hn]; rfl
   have F := Aside0.mk (show ruleV (9, n, lo, hi, code) = 1 by simp [ruleV, okR, chkV, boundsV, hc, hn])
  rotate_right
  focus
   have hnn : (n != 0) = false := by rw [bne, hn]; rfl
   cases hl : (lo == 0)
   focus
    have hln : (lo != 0) = true := by rw [bne, hl]; rfl
    have F := Aside0.mk (show ruleV (9, n, lo, hi, code) = 1 by simp [ruleV, okR, chkV, boundsV, hc, hn, hl])
   rotate_right
   focus
    have hln : (lo != 0) = false := by rw [bne, hl]; rfl
    have zlo : inR lo 0 9999999 = true := by rw [eq_of_beq hl]; rfl
    cases hh : (hi == 0)
    focus
     have hhn : (hi != 0) = true := by rw [bne, hh]; rfl
     have F := Aside0.mk (show ruleV (9, n, lo, hi, code) = 1 by have e_ := eq_of_beq hl; subst e_; simp [ruleV, okR, chkV, boundsV, hc, hn, zlo, hh])
    rotate_right
    focus
     have hhn : (hi != 0) = false := by rw [bne, hh]; rfl
     have zhi : inR hi 0 9999999 = true := by rw [eq_of_beq hh]; rfl
     have zd : decide (hi < lo) = false := by rw [eq_of_beq hl, eq_of_beq hh]; rfl
     have F := Aside0.mk (show ruleV (9, n, lo, hi, code) = 0 by have e_ := eq_of_beq hl; subst e_; have e_ := eq_of_beq hh; subst e_; simp [ruleV, okR, chkV, boundsV, hc, hn, zlo, zhi])
 all_goals
  go_enter Tryz.func49, Tryz.ntmps49
  go_wp2_with (first | (go_at_call 74; (with_reducible refine (ref_valid_call code _ HS.out).mono ?_); rintro e w4 ⟨rfl, hb⟩; replace B1 := Bb B1 hb; replace HB := Ob HB hb; clear hb d0 d1 d2 d3 d4; have d0 := Cl0 B1; have d1 := Cl1 B1; have d2 := Cl2 B1; have d3 := Cl3 B1; have d4 := Cl4 B1) | (go_at_call 48; (with_reducible refine (ref_within33.run _ _ _ _).mono ?_); rintro e w3 ⟨rfl, rfl⟩) | (go_at_call 73; (with_reducible refine (ref_uses_9 _).mono ?_); rintro e w2 ⟨rfl, rfl⟩) | ((with_reducible refine gate_dst (N := 1) rfl ?_); refine box_event (by rfl) (N := 1) (by rfl) (cs := #[.int .i64 9, .int .i64 n, .int .i64 lo, .int .i64 hi, .string code]) (t := 74) ?hr ?_; (case hr => first | (go_simp; done) | (go_simp; rfl)); intro g hg w1 hbx hb; have B1 := As hbx; replace HB := Ob HB hb; have d0 := Cl0 B1; have d1 := Cl1 B1; have d2 := Cl2 B1; have d3 := Cl3 B1; have d4 := Cl4 B1; clear hg hbx hb))
  go_ret
  exact ⟨by rw [F.out]; rfl, HB.out⟩
theorem ref_rule.run (kd n lo hi : Int) (code : ByteArray) (w : World) (hs : code.size ≤ reachBytes) :
  Calls Tryz.prog 49 #[.agg #[.int .i64 kd, .int .i64 n, .int .i64 lo, .int .i64 hi, .string code]] w fun e w' => e = .returned (.int .i64 (ruleV (kd, n, lo, hi, code))) ∧ Below w.heap.size w w' := by
 by_cases hk : 1 ≤ kd ∧ kd ≤ 9
 ·
  have : kd = 1 ∨ kd = 2 ∨ kd = 3 ∨ kd = 4 ∨ kd = 5 ∨ kd = 6 ∨ kd = 7 ∨ kd = 8 ∨ kd = 9 := by omega
  rcases this with rfl | rfl | rfl | rfl | rfl | rfl | rfl | rfl | rfl
  ·
   exact ref_rule_1 n lo hi code w hs
  ·
   exact ref_rule_2 n lo hi code w hs
  ·
   exact ref_rule_3 n lo hi code w hs
  ·
   exact ref_rule_4 n lo hi code w hs
  ·
   exact ref_rule_5 n lo hi code w hs
  ·
   exact ref_rule_6 n lo hi code w hs
  ·
   exact ref_rule_7 n lo hi code w hs
  ·
   exact ref_rule_8 n lo hi code w hs
  ·
   exact ref_rule_9 n lo hi code w hs
 ·
  have HB := Aside0.mk (Below.refl w.heap.size w)
  have h0 : inR kd 1 9 = false := by
   unfold inR
   rw [← Bool.not_eq_true, Bool.and_eq_true, decide_eq_true_iff, decide_eq_true_iff]
   exact hk
  have ho : okR kd n lo hi code = false := by
   unfold okR
   rw [if_neg (by omega), if_neg (by omega), if_neg (by omega), if_neg (by omega), if_neg (by omega), if_neg (by omega)]
  have F := Aside0.mk (show ruleV (kd, n, lo, hi, code) = 1 by unfold ruleV; rw [show okR (kd, n, lo, hi, code).1 (kd, n, lo, hi, code).2.1 (kd, n, lo, hi, code).2.2.1 (kd, n, lo, hi, code).2.2.2.1 (kd, n, lo, hi, code).2.2.2.2 = false from ho]; rfl)
  clear ho
  clear hk hs
  go_enter Tryz.func49, Tryz.ntmps49
  go_wp2_with (first | (go_at_call 48; (with_reducible refine (ref_within33.run _ _ _ _).mono ?_); rintro e w3 ⟨rfl, rfl⟩) | ((with_reducible refine gate_dst (N := 1) rfl ?_); refine box_event (by rfl) (N := 1) (by rfl) (cs := #[.int .i64 kd, .int .i64 n, .int .i64 lo, .int .i64 hi, .string code]) (t := 74) ?hr ?_; (case hr => first | (go_simp; done) | (go_simp; rfl)); intro g hg w1 hbx hb; have B1 := As hbx; replace HB := Ob HB hb; have d0 := Cl0 B1; have d1 := Cl1 B1; have d2 := Cl2 B1; have d3 := Cl3 B1; have d4 := Cl4 B1; clear hg hbx hb))
  go_ret
  exact ⟨by rw [F.out]; rfl, HB.out⟩
end Go.Proofs.YtnmfmiemkcaocaaGreat.Hand
namespace Go.Proofs.YtnmfmiemkcaocaaGreat.Hand
open Go.RowKit Go.Proofs.YtnmfmiemkcaocaaGreatW.PrintWords Go.Proofs.YtnmfmiemkcaocaaGreatW.PrintLast Go.Proofs.YtnmfmiemkcaocaaGreatW.PrintMore
set_option linter.unusedVariables false
set_option linter.unusedSimpArgs false
theorem ref_BValid.run (len : Int) (rs : List RuleT) (A : Option Addr) (cap : Nat) (w : World) (hr : Kd.C k74 w A rs.length rs) (hs : ∀ x ∈ rs, x.2.2.2.2.size ≤ reachBytes) :
  Calls Tryz.prog 26 #[.agg #[.int .i64 len, .slice A rs.length cap]] w fun e w' => e = .returned (.int .i64 (blueV len rs)) ∧ Below w.heap.size w w' := by
 have HR := Aside0.mk hr
 have HS := Aside0.mk hs
 have HB := Aside0.mk (Below.refl w.heap.size w)
 clear hr hs
 cases h1 : inR len 1 18
 ·
  have D := Aside0.mk (show blueV len rs = 3 by unfold blueV; rw [h1]; rfl)
  go_enter Tryz.func26, Tryz.ntmps26
  go_wp2_with (first | (go_at_call 48; (with_reducible refine (ref_within33.run _ _ _ _).mono ?_); rintro e w3 ⟨rfl, rfl⟩) | ((with_reducible refine gate_dst (N := 1) rfl ?_); refine box_event (by rfl) (N := 1) (by rfl) (cs := #[.int .i64 len, .slice A rs.length cap]) (t := 24) ?hr ?_; (case hr => first | (go_simp; done) | (go_simp; rfl)); intro g1 hg w1 hbx hb; have B1 := As hbx; replace HB := Ob HB hb; have d0 := Cl0 B1; have d1 := Cl1 B1; clear hg hbx hb))
  go_ret
  exact ⟨by rw [D.out]; rfl, HB.out⟩
 by_cases c2 : 20 < rs.length
 ·
  have h2 : decide ((20 : Int) < (rs.length : Int)) = true := decide_eq_true (by omega)
  have D := Aside0.mk (show blueV len rs = 5 by unfold blueV; rw [h1, if_pos rfl, if_pos c2])
  clear c2
  go_enter Tryz.func26, Tryz.ntmps26
  go_wp2_with (first | (go_at_call 48; (with_reducible refine (ref_within33.run _ _ _ _).mono ?_); rintro e w3 ⟨rfl, rfl⟩) | ((with_reducible refine gate_dst (N := 1) rfl ?_); refine box_event (by rfl) (N := 1) (by rfl) (cs := #[.int .i64 len, .slice A rs.length cap]) (t := 24) ?hr ?_; (case hr => first | (go_simp; done) | (go_simp; rfl)); intro g1 hg w1 hbx hb; have B1 := As hbx; replace HB := Ob HB hb; have d0 := Cl0 B1; have d1 := Cl1 B1; clear hg hbx hb))
  go_ret
  exact ⟨by rw [D.out]; rfl, HB.out⟩
 have h2 : decide ((20 : Int) < (rs.length : Int)) = false := decide_eq_false (by omega)
 have D := Aside0.mk (show ∀ v, rulesV rs = v → blueV len rs = v by intro v hv; unfold blueV; rw [h1, if_pos rfl, if_neg c2, hv])
 have D2 := Aside0.mk (show rs.length ≤ 20 by omega)
 clear c2
 go_enter Tryz.func26, Tryz.ntmps26
 go_wp2_with (first | (go_at_call 48; (with_reducible refine (ref_within33.run _ _ _ _).mono ?_); rintro e w3 ⟨rfl, rfl⟩) | ((with_reducible refine gate_dst (N := 1) rfl ?_); refine box_event (by rfl) (N := 1) (by rfl) (cs := #[.int .i64 len, .slice A rs.length cap]) (t := 24) ?hr ?_; (case hr => first | (go_simp; done) | (go_simp; rfl)); intro g1 hg w1 hbx hb; have B1 := As hbx; replace HB := Ob HB hb; have d0 := Cl0 B1; have d1 := Cl1 B1; clear hg hbx hb))
 clear d0 d1
 go_loopg [17] rs.length (fun kq v17 w' => ∃ i : Int, v17 = .int .i64 i ∧ Aside0 (i + kq = (rs.length : Int) ∧ kq ≤ rs.length) ∧ Aside0 (∀ j, j < i.toNat → ruleV (rs.getD j noRule) = 0) ∧ Aside0 (Below w.heap.size w w'))
 case atStart => exact ⟨0, rfl, ⟨by omega, Nat.le_refl _⟩, ⟨fun j hj => absurd hj (by simp)⟩, HB⟩
 case round =>
  obtain ⟨i, rfl, HI, HN, HBl⟩ := hrel
  clear HB
  have HB := HBl
  clear HBl
  by_cases ci : i < (rs.length : Int)
  ·
   have d1 : decide (i < (rs.length : Int)) = true := decide_eq_true ci
   have p1 : 0 ≤ i := by have := HI.out; omega
   obtain ⟨gq, hk⟩ : ∃ g1, gk = g1 + 1 := ⟨gk - 1, by have := HI.out; omega⟩
   subst hk
   obtain ⟨q, ad, ea, eq, x0, x1, x2, x3, x4⟩ := rule_at (Kd.C_below HR.out HB.out) i p1 ci
   subst ea
   obtain ⟨x, hx⟩ : ∃ x, rs.getD i.toNat noRule = x := ⟨_, rfl⟩
   rw [hx] at x0 x1 x2 x3 x4
   have hm : x.2.2.2.2.size ≤ reachBytes := by rw [← hx]; exact HS.out _ (getD_mem (by omega))
   obtain ⟨kd, n, lo, hi, code⟩ := x
   simp only at x0 x1 x2 x3 x4 hm
   have HM := Aside0.mk hm
   obtain ⟨i1, hi1⟩ : ∃ i1, IntKind.i64.wrap (i + 1) = i1 := ⟨_, rfl⟩
   obtain ⟨rv, hrv⟩ : ∃ v, ruleV (kd, n, lo, hi, code) = v := ⟨_, rfl⟩
   have E := Aside0.mk (show 0 ≤ i ∧ i < (rs.length : Int) ∧ ruleV (rs.getD i.toNat noRule) = rv from ⟨p1, ci, by rw [hx, hrv]⟩)
   have EV := Aside0.mk hrv
   have p2 := eq_true p1
   have q1 := eq_true ci
   clear hx hm p1 ci hrv
   by_cases cz : rv = 0
   ·
    have kz : (rv == 0) = true := by rw [beq_iff_eq]; exact cz
    have kzn : (rv != 0) = false := by rw [bne, kz]; rfl
    have Z := Aside0.mk cz
    clear cz
    go_wp2_with (first | (go_at_call 49; (with_reducible refine (ref_rule.run kd n lo hi code _ HM.out).mono ?_); rintro e w4 ⟨rfl, hb⟩; replace HB := Ob HB hb; rw [EV.out]; clear hb) | ((with_reducible refine gate_dst (N := 4) rfl ?_); refine box_event (by rfl) (N := 4) (by rfl) (cs := #[.int .i64 0, .int .i64 0, .int .i64 0, .int .i64 0, .string ⟨#[]⟩]) (t := 74) ?hr ?_; (case hr => first | (go_simp; done) | (go_simp; rfl)); intro g4 hg w2 hbx hb; have B4 := As hbx; have G4 := Gg HB hg; replace HB := Ob HB hb; clear hg hbx hb) | ((with_reducible refine gate_store (t := 74) (p := 4) rfl ?_); refine Sto (t := 74) (p := 4) (by rfl) (.tmp 20) (by rfl) (by rfl) g4 #[.int .i64 kd, .int .i64 n, .int .i64 lo, .int .i64 hi, .string code] (by rfl) (by first | rfl | (go_simp; done) | (go_simp; rfl)) B4 (by kernel_rfl) rfl (by kernel_rfl) ?_; intro w3 ho hB2; replace HB := Lo HB ho G4; replace B4 := hB2; have d0 := Cl0 B4; have d1 := Cl1 B4; have d2 := Cl2 B4; have d3 := Cl3 B4; have d4 := Cl4 B4; clear ho hB2))
    go_roundg gq
    case measure => omega
    case rel =>
     obtain ⟨e0, e1, e2⟩ := E.out
     have hI := HI.out
     have ei1 : i1 = i + 1 := by have := D2.out; rw [← hi1, i64_w]; unfold wrap64; omega
     refine ⟨i1, rfl, ⟨by omega, by omega⟩, ⟨fun j hj => ?_⟩, HB⟩
     rcases Nat.lt_or_ge j i.toNat with hh | hh
     ·
      exact HN.out j hh
     ·
      rw [show j = i.toNat by omega, e2, Z.out]
   ·
    have kz : (rv == 0) = false := by rw [beq_eq_false_iff_ne]; exact cz
    have kzn : (rv != 0) = true := by rw [bne, kz]; rfl
    have Z := Aside0.mk cz
    clear cz
    go_wp2_with (first | (go_at_call 49; (with_reducible refine (ref_rule.run kd n lo hi code _ HM.out).mono ?_); rintro e w4 ⟨rfl, hb⟩; replace HB := Ob HB hb; rw [EV.out]; clear hb) | ((with_reducible refine gate_dst (N := 4) rfl ?_); refine box_event (by rfl) (N := 4) (by rfl) (cs := #[.int .i64 0, .int .i64 0, .int .i64 0, .int .i64 0, .string ⟨#[]⟩]) (t := 74) ?hr ?_; (case hr => first | (go_simp; done) | (go_simp; rfl)); intro g4 hg w2 hbx hb; have B4 := As hbx; have G4 := Gg HB hg; replace HB := Ob HB hb; clear hg hbx hb) | ((with_reducible refine gate_store (t := 74) (p := 4) rfl ?_); refine Sto (t := 74) (p := 4) (by rfl) (.tmp 20) (by rfl) (by rfl) g4 #[.int .i64 kd, .int .i64 n, .int .i64 lo, .int .i64 hi, .string code] (by rfl) (by first | rfl | (go_simp; done) | (go_simp; rfl)) B4 (by kernel_rfl) rfl (by kernel_rfl) ?_; intro w3 ho hB2; replace HB := Lo HB ho G4; replace B4 := hB2; have d0 := Cl0 B4; have d1 := Cl1 B4; have d2 := Cl2 B4; have d3 := Cl3 B4; have d4 := Cl4 B4; clear ho hB2))
    go_ret
    refine ⟨?_, HB.out⟩
    obtain ⟨e0, e1, e2⟩ := E.out
    rw [D.out rv (by rw [rulesV_at rs i.toNat (by omega) HN.out (by rw [e2]; exact Z.out), e2])]
    rfl
  ·
   have d1 : decide (i < (rs.length : Int)) = false := decide_eq_false ci
   have F := Aside0.mk (show blueV len rs = 0 from D.out 0 (rulesV_zero rs (fun j hj => HN.out j (by have := HI.out; omega))))
   clear ci
   go_wp2
   go_ret
   exact ⟨by rw [F.out]; rfl, HB.out⟩
end Go.Proofs.YtnmfmiemkcaocaaGreat.Hand
namespace Go.Proofs.YtnmfmiemkcaocaaGreat.Hand
open Go.RowKit Go.Proofs.YtnmfmiemkcaocaaGreatW.PrintWords Go.Proofs.YtnmfmiemkcaocaaGreatW.PrintLast Go.Proofs.YtnmfmiemkcaocaaGreatW.PrintMore
set_option linter.unusedVariables false
set_option linter.unusedSimpArgs false
theorem ev_rowg {ops : Array Oper} {Q : Exit → Act → World → Prop} {rest : List Oper} {o : Oper} {a : Act} {W : World} (hgd : Region.wanted o (yielded ops a.tmps) = true) (cs : Array Value) (t n : Nat)
  (hrun : (execOp a.eval o).run Tryz.prog W = .ok (.value (.slice (some ⟨W.heap.size, 0, none⟩) n n)) (W.alloc (.cells cs t (0, 0))))
  (h : ∀ g, g = W.heap.size → ∀ w1, w1.heap[g]? = some (.cells cs t (0, 0)) → Below W.heap.size W w1 → wpList Tryz.prog ops Q rest (a.put o.dst (.slice (some ⟨g, 0, none⟩) n n)) w1) : wpList Tryz.prog ops Q (o :: rest) a W :=
 wpList_step fun K hK => by
  rw [if_pos hgd]
  unfold Oper.wp
  rw [hrun]
  exact hK _ _ (h _ rfl _ (blk_new W _) (below_alloc (Below.refl _ _) _))
theorem pn1 (n : Nat) : pn false n 1 = n := rfl
theorem pn12 : pn false 1 2 = 1 := rfl
theorem pd1 : pd 1 = 1 := rfl
theorem pd2 : pd 2 = 2 := rfl
theorem most_iff (X Y : Int) : cmpZ (X * (pd 1 : Int)) (pn false 1 1 * Y) ≤ 0 ↔ X ≤ Y := by
 rw [cmpZ_nonpos, pd1, pn1]
 constructor <;> intro h <;> omega
theorem lev_iff (X Y : Int) : 0 < cmpZ (X * (pd 2 : Int)) (pn false 1 2 * Y) ↔ Y < 2 * X := by
 rw [cmpZ_pos, pd2, pn12]
 constructor <;> intro h <;> omega
theorem ref_most.run (s : Bool) (A B : Option Addr) (k c l d a b L1 L2 : Nat) (w : World) (hv : NA w (.slice A k c) a L1) (hu : NA w (.slice B l d) b L2) (hL : L1 + L2 ≤ 30000000) :
  Calls Tryz.prog 31 #[.agg #[.bool s, .slice A k c, .slice B l d]] w fun e w' => e = .returned (.bool (decide (pn s a b ≤ (pd b : Int)))) ∧ Below w.heap.size w w' := by
 have H91 := Aside0.mk hv
 have H92 := Aside0.mk hu
 have HL := Aside0.mk hL
 have HB := Aside0.mk (Below.refl w.heap.size w)
 clear hv hu hL
 by_cases c : pn s a b ≤ (pd b : Int)
 focus
  have K := As (show decide (pn s a b ≤ (pd b : Int)) = true from decide_eq_true c)
  have kc : decide (cmpZ (pn s a b * (pd 1 : Int)) (pn false 1 1 * (pd b : Int)) ≤ 0) = true := decide_eq_true ((most_iff _ _).2 c)
  clear c
 rotate_right
 focus
  have K := As (show decide (pn s a b ≤ (pd b : Int)) = false from decide_eq_false c)
  have kc : decide (cmpZ (pn s a b * (pd 1 : Int)) (pn false 1 1 * (pd b : Int)) ≤ 0) = false := decide_eq_false (fun h => c ((most_iff _ _).1 h))
  clear c
 all_goals
  go_enter Tryz.func31, Tryz.ntmps31
  go_wp2_with (first | (go_at_call 36; (with_reducible refine (ref_RCmp.run s false _ _ _ _ _ _ _ _ _ _ _ _ a b 1 1 L1 L2 1 1 _ (H91.1.be HB.1) (H92.1.be HB.1) H3.1.na H5.1.na (by have := HL.out; omega)).mono ?_); rintro e w6 ⟨rfl, hb⟩; replace H3 := As (H3.1.be hb); replace H5 := As (H5.1.be hb); replace B1 := Bb B1 hb; replace HB := Ob HB hb; clear hb) | ((with_reducible refine gate_dst (N := 6) rfl ?_); refine ev_row (by rfl) #[.int .u32 1] 52 1 ?hr ?_; (case hr => first | (go_simp; done) | (go_simp; rfl)); intro g6 hgx w4 hbx hb; have H5 := Aside0.mk (NA.ofRow1 (a := 1) hbx (by decide)); replace H3 := As (H3.1.be hb); replace B1 := Bb B1 hb; replace HB := Ob HB hb; clear hbx hb hgx) | ((with_reducible refine gate_dst (N := 4) rfl ?_); refine ev_row (by rfl) #[.int .u32 1] 52 1 ?hr ?_; (case hr => first | (go_simp; done) | (go_simp; rfl)); intro g4 hgx w2 hbx hb; have H3 := Aside0.mk (NA.ofRow1 (a := 1) hbx (by decide)); replace B1 := Bb B1 hb; replace HB := Ob HB hb; clear hbx hb hgx) | ((with_reducible refine gate_dst (N := 1) rfl ?_); refine box_event (by rfl) (N := 1) (by rfl) (cs := #[.bool s, .slice A k c, .slice B l d]) (t := 34) ?hr ?_; (case hr => first | (go_simp; done) | (go_simp; rfl)); intro g1 hgx w1 hbx hb; have B1 := As hbx; have G1 := Gg HB hgx; replace HB := Ob HB hb; clear hbx hb hgx; (try clear cb1_0); have cb1_0 := Cl0 B1; (try clear cb1_1); have cb1_1 := Cl1 B1; (try clear cb1_2); have cb1_2 := Cl2 B1))
  go_ret
  exact ⟨by rw [K.out]; rfl, HB.out⟩
theorem ref_level.run (s : Bool) (A B : Option Addr) (k c l d a b L1 L2 : Nat) (w : World) (hv : NA w (.slice A k c) a L1) (hu : NA w (.slice B l d) b L2) (hL : L1 + L2 ≤ 30000000) :
  Calls Tryz.prog 30 #[.agg #[.bool s, .slice A k c, .slice B l d]] w fun e w' => e = .returned (.bool (halfB (pn s a b) (pd b))) ∧ Below w.heap.size w w' := by
 have H91 := Aside0.mk hv
 have H92 := Aside0.mk hu
 have HL := Aside0.mk hL
 have HB := Aside0.mk (Below.refl w.heap.size w)
 clear hv hu hL
 by_cases c : pn s a b ≤ (pd b : Int)
 focus
  have km : decide (pn s a b ≤ (pd b : Int)) = true := decide_eq_true c
  by_cases d : (pd b : Int) < 2 * pn s a b
  focus
   have K := As (show halfB (pn s a b) (pd b) = true by unfold halfB; rw [decide_eq_true d, km]; rfl)
   have kc : decide (0 < cmpZ (pn s a b * (pd 2 : Int)) (pn false 1 2 * (pd b : Int))) = true := decide_eq_true ((lev_iff _ _).2 d)
   clear c d
  rotate_right
  focus
   have K := As (show halfB (pn s a b) (pd b) = false by unfold halfB; rw [decide_eq_false d]; rfl)
   have kc : decide (0 < cmpZ (pn s a b * (pd 2 : Int)) (pn false 1 2 * (pd b : Int))) = false := decide_eq_false (fun h => d ((lev_iff _ _).1 h))
   clear c d
 rotate_right
 focus
  have km : decide (pn s a b ≤ (pd b : Int)) = false := decide_eq_false c
  have K := As (show halfB (pn s a b) (pd b) = false by unfold halfB; rw [km, Bool.and_false])
  clear c
 all_goals
  go_enter Tryz.func30, Tryz.ntmps30
  go_wp2_with (first | (go_at_call 36; (with_reducible refine (ref_RCmp.run s false _ _ _ _ _ _ _ _ _ _ _ _ a b 1 2 L1 L2 1 1 _ (H91.1.be HB.1) (H92.1.be HB.1) H4.1.na H6.1.na (by have := HL.out; omega)).mono ?_); rintro e w7 ⟨rfl, hb⟩; replace H4 := As (H4.1.be hb); replace H6 := As (H6.1.be hb); replace B1 := Bb B1 hb; replace HB := Ob HB hb; clear hb) | ((with_reducible refine gate_dst (N := 9) rfl ?_); refine ev_rowg (by first | rfl | (go_simp; done) | (go_simp; rfl)) #[.int .u32 2] 52 1 ?hr ?_; (case hr => first | (go_simp; done) | (go_simp; rfl)); intro g9 hgx w5 hbx hb; have H6 := Aside0.mk (NA.ofRow1 (a := 2) hbx (by decide)); replace H4 := As (H4.1.be hb); replace B1 := Bb B1 hb; replace HB := Ob HB hb; clear hbx hb hgx) | ((with_reducible refine gate_dst (N := 7) rfl ?_); refine ev_rowg (by first | rfl | (go_simp; done) | (go_simp; rfl)) #[.int .u32 1] 52 1 ?hr ?_; (case hr => first | (go_simp; done) | (go_simp; rfl)); intro g7 hgx w3 hbx hb; have H4 := Aside0.mk (NA.ofRow1 (a := 1) hbx (by decide)); replace B1 := Bb B1 hb; replace HB := Ob HB hb; clear hbx hb hgx) | (go_at_call 31; (with_reducible refine (ref_most.run s _ _ _ _ _ _ a b L1 L2 _ (H91.1.be HB.1) (H92.1.be HB.1) (by have := HL.out; omega)).mono ?_); rintro e w2 ⟨rfl, hb⟩; replace B1 := Bb B1 hb; replace HB := Ob HB hb; clear hb; (try clear cb1_0); have cb1_0 := Cl0 B1; (try clear cb1_1); have cb1_1 := Cl1 B1; (try clear cb1_2); have cb1_2 := Cl2 B1) | ((with_reducible refine gate_dst (N := 1) rfl ?_); refine box_event (by rfl) (N := 1) (by rfl) (cs := #[.bool s, .slice A k c, .slice B l d]) (t := 34) ?hr ?_; (case hr => first | (go_simp; done) | (go_simp; rfl)); intro g1 hgx w1 hbx hb; have B1 := As hbx; have G1 := Gg HB hgx; replace HB := Ob HB hb; clear hbx hb hgx; (try clear cb1_0); have cb1_0 := Cl0 B1; (try clear cb1_1); have cb1_1 := Cl1 B1; (try clear cb1_2); have cb1_2 := Cl2 B1))
  go_ret
  exact ⟨by rw [K.out]; rfl, HB.out⟩
theorem ref_Valid.a (p : Pol) (L : Nat) (w : World) (ok : PolOK w p L) (h : ¬ (blueV p.len p.rs = 0 ∧ gridV p.ps p.qs = 0 ∧ p.en ≤ 400 ∧ inR p.mn 0 p.len = true ∧ 0 ≤ pn p.vs p.vx p.vy ∧ inR p.cut 0 ((p.ps.length : Int) - 1) = true)) :
  Calls Tryz.prog 10 #[.agg #[.int .i64 p.len, .slice p.RA p.rs.length p.rc, .slice p.PA p.ps.length p.pc, .slice p.QA p.qs.length p.qc, .slice p.EA p.en p.ec, .int .i64 p.mn, .bool p.vs, .slice p.vA p.vk p.vc, .slice p.vB p.vl p.vd, .int .i64 p.cut, .bool p.ls, .slice p.lA p.lk p.lc, .slice p.lB p.ll p.ld, .int .i64 p.top, .bool p.ts, .slice p.tA p.tk p.tc, .slice p.tB p.tl p.td, .int .i64 p.slack]] w fun e w' => e = .returned (.int .i64 (validV p)) ∧ Below w.heap.size w w' := by
 have HH := As h
 clear h
 have PO := Aside0.mk ok
 have H91 := Aside0.mk ok.vn
 have H92 := Aside0.mk ok.vd
 have H93 := Aside0.mk ok.ln
 have H94 := Aside0.mk ok.ld
 have H95 := Aside0.mk ok.tn
 have H96 := Aside0.mk ok.td
 have HL := Aside0.mk ok.lim
 have HB := Aside0.mk (Below.refl w.heap.size w)
 clear ok
 obtain ⟨bv, hbv⟩ : ∃ x, blueV p.len p.rs = x := ⟨_, rfl⟩
 have HBV := Aside0.mk hbv
 obtain ⟨gv, hgv⟩ : ∃ x, gridV p.ps p.qs = x := ⟨_, rfl⟩
 have HGV := Aside0.mk hgv
 obtain ⟨cm, hcm⟩ : ∃ x, IntKind.i64.wrap ((p.ps.length : Int) - 1) = x := ⟨_, rfl⟩
 have HCM := Aside0.mk (show (p.ps.length : Int) - 1 = cm by have := PO.out.psl; rw [← hcm, i64_w]; unfold wrap64; omega)
 clear hbv hgv
 by_cases cb : bv = 0
 focus
  have kcb : (bv == 0) = true := by rw [beq_iff_eq]; exact cb
  have kcbn : (bv != 0) = false := by rw [bne, kcb]; rfl
  by_cases cg : gv = 0
  focus
   have kcg : (gv == 0) = true := by rw [beq_iff_eq]; exact cg
   have kcgn : (gv != 0) = false := by rw [bne, kcg]; rfl
   by_cases c4 : 400 < p.en
   focus
    have k4 : decide ((400 : Int) < (p.en : Int)) = true := decide_eq_true (by omega)
    have F := As (show validV p = 5 by
     unfold validV
     rw [HBV.out, HGV.out, HCM.out]
     simp [cb, cg, c4])
   rotate_right
   focus
    have k4 : decide ((400 : Int) < (p.en : Int)) = false := decide_eq_false (by omega)
    cases b1 : inR p.mn 0 p.len
    focus
     have F := As (show validV p = 3 by
      unfold validV
      rw [HBV.out, HGV.out, HCM.out]
      simp [cb, cg, Nat.not_lt.1 c4, b1])
    rotate_right
    focus
     by_cases b2 : pn p.vs p.vx p.vy < 0
     focus
      have kb2 : decide (cmpZ (pn p.vs p.vx p.vy) 0 < 0) = true := decide_eq_true (cmpZ_neg.2 b2)
      have F := As (show validV p = 3 by
       unfold validV
       rw [HBV.out, HGV.out, HCM.out]
       simp [cb, cg, Nat.not_lt.1 c4, b1, b2])
     rotate_right
     focus
      have kb2 : decide (cmpZ (pn p.vs p.vx p.vy) 0 < 0) = false := decide_eq_false (fun h => b2 (cmpZ_neg.1 h))
      have b3 : inR p.cut 0 cm = false := by
       cases b3 : inR p.cut 0 cm
       ·
        rfl
       ·
        exact absurd ⟨by rw [HBV.out]; exact cb, by rw [HGV.out]; exact cg, by omega, b1, by omega, by rw [HCM.out]; exact b3⟩ HH.out
      have F := As (show validV p = 3 by
       unfold validV
       rw [HBV.out, HGV.out, HCM.out]
       simp [cb, cg, Nat.not_lt.1 c4, b1, Int.not_lt.1 b2, b3])
  rotate_right
  focus
   have kcg : (gv == 0) = false := by rw [beq_eq_false_iff_ne]; exact cg
   have kcgn : (gv != 0) = true := by rw [bne, kcg]; rfl
   have F := As (show validV p = gv by
    unfold validV
    rw [HBV.out, HGV.out, HCM.out]
    simp [cb, cg])
 rotate_right
 focus
  have kcb : (bv == 0) = false := by rw [beq_eq_false_iff_ne]; exact cb
  have kcbn : (bv != 0) = true := by rw [bne, kcb]; rfl
  have F := As (show validV p = bv by
   unfold validV
   rw [HBV.out, HGV.out, HCM.out]
   simp [cb])
 all_goals try clear cb
 all_goals try clear cg
 all_goals try clear c4
 all_goals try clear b2
 all_goals
  go_enter Tryz.func10, Tryz.ntmps10
  go_wp2_with (first | (go_at_call 28; (with_reducible refine (ref_within38.run (p.slack) (0) (1000000) _).mono ?_); rintro e w11 ⟨rfl, hw⟩; replace hw := Eq.symm hw; subst hw) | (go_at_call 31; (with_reducible refine (ref_most.run p.ts _ _ _ _ _ _ p.tx p.ty L L _ (H95.1.be HB.1) (H96.1.be HB.1) (by have := HL.out; omega)).mono ?_); rintro e w10 ⟨rfl, hb⟩; replace B1 := Bb B1 hb; replace HB := Ob HB hb; clear hb; (try clear cb1_17); have cb1_17 := Cl17 B1) | (go_at_call 29; (with_reducible refine (ref_RSign.run p.ts _ _ _ _ _ _ p.tx p.ty L L _ (H95.1.be HB.1) (H96.1.be HB.1) (by have := HL.out; omega)).mono ?_); rintro e w9 ⟨rfl, hb⟩; replace B1 := Bb B1 hb; replace HB := Ob HB hb; clear hb; (try clear cb1_14); have cb1_14 := Cl14 B1; (try clear cb1_15); have cb1_15 := Cl15 B1; (try clear cb1_16); have cb1_16 := Cl16 B1) | (go_at_call 28; (with_reducible refine (ref_within38.run (p.top) (1) (5) _).mono ?_); rintro e w8 ⟨rfl, hw⟩; replace hw := Eq.symm hw; subst hw; (try clear cb1_14); have cb1_14 := Cl14 B1; (try clear cb1_15); have cb1_15 := Cl15 B1; (try clear cb1_16); have cb1_16 := Cl16 B1) | (go_at_call 30; (with_reducible refine (ref_level.run p.ls _ _ _ _ _ _ p.lx p.ly L L _ (H93.1.be HB.1) (H94.1.be HB.1) (by have := HL.out; omega)).mono ?_); rintro e w7 ⟨rfl, hb⟩; replace B1 := Bb B1 hb; replace HB := Ob HB hb; clear hb; (try clear cb1_13); have cb1_13 := Cl13 B1) | (go_at_call 28; (with_reducible refine (ref_within38.run (p.cut) (0) (cm) _).mono ?_); rintro e w6 ⟨rfl, hw⟩; replace hw := Eq.symm hw; subst hw; (try clear cb1_10); have cb1_10 := Cl10 B1; (try clear cb1_11); have cb1_11 := Cl11 B1; (try clear cb1_12); have cb1_12 := Cl12 B1) | (go_at_call 29; (with_reducible refine (ref_RSign.run p.vs _ _ _ _ _ _ p.vx p.vy L L _ (H91.1.be HB.1) (H92.1.be HB.1) (by have := HL.out; omega)).mono ?_); rintro e w5 ⟨rfl, hb⟩; replace B1 := Bb B1 hb; replace HB := Ob HB hb; clear hb; (try clear cb1_9); have cb1_9 := Cl9 B1; (try clear cb1_2); have cb1_2 := Cl2 B1) | (go_at_call 28; (with_reducible refine (ref_within38.run (p.mn) (0) (p.len) _).mono ?_); rintro e w4 ⟨rfl, hw⟩; replace hw := Eq.symm hw; subst hw; (try clear cb1_6); have cb1_6 := Cl6 B1; (try clear cb1_7); have cb1_7 := Cl7 B1; (try clear cb1_8); have cb1_8 := Cl8 B1) | (go_at_call 27; (with_reducible refine (ref_GValid.run p.ps p.qs p.PA p.QA p.pc p.qc _ (Kd.C_below PO.out.ps HB.out) (Kd.C_below PO.out.qs HB.out)).mono ?_); rintro e w3 ⟨rfl, hb⟩; replace B1 := Bb B1 hb; replace HB := Ob HB hb; rw [HGV.out]; clear hb; (try clear cb1_4); have cb1_4 := Cl4 B1; (try clear cb1_5); have cb1_5 := Cl5 B1; (try clear cb1_0); have cb1_0 := Cl0 B1) | (go_at_call 26; (with_reducible refine (ref_BValid.run p.len p.rs p.RA p.rc _ (Kd.C_below PO.out.rs HB.out) PO.out.rsz).mono ?_); rintro e w2 ⟨rfl, hb⟩; replace B1 := Bb B1 hb; replace HB := Ob HB hb; rw [HBV.out]; clear hb; (try clear cb1_2); have cb1_2 := Cl2 B1; (try clear cb1_3); have cb1_3 := Cl3 B1) | ((with_reducible refine gate_dst (N := 1) rfl ?_); refine box_event (by rfl) (N := 1) (by rfl) (cs := #[.int .i64 p.len, .slice p.RA p.rs.length p.rc, .slice p.PA p.ps.length p.pc, .slice p.QA p.qs.length p.qc, .slice p.EA p.en p.ec, .int .i64 p.mn, .bool p.vs, .slice p.vA p.vk p.vc, .slice p.vB p.vl p.vd, .int .i64 p.cut, .bool p.ls, .slice p.lA p.lk p.lc, .slice p.lB p.ll p.ld, .int .i64 p.top, .bool p.ts, .slice p.tA p.tk p.tc, .slice p.tB p.tl p.td, .int .i64 p.slack]) (t := 36) ?hr ?_; (case hr => first | (go_simp; done) | (go_simp; rfl)); intro g1 hgx w1 hbx hb; have B1 := As hbx; have G1 := Gg HB hgx; replace HB := Ob HB hb; clear hbx hb hgx; (try clear cb1_0); have cb1_0 := Cl0 B1; (try clear cb1_1); have cb1_1 := Cl1 B1))
  go_ret
  exact ⟨by rw [F.out]; rfl, HB.out⟩
theorem ref_Valid.b (p : Pol) (L : Nat) (w : World) (ok : PolOK w p L) (hh : blueV p.len p.rs = 0 ∧ gridV p.ps p.qs = 0 ∧ p.en ≤ 400 ∧ inR p.mn 0 p.len = true ∧ 0 ≤ pn p.vs p.vx p.vy ∧ inR p.cut 0 ((p.ps.length : Int) - 1) = true) (c0 : (p.cut == 0) = true) :
  Calls Tryz.prog 10 #[.agg #[.int .i64 p.len, .slice p.RA p.rs.length p.rc, .slice p.PA p.ps.length p.pc, .slice p.QA p.qs.length p.qc, .slice p.EA p.en p.ec, .int .i64 p.mn, .bool p.vs, .slice p.vA p.vk p.vc, .slice p.vB p.vl p.vd, .int .i64 p.cut, .bool p.ls, .slice p.lA p.lk p.lc, .slice p.lB p.ll p.ld, .int .i64 p.top, .bool p.ts, .slice p.tA p.tk p.tc, .slice p.tB p.tl p.td, .int .i64 p.slack]] w fun e w' => e = .returned (.int .i64 (validV p)) ∧ Below w.heap.size w w' := by
 have PO := Aside0.mk ok
 have H91 := Aside0.mk ok.vn
 have H92 := Aside0.mk ok.vd
 have H93 := Aside0.mk ok.ln
 have H94 := Aside0.mk ok.ld
 have H95 := Aside0.mk ok.tn
 have H96 := Aside0.mk ok.td
 have HL := Aside0.mk ok.lim
 have HB := Aside0.mk (Below.refl w.heap.size w)
 clear ok
 obtain ⟨bv, hbv⟩ : ∃ x, blueV p.len p.rs = x := ⟨_, rfl⟩
 have HBV := Aside0.mk hbv
 obtain ⟨gv, hgv⟩ : ∃ x, gridV p.ps p.qs = x := ⟨_, rfl⟩
 have HGV := Aside0.mk hgv
 obtain ⟨cm, hcm⟩ : ∃ x, IntKind.i64.wrap ((p.ps.length : Int) - 1) = x := ⟨_, rfl⟩
 have HCM := Aside0.mk (show (p.ps.length : Int) - 1 = cm by have := PO.out.psl; rw [← hcm, i64_w]; unfold wrap64; omega)
 clear hbv hgv
 obtain ⟨cb, cg, c4, b1, b2, b3⟩ := hh
 rw [HBV.out] at cb
 rw [HGV.out] at cg
 rw [HCM.out] at b3
 have kcb : (bv == 0) = true := by rw [beq_iff_eq]; exact cb
 have kcbn : (bv != 0) = false := by rw [bne, kcb]; rfl
 have kcg : (gv == 0) = true := by rw [beq_iff_eq]; exact cg
 have kcgn : (gv != 0) = false := by rw [bne, kcg]; rfl
 have k4 : decide ((400 : Int) < (p.en : Int)) = false := decide_eq_false (by omega)
 have kb2 : decide (cmpZ (pn p.vs p.vx p.vy) 0 < 0) = false := decide_eq_false (fun h => Int.not_lt.2 b2 (cmpZ_neg.1 h))
 have c0n : (p.cut != 0) = false := by rw [bne, c0]; rfl
 have e0 : p.cut = 0 := eq_of_beq c0
 have b3z : inR 0 0 cm = true := by (have h := b3; rw [e0] at h; exact h)
 cases b5 : inR p.top 1 5
 focus
  have F := As (show validV p = 3 by
   unfold validV
   rw [HBV.out, HGV.out, HCM.out]
   simp [cb, cg, Nat.not_lt.2 c4, b1, Int.not_lt.2 b2, b3, e0, b3z, b5])
 rotate_right
 focus
  by_cases b6 : pn p.ts p.tx p.ty ≤ 0
  focus
   have kr : decide (cmpZ (pn p.ts p.tx p.ty) 0 ≤ 0) = true := decide_eq_true (cmpZ_nonpos.2 b6)
   have b7 : unitB (pn p.ts p.tx p.ty) (pd p.ty) = false := by unfold unitB; rw [decide_eq_false (Int.not_lt.2 b6)]; rfl
   have F := As (show validV p = 3 by
    unfold validV
    rw [HBV.out, HGV.out, HCM.out]
    simp [cb, cg, Nat.not_lt.2 c4, b1, Int.not_lt.2 b2, b3, e0, b3z, b5, b7])
  rotate_right
  focus
   have kr : decide (cmpZ (pn p.ts p.tx p.ty) 0 ≤ 0) = false := decide_eq_false (fun h => b6 (cmpZ_nonpos.1 h))
   by_cases b8 : pn p.ts p.tx p.ty ≤ (pd p.ty : Int)
   focus
    have km : decide (pn p.ts p.tx p.ty ≤ (pd p.ty : Int)) = true := decide_eq_true b8
    have b7 : unitB (pn p.ts p.tx p.ty) (pd p.ty) = true := by unfold unitB; rw [decide_eq_true (Int.not_le.1 b6), km]; rfl
    cases b9 : inR p.slack 0 1000000
    focus
     have F := As (show validV p = 3 by
      unfold validV
      rw [HBV.out, HGV.out, HCM.out]
      simp [cb, cg, Nat.not_lt.2 c4, b1, Int.not_lt.2 b2, b3, e0, b3z, b5, b7, b9])
    rotate_right
    focus
     have F := As (show validV p = 0 by
      unfold validV
      rw [HBV.out, HGV.out, HCM.out]
      simp [cb, cg, Nat.not_lt.2 c4, b1, Int.not_lt.2 b2, b3, e0, b3z, b5, b7, b9])
   rotate_right
   focus
    have km : decide (pn p.ts p.tx p.ty ≤ (pd p.ty : Int)) = false := decide_eq_false b8
    have b7 : unitB (pn p.ts p.tx p.ty) (pd p.ty) = false := by unfold unitB; rw [km, Bool.and_false]
    have F := As (show validV p = 3 by
     unfold validV
     rw [HBV.out, HGV.out, HCM.out]
     simp [cb, cg, Nat.not_lt.2 c4, b1, Int.not_lt.2 b2, b3, e0, b3z, b5, b7])
 all_goals clear cb
 all_goals clear cg
 all_goals clear c4
 all_goals clear b2
 all_goals try clear b6
 all_goals try clear b8
 all_goals try clear b7
 all_goals clear e0
 all_goals
  go_enter Tryz.func10, Tryz.ntmps10
  go_wp2_with (first | (go_at_call 28; (with_reducible refine (ref_within38.run (p.slack) (0) (1000000) _).mono ?_); rintro e w10 ⟨rfl, hw⟩; replace hw := Eq.symm hw; subst hw) | (go_at_call 31; (with_reducible refine (ref_most.run p.ts _ _ _ _ _ _ p.tx p.ty L L _ (H95.1.be HB.1) (H96.1.be HB.1) (by have := HL.out; omega)).mono ?_); rintro e w9 ⟨rfl, hb⟩; replace B1 := Bb B1 hb; replace HB := Ob HB hb; clear hb; (try clear cb1_17); have cb1_17 := Cl17 B1) | (go_at_call 29; (with_reducible refine (ref_RSign.run p.ts _ _ _ _ _ _ p.tx p.ty L L _ (H95.1.be HB.1) (H96.1.be HB.1) (by have := HL.out; omega)).mono ?_); rintro e w8 ⟨rfl, hb⟩; replace B1 := Bb B1 hb; replace HB := Ob HB hb; clear hb; (try clear cb1_14); have cb1_14 := Cl14 B1; (try clear cb1_15); have cb1_15 := Cl15 B1; (try clear cb1_16); have cb1_16 := Cl16 B1) | (go_at_call 28; (with_reducible refine (ref_within38.run (p.top) (1) (5) _).mono ?_); rintro e w7 ⟨rfl, hw⟩; replace hw := Eq.symm hw; subst hw; (try clear cb1_14); have cb1_14 := Cl14 B1; (try clear cb1_15); have cb1_15 := Cl15 B1; (try clear cb1_16); have cb1_16 := Cl16 B1) | (go_at_call 28; (with_reducible refine (ref_within38.run (p.cut) (0) (cm) _).mono ?_); rintro e w6 ⟨rfl, hw⟩; replace hw := Eq.symm hw; subst hw; (try clear cb1_13); have cb1_13 := Cl13 B1) | (go_at_call 29; (with_reducible refine (ref_RSign.run p.vs _ _ _ _ _ _ p.vx p.vy L L _ (H91.1.be HB.1) (H92.1.be HB.1) (by have := HL.out; omega)).mono ?_); rintro e w5 ⟨rfl, hb⟩; replace B1 := Bb B1 hb; replace HB := Ob HB hb; clear hb; (try clear cb1_9); have cb1_9 := Cl9 B1; (try clear cb1_2); have cb1_2 := Cl2 B1) | (go_at_call 28; (with_reducible refine (ref_within38.run (p.mn) (0) (p.len) _).mono ?_); rintro e w4 ⟨rfl, hw⟩; replace hw := Eq.symm hw; subst hw; (try clear cb1_6); have cb1_6 := Cl6 B1; (try clear cb1_7); have cb1_7 := Cl7 B1; (try clear cb1_8); have cb1_8 := Cl8 B1) | (go_at_call 27; (with_reducible refine (ref_GValid.run p.ps p.qs p.PA p.QA p.pc p.qc _ (Kd.C_below PO.out.ps HB.out) (Kd.C_below PO.out.qs HB.out)).mono ?_); rintro e w3 ⟨rfl, hb⟩; replace B1 := Bb B1 hb; replace HB := Ob HB hb; rw [HGV.out]; clear hb; (try clear cb1_4); have cb1_4 := Cl4 B1; (try clear cb1_5); have cb1_5 := Cl5 B1; (try clear cb1_0); have cb1_0 := Cl0 B1) | (go_at_call 26; (with_reducible refine (ref_BValid.run p.len p.rs p.RA p.rc _ (Kd.C_below PO.out.rs HB.out) PO.out.rsz).mono ?_); rintro e w2 ⟨rfl, hb⟩; replace B1 := Bb B1 hb; replace HB := Ob HB hb; rw [HBV.out]; clear hb; (try clear cb1_2); have cb1_2 := Cl2 B1; (try clear cb1_3); have cb1_3 := Cl3 B1) | ((with_reducible refine gate_dst (N := 1) rfl ?_); refine box_event (by rfl) (N := 1) (by rfl) (cs := #[.int .i64 p.len, .slice p.RA p.rs.length p.rc, .slice p.PA p.ps.length p.pc, .slice p.QA p.qs.length p.qc, .slice p.EA p.en p.ec, .int .i64 p.mn, .bool p.vs, .slice p.vA p.vk p.vc, .slice p.vB p.vl p.vd, .int .i64 p.cut, .bool p.ls, .slice p.lA p.lk p.lc, .slice p.lB p.ll p.ld, .int .i64 p.top, .bool p.ts, .slice p.tA p.tk p.tc, .slice p.tB p.tl p.td, .int .i64 p.slack]) (t := 36) ?hr ?_; (case hr => first | (go_simp; done) | (go_simp; rfl)); intro g1 hgx w1 hbx hb; have B1 := As hbx; have G1 := Gg HB hgx; replace HB := Ob HB hb; clear hbx hb hgx; (try clear cb1_0); have cb1_0 := Cl0 B1; (try clear cb1_1); have cb1_1 := Cl1 B1))
  go_ret
  exact ⟨by rw [F.out]; rfl, HB.out⟩
theorem ref_Valid.c (p : Pol) (L : Nat) (w : World) (ok : PolOK w p L) (hh : blueV p.len p.rs = 0 ∧ gridV p.ps p.qs = 0 ∧ p.en ≤ 400 ∧ inR p.mn 0 p.len = true ∧ 0 ≤ pn p.vs p.vx p.vy ∧ inR p.cut 0 ((p.ps.length : Int) - 1) = true) (c0 : (p.cut == 0) = false) :
  Calls Tryz.prog 10 #[.agg #[.int .i64 p.len, .slice p.RA p.rs.length p.rc, .slice p.PA p.ps.length p.pc, .slice p.QA p.qs.length p.qc, .slice p.EA p.en p.ec, .int .i64 p.mn, .bool p.vs, .slice p.vA p.vk p.vc, .slice p.vB p.vl p.vd, .int .i64 p.cut, .bool p.ls, .slice p.lA p.lk p.lc, .slice p.lB p.ll p.ld, .int .i64 p.top, .bool p.ts, .slice p.tA p.tk p.tc, .slice p.tB p.tl p.td, .int .i64 p.slack]] w fun e w' => e = .returned (.int .i64 (validV p)) ∧ Below w.heap.size w w' := by
 have PO := Aside0.mk ok
 have H91 := Aside0.mk ok.vn
 have H92 := Aside0.mk ok.vd
 have H93 := Aside0.mk ok.ln
 have H94 := Aside0.mk ok.ld
 have H95 := Aside0.mk ok.tn
 have H96 := Aside0.mk ok.td
 have HL := Aside0.mk ok.lim
 have HB := Aside0.mk (Below.refl w.heap.size w)
 clear ok
 obtain ⟨bv, hbv⟩ : ∃ x, blueV p.len p.rs = x := ⟨_, rfl⟩
 have HBV := Aside0.mk hbv
 obtain ⟨gv, hgv⟩ : ∃ x, gridV p.ps p.qs = x := ⟨_, rfl⟩
 have HGV := Aside0.mk hgv
 obtain ⟨cm, hcm⟩ : ∃ x, IntKind.i64.wrap ((p.ps.length : Int) - 1) = x := ⟨_, rfl⟩
 have HCM := Aside0.mk (show (p.ps.length : Int) - 1 = cm by have := PO.out.psl; rw [← hcm, i64_w]; unfold wrap64; omega)
 clear hbv hgv
 obtain ⟨cb, cg, c4, b1, b2, b3⟩ := hh
 rw [HBV.out] at cb
 rw [HGV.out] at cg
 rw [HCM.out] at b3
 have kcb : (bv == 0) = true := by rw [beq_iff_eq]; exact cb
 have kcbn : (bv != 0) = false := by rw [bne, kcb]; rfl
 have kcg : (gv == 0) = true := by rw [beq_iff_eq]; exact cg
 have kcgn : (gv != 0) = false := by rw [bne, kcg]; rfl
 have k4 : decide ((400 : Int) < (p.en : Int)) = false := decide_eq_false (by omega)
 have kb2 : decide (cmpZ (pn p.vs p.vx p.vy) 0 < 0) = false := decide_eq_false (fun h => Int.not_lt.2 b2 (cmpZ_neg.1 h))
 have c0n : (p.cut != 0) = true := by rw [bne, c0]; rfl
 have e0 : p.cut ≠ 0 := by rw [← beq_eq_false_iff_ne]; exact c0
 cases b4 : halfB (pn p.ls p.lx p.ly) (pd p.ly)
 focus
  have F := As (show validV p = 3 by
   unfold validV
   rw [HBV.out, HGV.out, HCM.out]
   simp [cb, cg, Nat.not_lt.2 c4, b1, Int.not_lt.2 b2, b3, e0, b4])
 rotate_right
 focus
  cases b5 : inR p.top 1 5
  focus
   have F := As (show validV p = 3 by
    unfold validV
    rw [HBV.out, HGV.out, HCM.out]
    simp [cb, cg, Nat.not_lt.2 c4, b1, Int.not_lt.2 b2, b3, e0, b4, b5])
  rotate_right
  focus
   by_cases b6 : pn p.ts p.tx p.ty ≤ 0
   focus
    have kr : decide (cmpZ (pn p.ts p.tx p.ty) 0 ≤ 0) = true := decide_eq_true (cmpZ_nonpos.2 b6)
    have b7 : unitB (pn p.ts p.tx p.ty) (pd p.ty) = false := by unfold unitB; rw [decide_eq_false (Int.not_lt.2 b6)]; rfl
    have F := As (show validV p = 3 by
     unfold validV
     rw [HBV.out, HGV.out, HCM.out]
     simp [cb, cg, Nat.not_lt.2 c4, b1, Int.not_lt.2 b2, b3, e0, b4, b5, b7])
   rotate_right
   focus
    have kr : decide (cmpZ (pn p.ts p.tx p.ty) 0 ≤ 0) = false := decide_eq_false (fun h => b6 (cmpZ_nonpos.1 h))
    by_cases b8 : pn p.ts p.tx p.ty ≤ (pd p.ty : Int)
    focus
     have km : decide (pn p.ts p.tx p.ty ≤ (pd p.ty : Int)) = true := decide_eq_true b8
     have b7 : unitB (pn p.ts p.tx p.ty) (pd p.ty) = true := by unfold unitB; rw [decide_eq_true (Int.not_le.1 b6), km]; rfl
     cases b9 : inR p.slack 0 1000000
     focus
      have F := As (show validV p = 3 by
       unfold validV
       rw [HBV.out, HGV.out, HCM.out]
       simp [cb, cg, Nat.not_lt.2 c4, b1, Int.not_lt.2 b2, b3, e0, b4, b5, b7, b9])
     rotate_right
     focus
      have F := As (show validV p = 0 by
       unfold validV
       rw [HBV.out, HGV.out, HCM.out]
       simp [cb, cg, Nat.not_lt.2 c4, b1, Int.not_lt.2 b2, b3, e0, b4, b5, b7, b9])
    rotate_right
    focus
     have km : decide (pn p.ts p.tx p.ty ≤ (pd p.ty : Int)) = false := decide_eq_false b8
     have b7 : unitB (pn p.ts p.tx p.ty) (pd p.ty) = false := by unfold unitB; rw [km, Bool.and_false]
     have F := As (show validV p = 3 by
      unfold validV
      rw [HBV.out, HGV.out, HCM.out]
      simp [cb, cg, Nat.not_lt.2 c4, b1, Int.not_lt.2 b2, b3, e0, b4, b5, b7])
 all_goals clear cb
 all_goals clear cg
 all_goals clear c4
 all_goals clear b2
 all_goals try clear b6
 all_goals try clear b8
 all_goals try clear b7
 all_goals clear e0
 all_goals
  go_enter Tryz.func10, Tryz.ntmps10
  go_wp2_with (first | (go_at_call 28; (with_reducible refine (ref_within38.run (p.slack) (0) (1000000) _).mono ?_); rintro e w11 ⟨rfl, hw⟩; replace hw := Eq.symm hw; subst hw) | (go_at_call 31; (with_reducible refine (ref_most.run p.ts _ _ _ _ _ _ p.tx p.ty L L _ (H95.1.be HB.1) (H96.1.be HB.1) (by have := HL.out; omega)).mono ?_); rintro e w10 ⟨rfl, hb⟩; replace B1 := Bb B1 hb; replace HB := Ob HB hb; clear hb; (try clear cb1_17); have cb1_17 := Cl17 B1) | (go_at_call 29; (with_reducible refine (ref_RSign.run p.ts _ _ _ _ _ _ p.tx p.ty L L _ (H95.1.be HB.1) (H96.1.be HB.1) (by have := HL.out; omega)).mono ?_); rintro e w9 ⟨rfl, hb⟩; replace B1 := Bb B1 hb; replace HB := Ob HB hb; clear hb; (try clear cb1_14); have cb1_14 := Cl14 B1; (try clear cb1_15); have cb1_15 := Cl15 B1; (try clear cb1_16); have cb1_16 := Cl16 B1) | (go_at_call 28; (with_reducible refine (ref_within38.run (p.top) (1) (5) _).mono ?_); rintro e w8 ⟨rfl, hw⟩; replace hw := Eq.symm hw; subst hw; (try clear cb1_14); have cb1_14 := Cl14 B1; (try clear cb1_15); have cb1_15 := Cl15 B1; (try clear cb1_16); have cb1_16 := Cl16 B1) | (go_at_call 30; (with_reducible refine (ref_level.run p.ls _ _ _ _ _ _ p.lx p.ly L L _ (H93.1.be HB.1) (H94.1.be HB.1) (by have := HL.out; omega)).mono ?_); rintro e w7 ⟨rfl, hb⟩; replace B1 := Bb B1 hb; replace HB := Ob HB hb; clear hb; (try clear cb1_13); have cb1_13 := Cl13 B1) | (go_at_call 28; (with_reducible refine (ref_within38.run (p.cut) (0) (cm) _).mono ?_); rintro e w6 ⟨rfl, hw⟩; replace hw := Eq.symm hw; subst hw; (try clear cb1_10); have cb1_10 := Cl10 B1; (try clear cb1_11); have cb1_11 := Cl11 B1; (try clear cb1_12); have cb1_12 := Cl12 B1) | (go_at_call 29; (with_reducible refine (ref_RSign.run p.vs _ _ _ _ _ _ p.vx p.vy L L _ (H91.1.be HB.1) (H92.1.be HB.1) (by have := HL.out; omega)).mono ?_); rintro e w5 ⟨rfl, hb⟩; replace B1 := Bb B1 hb; replace HB := Ob HB hb; clear hb; (try clear cb1_9); have cb1_9 := Cl9 B1; (try clear cb1_2); have cb1_2 := Cl2 B1) | (go_at_call 28; (with_reducible refine (ref_within38.run (p.mn) (0) (p.len) _).mono ?_); rintro e w4 ⟨rfl, hw⟩; replace hw := Eq.symm hw; subst hw; (try clear cb1_6); have cb1_6 := Cl6 B1; (try clear cb1_7); have cb1_7 := Cl7 B1; (try clear cb1_8); have cb1_8 := Cl8 B1) | (go_at_call 27; (with_reducible refine (ref_GValid.run p.ps p.qs p.PA p.QA p.pc p.qc _ (Kd.C_below PO.out.ps HB.out) (Kd.C_below PO.out.qs HB.out)).mono ?_); rintro e w3 ⟨rfl, hb⟩; replace B1 := Bb B1 hb; replace HB := Ob HB hb; rw [HGV.out]; clear hb; (try clear cb1_4); have cb1_4 := Cl4 B1; (try clear cb1_5); have cb1_5 := Cl5 B1; (try clear cb1_0); have cb1_0 := Cl0 B1) | (go_at_call 26; (with_reducible refine (ref_BValid.run p.len p.rs p.RA p.rc _ (Kd.C_below PO.out.rs HB.out) PO.out.rsz).mono ?_); rintro e w2 ⟨rfl, hb⟩; replace B1 := Bb B1 hb; replace HB := Ob HB hb; rw [HBV.out]; clear hb; (try clear cb1_2); have cb1_2 := Cl2 B1; (try clear cb1_3); have cb1_3 := Cl3 B1) | ((with_reducible refine gate_dst (N := 1) rfl ?_); refine box_event (by rfl) (N := 1) (by rfl) (cs := #[.int .i64 p.len, .slice p.RA p.rs.length p.rc, .slice p.PA p.ps.length p.pc, .slice p.QA p.qs.length p.qc, .slice p.EA p.en p.ec, .int .i64 p.mn, .bool p.vs, .slice p.vA p.vk p.vc, .slice p.vB p.vl p.vd, .int .i64 p.cut, .bool p.ls, .slice p.lA p.lk p.lc, .slice p.lB p.ll p.ld, .int .i64 p.top, .bool p.ts, .slice p.tA p.tk p.tc, .slice p.tB p.tl p.td, .int .i64 p.slack]) (t := 36) ?hr ?_; (case hr => first | (go_simp; done) | (go_simp; rfl)); intro g1 hgx w1 hbx hb; have B1 := As hbx; have G1 := Gg HB hgx; replace HB := Ob HB hb; clear hbx hb hgx; (try clear cb1_0); have cb1_0 := Cl0 B1; (try clear cb1_1); have cb1_1 := Cl1 B1))
  go_ret
  exact ⟨by rw [F.out]; rfl, HB.out⟩
theorem ref_Valid.run (p : Pol) (L : Nat) (w : World) (ok : PolOK w p L) : Calls Tryz.prog 10 #[.agg #[.int .i64 p.len, .slice p.RA p.rs.length p.rc, .slice p.PA p.ps.length p.pc, .slice p.QA p.qs.length p.qc, .slice p.EA p.en p.ec, .int .i64 p.mn, .bool p.vs, .slice p.vA p.vk p.vc, .slice p.vB p.vl p.vd, .int .i64 p.cut, .bool p.ls, .slice p.lA p.lk p.lc, .slice p.lB p.ll p.ld, .int .i64 p.top, .bool p.ts, .slice p.tA p.tk p.tc, .slice p.tB p.tl p.td, .int .i64 p.slack]] w fun e w' => e = .returned (.int .i64 (validV p)) ∧ Below w.heap.size w w' := by
 by_cases h : blueV p.len p.rs = 0 ∧ gridV p.ps p.qs = 0 ∧ p.en ≤ 400 ∧ inR p.mn 0 p.len = true ∧ 0 ≤ pn p.vs p.vx p.vy ∧ inR p.cut 0 ((p.ps.length : Int) - 1) = true
 ·
  cases c : (p.cut == 0)
  ·
   exact ref_Valid.c p L w ok h c
  ·
   exact ref_Valid.b p L w ok h c
 ·
  exact ref_Valid.a p L w ok h
end Go.Proofs.YtnmfmiemkcaocaaGreat.Hand
