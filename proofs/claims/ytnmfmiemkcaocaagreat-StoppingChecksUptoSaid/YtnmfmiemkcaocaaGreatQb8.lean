/- Parts of the proof, joined: StB, StC, StD, AwA. No condition. -/
import Derived.Test.YtnmfmiemkcaocaaGreatQb7
set_option maxHeartbeats 8000000
set_option maxRecDepth 100000
namespace Go.Proofs.YtnmfmiemkcaocaaGreat.Hand
open Go.RowKit Go.Proofs.YtnmfmiemkcaocaaGreatW.PrintWords Go.Proofs.YtnmfmiemkcaocaaGreatW.PrintLast Go.Proofs.YtnmfmiemkcaocaaGreatW.PrintMore
set_option linter.unusedVariables false
set_option linter.unusedSimpArgs false
theorem cmpZ_neg {x : Int} : cmpZ x 0 < 0 ↔ x < 0 := by
 rcases cmpZ_cases x 0 with ⟨h, e⟩ | ⟨h, e⟩ | ⟨h, e⟩ <;> rw [e] <;> constructor <;> intro _ <;> omega
theorem stopping_Valid.a (p : Pol) (L : Nat) (w : World) (ok : PolOK w p L) (h : ¬ (blueV p.len p.rs = 0 ∧ gridV p.ps p.qs = 0 ∧ p.en ≤ 400 ∧ inR p.mn 0 p.len = true ∧ 0 ≤ pn p.vs p.vx p.vy ∧ inR p.cut 0 ((p.ps.length : Int) - 1) = true)) :
  Calls Tryz.prog 9 #[.agg #[.int .i64 p.len, .slice p.RA p.rs.length p.rc, .slice p.PA p.ps.length p.pc, .slice p.QA p.qs.length p.qc, .slice p.EA p.en p.ec, .int .i64 p.mn, .bool p.vs, .slice p.vA p.vk p.vc, .slice p.vB p.vl p.vd, .int .i64 p.cut, .bool p.ls, .slice p.lA p.lk p.lc, .slice p.lB p.ll p.ld, .int .i64 p.top, .bool p.ts, .slice p.tA p.tk p.tc, .slice p.tB p.tl p.td, .int .i64 p.slack]] w fun e w' => e = .returned (.int .i64 (validV p)) ∧ Below w.heap.size w w' := by
 have HH := As h
 clear h
 have PO := Aside0.mk ok
 have H91 := Aside0.mk ok.vn
 have H92 := Aside0.mk ok.vd
 have H93 := Aside0.mk ok.ln
 have H94 := Aside0.mk ok.ld
 have H95 := Aside0.mk ok.tn
 have H96 := Aside0.mk ok.td
 have HL := Aside0.mk ok.lim
 have HB := Aside0.mk (Below.refl w.heap.size w)
 clear ok
 obtain ⟨bv, hbv⟩ : ∃ x, blueV p.len p.rs = x := ⟨_, rfl⟩
 have HBV := Aside0.mk hbv
 obtain ⟨gv, hgv⟩ : ∃ x, gridV p.ps p.qs = x := ⟨_, rfl⟩
 have HGV := Aside0.mk hgv
 obtain ⟨cm, hcm⟩ : ∃ x, IntKind.i64.wrap ((p.ps.length : Int) - 1) = x := ⟨_, rfl⟩
 have HCM := Aside0.mk (show (p.ps.length : Int) - 1 = cm by have := PO.out.psl; rw [← hcm, i64_w]; unfold wrap64; omega)
 clear hbv hgv
 by_cases cb : bv = 0
 focus
  have kcb : (bv == 0) = true := by rw [beq_iff_eq]; exact cb
  have kcbn : (bv != 0) = false := by rw [bne, kcb]; rfl
  by_cases cg : gv = 0
  focus
   have kcg : (gv == 0) = true := by rw [beq_iff_eq]; exact cg
   have kcgn : (gv != 0) = false := by rw [bne, kcg]; rfl
   by_cases c4 : 400 < p.en
   focus
    have k4 : decide ((400 : Int) < (p.en : Int)) = true := decide_eq_true (by omega)
    have F := As (show validV p = 5 by
     unfold validV
     rw [HBV.out, HGV.out, HCM.out]
     simp [cb, cg, c4])
   rotate_right
   focus
    have k4 : decide ((400 : Int) < (p.en : Int)) = false := decide_eq_false (by omega)
    cases b1 : inR p.mn 0 p.len
    focus
     have F := As (show validV p = 3 by
      unfold validV
      rw [HBV.out, HGV.out, HCM.out]
      simp [cb, cg, Nat.not_lt.1 c4, b1])
    rotate_right
    focus
     by_cases b2 : pn p.vs p.vx p.vy < 0
     focus
      have kb2 : decide (cmpZ (pn p.vs p.vx p.vy) 0 < 0) = true := decide_eq_true (cmpZ_neg.2 b2)
      have F := As (show validV p = 3 by
       unfold validV
       rw [HBV.out, HGV.out, HCM.out]
       simp [cb, cg, Nat.not_lt.1 c4, b1, b2])
     rotate_right
     focus
      have kb2 : decide (cmpZ (pn p.vs p.vx p.vy) 0 < 0) = false := decide_eq_false (fun h => b2 (cmpZ_neg.1 h))
      have b3 : inR p.cut 0 cm = false := by
       cases b3 : inR p.cut 0 cm
       ·
        rfl
       ·
        exact absurd ⟨by rw [HBV.out]; exact cb, by rw [HGV.out]; exact cg, by omega, b1, by omega, by rw [HCM.out]; exact b3⟩ HH.out
      have F := As (show validV p = 3 by
       unfold validV
       rw [HBV.out, HGV.out, HCM.out]
       simp [cb, cg, Nat.not_lt.1 c4, b1, Int.not_lt.1 b2, b3])
  rotate_right
  focus
   have kcg : (gv == 0) = false := by rw [beq_eq_false_iff_ne]; exact cg
   have kcgn : (gv != 0) = true := by rw [bne, kcg]; rfl
   have F := As (show validV p = gv by
    unfold validV
    rw [HBV.out, HGV.out, HCM.out]
    simp [cb, cg])
 rotate_right
 focus
  have kcb : (bv == 0) = false := by rw [beq_eq_false_iff_ne]; exact cb
  have kcbn : (bv != 0) = true := by rw [bne, kcb]; rfl
  have F := As (show validV p = bv by
   unfold validV
   rw [HBV.out, HGV.out, HCM.out]
   simp [cb])
 all_goals try clear cb
 all_goals try clear cg
 all_goals try clear c4
 all_goals try clear b2
 all_goals
  go_enter Tryz.func9, Tryz.ntmps9
  go_wp2_with (first | (go_at_call 24; (with_reducible refine (st_within.run (p.slack) (0) (1000000) _).mono ?_); rintro e w20 ⟨rfl, hw⟩; replace hw := Eq.symm hw; subst hw) | (go_at_call 25; (with_reducible refine (stopping_above.run p.ts s4 _ _ _ _ _ _ _ _ _ _ _ _ p.tx p.ty n4 m4 L L 4 4 _ (H95.1.be HB.1) (H96.1.be HB.1) H5.1.na H6.1.na (by have := HL.out; omega)).mono ?_); rintro e w19 ⟨rfl, hb⟩; replace H5 := As (H5.1.be hb); replace H6 := As (H6.1.be hb); replace H10 := As (H10.1.be hb); replace H11 := As (H11.1.be hb); replace B1 := Bb B1 hb; replace B5 := Bb B5 hb; replace B7 := Bb B7 hb; replace HB := Ob HB hb; have ka : (aboveB (pn p.ts p.tx p.ty) (pd p.ty) (pn s4 n4 m4) (pd m4)) = unitB (pn p.ts p.tx p.ty) (pd p.ty) := (by have q := F4.out; rw [pn_of q.1, pd_of q.1, zero_above q.2 (by have := q.1; omega) (by have := pd_pos p.ty; omega)]); rw [ka]; clear ka; clear hb; (try clear cb1_17); have cb1_17 := Cl17 B1) | (go_at_call 24; (with_reducible refine (st_within.run (p.top) (1) (5) _).mono ?_); rintro e w18 ⟨rfl, hw⟩; replace hw := Eq.symm hw; subst hw; (try clear cb1_14); have cb1_14 := Cl14 B1; (try clear cb1_15); have cb1_15 := Cl15 B1; (try clear cb1_16); have cb1_16 := Cl16 B1; (try clear cb5_0); have cb5_0 := Cl0 B5; (try clear cb5_1); have cb5_1 := Cl1 B5; (try clear cb5_2); have cb5_2 := Cl2 B5) | (go_at_call 25; (with_reducible refine (stopping_above.run p.ls s9 _ _ _ _ _ _ _ _ _ _ _ _ p.lx p.ly n9 m9 L L 4 4 _ (H93.1.be HB.1) (H94.1.be HB.1) H10.1.na H11.1.na (by have := HL.out; omega)).mono ?_); rintro e w17 ⟨rfl, hb⟩; replace H5 := As (H5.1.be hb); replace H6 := As (H6.1.be hb); replace H10 := As (H10.1.be hb); replace H11 := As (H11.1.be hb); replace B1 := Bb B1 hb; replace B5 := Bb B5 hb; replace B7 := Bb B7 hb; replace HB := Ob HB hb; have ka : (aboveB (pn p.ls p.lx p.ly) (pd p.ly) (pn s9 n9 m9) (pd m9)) = halfB (pn p.ls p.lx p.ly) (pd p.ly) := (by have q := F9.out; rw [pn_of q.1, pd_of q.1, half_above q.2 (by have := q.1; omega)]); rw [ka]; clear ka; clear hb; (try clear cb1_13); have cb1_13 := Cl13 B1) | (go_at_call 24; (with_reducible refine (st_within.run (p.cut) (0) (cm) _).mono ?_); rintro e w16 ⟨rfl, hw⟩; replace hw := Eq.symm hw; subst hw; (try clear cb1_10); have cb1_10 := Cl10 B1; (try clear cb1_11); have cb1_11 := Cl11 B1; (try clear cb1_12); have cb1_12 := Cl12 B1; (try clear cb7_0); have cb7_0 := Cl0 B7; (try clear cb7_1); have cb7_1 := Cl1 B7; (try clear cb7_2); have cb7_2 := Cl2 B7) | (go_at_call 20; (with_reducible refine (ratio_Sign.run p.vs _ _ _ _ _ _ p.vx p.vy L L _ (H91.1.be HB.1) (H92.1.be HB.1) (by have := HL.out; omega)).mono ?_); rintro e w15 ⟨rfl, hb⟩; replace H5 := As (H5.1.be hb); replace H6 := As (H6.1.be hb); replace H10 := As (H10.1.be hb); replace H11 := As (H11.1.be hb); replace B1 := Bb B1 hb; replace B5 := Bb B5 hb; replace B7 := Bb B7 hb; replace HB := Ob HB hb; clear hb; (try clear cb1_9); have cb1_9 := Cl9 B1; (try clear cb1_2); have cb1_2 := Cl2 B1) | (go_at_call 24; (with_reducible refine (st_within.run (p.mn) (0) (p.len) _).mono ?_); rintro e w14 ⟨rfl, hw⟩; replace hw := Eq.symm hw; subst hw; (try clear cb1_6); have cb1_6 := Cl6 B1; (try clear cb1_7); have cb1_7 := Cl7 B1; (try clear cb1_8); have cb1_8 := Cl8 B1) | ((with_reducible refine gate_store (t := 34) (p := 7) rfl ?_); refine Sto (t := 34) (p := 7) (by rfl) (.tmp 31) (by rfl) (by rfl) g7 #[.bool s9, .slice A9 k9 c9, .slice D9 l9 d9] (by rfl) (by first | rfl | (go_simp; done) | (go_simp; rfl)) B7 (by kernel_rfl) rfl (by kernel_rfl) ?_; intro w13 ho hB2; replace H5 := As (H5.1.o3 ho B7); replace H6 := As (H6.1.o3 ho B7); replace H10 := As (H10.1.o3 ho B7); replace H11 := As (H11.1.o3 ho B7); replace B1 := Oo B1 ho NE1_7; replace B5 := Oo B5 ho NE5_7; replace HB := Lo HB ho G7; replace B7 := hB2; clear ho hB2; (try clear cb1_5); have cb1_5 := Cl5 B1; (try clear cb1_0); have cb1_0 := Cl0 B1) | ((with_reducible refine gate_dst (N := 7) rfl ?_); refine box_event (by rfl) (N := 7) (by rfl) (cs := #[.bool false, .slice none 0 0, .slice none 0 0]) (t := 34) ?hr ?_; (case hr => first | (go_simp; done) | (go_simp; rfl)); intro g7 hgx w12 hbx hb; have B7 := As hbx; have NE1_7 := Nn B1 hgx; have NE5_7 := Nn B5 hgx; have G7 := Gg HB hgx; replace H5 := As (H5.1.be hb); replace H6 := As (H6.1.be hb); replace H10 := As (H10.1.be hb); replace H11 := As (H11.1.be hb); replace B1 := Bb B1 hb; replace B5 := Bb B5 hb; replace HB := Ob HB hb; clear hbx hb hgx) | (go_at_call 23; (with_reducible refine (ratio_Of.run (1) (2) _ (by decide) (by decide) (by decide) (by decide)).mono ?_); rintro e w9 ⟨s9, A9, k9, c9, D9, l9, d9, n9, m9, rfl, hq9, hr9, hm9, hz9, hb⟩; have H10 := Aside0.mk hq9; have H11 := Aside0.mk hr9; have F9 := Aside0.mk (And.intro hm9 hz9); clear hq9 hr9 hm9 hz9; replace H5 := As (H5.1.be hb); replace H6 := As (H6.1.be hb); replace B1 := Bb B1 hb; replace B5 := Bb B5 hb; replace HB := Ob HB hb; clear hb) | ((with_reducible refine gate_store (t := 34) (p := 5) rfl ?_); refine Sto (t := 34) (p := 5) (by rfl) (.tmp 27) (by rfl) (by rfl) g5 #[.bool s4, .slice A4 k4 c4, .slice D4 l4 d4] (by rfl) (by first | rfl | (go_simp; done) | (go_simp; rfl)) B5 (by kernel_rfl) rfl (by kernel_rfl) ?_; intro w8 ho hB2; replace H5 := As (H5.1.o3 ho B5); replace H6 := As (H6.1.o3 ho B5); replace B1 := Oo B1 ho NE1_5; replace HB := Lo HB ho G5; replace B5 := hB2; clear ho hB2) | ((with_reducible refine gate_dst (N := 5) rfl ?_); refine box_event (by rfl) (N := 5) (by rfl) (cs := #[.bool false, .slice none 0 0, .slice none 0 0]) (t := 34) ?hr ?_; (case hr => first | (go_simp; done) | (go_simp; rfl)); intro g5 hgx w7 hbx hb; have B5 := As hbx; have NE1_5 := Nn B1 hgx; have G5 := Gg HB hgx; replace H5 := As (H5.1.be hb); replace H6 := As (H6.1.be hb); replace B1 := Bb B1 hb; replace HB := Ob HB hb; clear hbx hb hgx) | (go_at_call 23; (with_reducible refine (ratio_Of.run (0) (1) _ (by decide) (by decide) (by decide) (by decide)).mono ?_); rintro e w4 ⟨s4, A4, k4, c4, D4, l4, d4, n4, m4, rfl, hq4, hr4, hm4, hz4, hb⟩; have H5 := Aside0.mk hq4; have H6 := Aside0.mk hr4; have F4 := Aside0.mk (And.intro hm4 hz4); clear hq4 hr4 hm4 hz4; replace B1 := Bb B1 hb; replace HB := Ob HB hb; clear hb) | (go_at_call 22; (with_reducible refine (grid_Valid.run p.ps p.qs p.PA p.QA p.pc p.qc _ (Kd.C_below PO.out.ps HB.out) (Kd.C_below PO.out.qs HB.out) PO.out.psc).mono ?_); rintro e w3 ⟨rfl, hb⟩; replace B1 := Bb B1 hb; replace HB := Ob HB hb; rw [HGV.out]; clear hb; (try clear cb1_4); have cb1_4 := Cl4 B1) | (go_at_call 21; (with_reducible refine (blueprint_Valid.run p.len p.rs p.RA p.rc _ (Kd.C_below PO.out.rs HB.out) PO.out.rsz).mono ?_); rintro e w2 ⟨rfl, hb⟩; replace B1 := Bb B1 hb; replace HB := Ob HB hb; rw [HBV.out]; clear hb; (try clear cb1_2); have cb1_2 := Cl2 B1; (try clear cb1_3); have cb1_3 := Cl3 B1) | ((with_reducible refine gate_dst (N := 1) rfl ?_); refine box_event (by rfl) (N := 1) (by rfl) (cs := #[.int .i64 p.len, .slice p.RA p.rs.length p.rc, .slice p.PA p.ps.length p.pc, .slice p.QA p.qs.length p.qc, .slice p.EA p.en p.ec, .int .i64 p.mn, .bool p.vs, .slice p.vA p.vk p.vc, .slice p.vB p.vl p.vd, .int .i64 p.cut, .bool p.ls, .slice p.lA p.lk p.lc, .slice p.lB p.ll p.ld, .int .i64 p.top, .bool p.ts, .slice p.tA p.tk p.tc, .slice p.tB p.tl p.td, .int .i64 p.slack]) (t := 36) ?hr ?_; (case hr => first | (go_simp; done) | (go_simp; rfl)); intro g1 hgx w1 hbx hb; have B1 := As hbx; have G1 := Gg HB hgx; replace HB := Ob HB hb; clear hbx hb hgx; (try clear cb1_0); have cb1_0 := Cl0 B1; (try clear cb1_1); have cb1_1 := Cl1 B1))
  go_ret
  exact ⟨by rw [F.out]; rfl, HB.out⟩
theorem stopping_Valid.b (p : Pol) (L : Nat) (w : World) (ok : PolOK w p L) (hh : blueV p.len p.rs = 0 ∧ gridV p.ps p.qs = 0 ∧ p.en ≤ 400 ∧ inR p.mn 0 p.len = true ∧ 0 ≤ pn p.vs p.vx p.vy ∧ inR p.cut 0 ((p.ps.length : Int) - 1) = true) (c0 : (p.cut == 0) = true) :
  Calls Tryz.prog 9 #[.agg #[.int .i64 p.len, .slice p.RA p.rs.length p.rc, .slice p.PA p.ps.length p.pc, .slice p.QA p.qs.length p.qc, .slice p.EA p.en p.ec, .int .i64 p.mn, .bool p.vs, .slice p.vA p.vk p.vc, .slice p.vB p.vl p.vd, .int .i64 p.cut, .bool p.ls, .slice p.lA p.lk p.lc, .slice p.lB p.ll p.ld, .int .i64 p.top, .bool p.ts, .slice p.tA p.tk p.tc, .slice p.tB p.tl p.td, .int .i64 p.slack]] w fun e w' => e = .returned (.int .i64 (validV p)) ∧ Below w.heap.size w w' := by
 have PO := Aside0.mk ok
 have H91 := Aside0.mk ok.vn
 have H92 := Aside0.mk ok.vd
 have H93 := Aside0.mk ok.ln
 have H94 := Aside0.mk ok.ld
 have H95 := Aside0.mk ok.tn
 have H96 := Aside0.mk ok.td
 have HL := Aside0.mk ok.lim
 have HB := Aside0.mk (Below.refl w.heap.size w)
 clear ok
 obtain ⟨bv, hbv⟩ : ∃ x, blueV p.len p.rs = x := ⟨_, rfl⟩
 have HBV := Aside0.mk hbv
 obtain ⟨gv, hgv⟩ : ∃ x, gridV p.ps p.qs = x := ⟨_, rfl⟩
 have HGV := Aside0.mk hgv
 obtain ⟨cm, hcm⟩ : ∃ x, IntKind.i64.wrap ((p.ps.length : Int) - 1) = x := ⟨_, rfl⟩
 have HCM := Aside0.mk (show (p.ps.length : Int) - 1 = cm by have := PO.out.psl; rw [← hcm, i64_w]; unfold wrap64; omega)
 clear hbv hgv
 obtain ⟨cb, cg, c4, b1, b2, b3⟩ := hh
 rw [HBV.out] at cb
 rw [HGV.out] at cg
 rw [HCM.out] at b3
 have kcb : (bv == 0) = true := by rw [beq_iff_eq]; exact cb
 have kcbn : (bv != 0) = false := by rw [bne, kcb]; rfl
 have kcg : (gv == 0) = true := by rw [beq_iff_eq]; exact cg
 have kcgn : (gv != 0) = false := by rw [bne, kcg]; rfl
 have k4 : decide ((400 : Int) < (p.en : Int)) = false := decide_eq_false (by omega)
 have kb2 : decide (cmpZ (pn p.vs p.vx p.vy) 0 < 0) = false := decide_eq_false (fun h => Int.not_lt.2 b2 (cmpZ_neg.1 h))
 have c0n : (p.cut != 0) = false := by rw [bne, c0]; rfl
 have e0 : p.cut = 0 := eq_of_beq c0
 have b3z : inR 0 0 cm = true := by (have h := b3; rw [e0] at h; exact h)
 cases b5 : inR p.top 1 5
 focus
  have F := As (show validV p = 3 by
   unfold validV
   rw [HBV.out, HGV.out, HCM.out]
   simp [cb, cg, Nat.not_lt.2 c4, b1, Int.not_lt.2 b2, b3, e0, b3z, b5])
 rotate_right
 focus
  cases b6 : unitB (pn p.ts p.tx p.ty) (pd p.ty)
  focus
   have F := As (show validV p = 3 by
    unfold validV
    rw [HBV.out, HGV.out, HCM.out]
    simp [cb, cg, Nat.not_lt.2 c4, b1, Int.not_lt.2 b2, b3, e0, b3z, b5, b6])
  rotate_right
  focus
   cases b7 : inR p.slack 0 1000000
   focus
    have F := As (show validV p = 3 by
     unfold validV
     rw [HBV.out, HGV.out, HCM.out]
     simp [cb, cg, Nat.not_lt.2 c4, b1, Int.not_lt.2 b2, b3, e0, b3z, b5, b6, b7])
   rotate_right
   focus
    have F := As (show validV p = 0 by
     unfold validV
     rw [HBV.out, HGV.out, HCM.out]
     simp [cb, cg, Nat.not_lt.2 c4, b1, Int.not_lt.2 b2, b3, e0, b3z, b5, b6, b7])
 all_goals clear cb
 all_goals clear cg
 all_goals clear c4
 all_goals clear b2
 all_goals clear e0
 all_goals
  go_enter Tryz.func9, Tryz.ntmps9
  go_wp2_with (first | (go_at_call 24; (with_reducible refine (st_within.run (p.slack) (0) (1000000) _).mono ?_); rintro e w19 ⟨rfl, hw⟩; replace hw := Eq.symm hw; subst hw) | (go_at_call 25; (with_reducible refine (stopping_above.run p.ts s4 _ _ _ _ _ _ _ _ _ _ _ _ p.tx p.ty n4 m4 L L 4 4 _ (H95.1.be HB.1) (H96.1.be HB.1) H5.1.na H6.1.na (by have := HL.out; omega)).mono ?_); rintro e w18 ⟨rfl, hb⟩; replace H5 := As (H5.1.be hb); replace H6 := As (H6.1.be hb); replace H10 := As (H10.1.be hb); replace H11 := As (H11.1.be hb); replace B1 := Bb B1 hb; replace B5 := Bb B5 hb; replace B7 := Bb B7 hb; replace HB := Ob HB hb; have ka : (aboveB (pn p.ts p.tx p.ty) (pd p.ty) (pn s4 n4 m4) (pd m4)) = unitB (pn p.ts p.tx p.ty) (pd p.ty) := (by have q := F4.out; rw [pn_of q.1, pd_of q.1, zero_above q.2 (by have := q.1; omega) (by have := pd_pos p.ty; omega)]); rw [ka]; clear ka; clear hb; (try clear cb1_17); have cb1_17 := Cl17 B1) | (go_at_call 24; (with_reducible refine (st_within.run (p.top) (1) (5) _).mono ?_); rintro e w17 ⟨rfl, hw⟩; replace hw := Eq.symm hw; subst hw; (try clear cb1_14); have cb1_14 := Cl14 B1; (try clear cb1_15); have cb1_15 := Cl15 B1; (try clear cb1_16); have cb1_16 := Cl16 B1; (try clear cb5_0); have cb5_0 := Cl0 B5; (try clear cb5_1); have cb5_1 := Cl1 B5; (try clear cb5_2); have cb5_2 := Cl2 B5) | (go_at_call 24; (with_reducible refine (st_within.run (p.cut) (0) (cm) _).mono ?_); rintro e w16 ⟨rfl, hw⟩; replace hw := Eq.symm hw; subst hw; (try clear cb1_13); have cb1_13 := Cl13 B1) | (go_at_call 20; (with_reducible refine (ratio_Sign.run p.vs _ _ _ _ _ _ p.vx p.vy L L _ (H91.1.be HB.1) (H92.1.be HB.1) (by have := HL.out; omega)).mono ?_); rintro e w15 ⟨rfl, hb⟩; replace H5 := As (H5.1.be hb); replace H6 := As (H6.1.be hb); replace H10 := As (H10.1.be hb); replace H11 := As (H11.1.be hb); replace B1 := Bb B1 hb; replace B5 := Bb B5 hb; replace B7 := Bb B7 hb; replace HB := Ob HB hb; clear hb; (try clear cb1_9); have cb1_9 := Cl9 B1; (try clear cb1_2); have cb1_2 := Cl2 B1) | (go_at_call 24; (with_reducible refine (st_within.run (p.mn) (0) (p.len) _).mono ?_); rintro e w14 ⟨rfl, hw⟩; replace hw := Eq.symm hw; subst hw; (try clear cb1_6); have cb1_6 := Cl6 B1; (try clear cb1_7); have cb1_7 := Cl7 B1; (try clear cb1_8); have cb1_8 := Cl8 B1) | ((with_reducible refine gate_store (t := 34) (p := 7) rfl ?_); refine Sto (t := 34) (p := 7) (by rfl) (.tmp 31) (by rfl) (by rfl) g7 #[.bool s9, .slice A9 k9 c9, .slice D9 l9 d9] (by rfl) (by first | rfl | (go_simp; done) | (go_simp; rfl)) B7 (by kernel_rfl) rfl (by kernel_rfl) ?_; intro w13 ho hB2; replace H5 := As (H5.1.o3 ho B7); replace H6 := As (H6.1.o3 ho B7); replace H10 := As (H10.1.o3 ho B7); replace H11 := As (H11.1.o3 ho B7); replace B1 := Oo B1 ho NE1_7; replace B5 := Oo B5 ho NE5_7; replace HB := Lo HB ho G7; replace B7 := hB2; clear ho hB2; (try clear cb1_5); have cb1_5 := Cl5 B1; (try clear cb1_0); have cb1_0 := Cl0 B1) | ((with_reducible refine gate_dst (N := 7) rfl ?_); refine box_event (by rfl) (N := 7) (by rfl) (cs := #[.bool false, .slice none 0 0, .slice none 0 0]) (t := 34) ?hr ?_; (case hr => first | (go_simp; done) | (go_simp; rfl)); intro g7 hgx w12 hbx hb; have B7 := As hbx; have NE1_7 := Nn B1 hgx; have NE5_7 := Nn B5 hgx; have G7 := Gg HB hgx; replace H5 := As (H5.1.be hb); replace H6 := As (H6.1.be hb); replace H10 := As (H10.1.be hb); replace H11 := As (H11.1.be hb); replace B1 := Bb B1 hb; replace B5 := Bb B5 hb; replace HB := Ob HB hb; clear hbx hb hgx) | (go_at_call 23; (with_reducible refine (ratio_Of.run (1) (2) _ (by decide) (by decide) (by decide) (by decide)).mono ?_); rintro e w9 ⟨s9, A9, k9, c9, D9, l9, d9, n9, m9, rfl, hq9, hr9, hm9, hz9, hb⟩; have H10 := Aside0.mk hq9; have H11 := Aside0.mk hr9; have F9 := Aside0.mk (And.intro hm9 hz9); clear hq9 hr9 hm9 hz9; replace H5 := As (H5.1.be hb); replace H6 := As (H6.1.be hb); replace B1 := Bb B1 hb; replace B5 := Bb B5 hb; replace HB := Ob HB hb; clear hb) | ((with_reducible refine gate_store (t := 34) (p := 5) rfl ?_); refine Sto (t := 34) (p := 5) (by rfl) (.tmp 27) (by rfl) (by rfl) g5 #[.bool s4, .slice A4 k4 c4, .slice D4 l4 d4] (by rfl) (by first | rfl | (go_simp; done) | (go_simp; rfl)) B5 (by kernel_rfl) rfl (by kernel_rfl) ?_; intro w8 ho hB2; replace H5 := As (H5.1.o3 ho B5); replace H6 := As (H6.1.o3 ho B5); replace B1 := Oo B1 ho NE1_5; replace HB := Lo HB ho G5; replace B5 := hB2; clear ho hB2) | ((with_reducible refine gate_dst (N := 5) rfl ?_); refine box_event (by rfl) (N := 5) (by rfl) (cs := #[.bool false, .slice none 0 0, .slice none 0 0]) (t := 34) ?hr ?_; (case hr => first | (go_simp; done) | (go_simp; rfl)); intro g5 hgx w7 hbx hb; have B5 := As hbx; have NE1_5 := Nn B1 hgx; have G5 := Gg HB hgx; replace H5 := As (H5.1.be hb); replace H6 := As (H6.1.be hb); replace B1 := Bb B1 hb; replace HB := Ob HB hb; clear hbx hb hgx) | (go_at_call 23; (with_reducible refine (ratio_Of.run (0) (1) _ (by decide) (by decide) (by decide) (by decide)).mono ?_); rintro e w4 ⟨s4, A4, k4, c4, D4, l4, d4, n4, m4, rfl, hq4, hr4, hm4, hz4, hb⟩; have H5 := Aside0.mk hq4; have H6 := Aside0.mk hr4; have F4 := Aside0.mk (And.intro hm4 hz4); clear hq4 hr4 hm4 hz4; replace B1 := Bb B1 hb; replace HB := Ob HB hb; clear hb) | (go_at_call 22; (with_reducible refine (grid_Valid.run p.ps p.qs p.PA p.QA p.pc p.qc _ (Kd.C_below PO.out.ps HB.out) (Kd.C_below PO.out.qs HB.out) PO.out.psc).mono ?_); rintro e w3 ⟨rfl, hb⟩; replace B1 := Bb B1 hb; replace HB := Ob HB hb; rw [HGV.out]; clear hb; (try clear cb1_4); have cb1_4 := Cl4 B1) | (go_at_call 21; (with_reducible refine (blueprint_Valid.run p.len p.rs p.RA p.rc _ (Kd.C_below PO.out.rs HB.out) PO.out.rsz).mono ?_); rintro e w2 ⟨rfl, hb⟩; replace B1 := Bb B1 hb; replace HB := Ob HB hb; rw [HBV.out]; clear hb; (try clear cb1_2); have cb1_2 := Cl2 B1; (try clear cb1_3); have cb1_3 := Cl3 B1) | ((with_reducible refine gate_dst (N := 1) rfl ?_); refine box_event (by rfl) (N := 1) (by rfl) (cs := #[.int .i64 p.len, .slice p.RA p.rs.length p.rc, .slice p.PA p.ps.length p.pc, .slice p.QA p.qs.length p.qc, .slice p.EA p.en p.ec, .int .i64 p.mn, .bool p.vs, .slice p.vA p.vk p.vc, .slice p.vB p.vl p.vd, .int .i64 p.cut, .bool p.ls, .slice p.lA p.lk p.lc, .slice p.lB p.ll p.ld, .int .i64 p.top, .bool p.ts, .slice p.tA p.tk p.tc, .slice p.tB p.tl p.td, .int .i64 p.slack]) (t := 36) ?hr ?_; (case hr => first | (go_simp; done) | (go_simp; rfl)); intro g1 hgx w1 hbx hb; have B1 := As hbx; have G1 := Gg HB hgx; replace HB := Ob HB hb; clear hbx hb hgx; (try clear cb1_0); have cb1_0 := Cl0 B1; (try clear cb1_1); have cb1_1 := Cl1 B1))
  go_ret
  exact ⟨by rw [F.out]; rfl, HB.out⟩
theorem stopping_Valid.c (p : Pol) (L : Nat) (w : World) (ok : PolOK w p L) (hh : blueV p.len p.rs = 0 ∧ gridV p.ps p.qs = 0 ∧ p.en ≤ 400 ∧ inR p.mn 0 p.len = true ∧ 0 ≤ pn p.vs p.vx p.vy ∧ inR p.cut 0 ((p.ps.length : Int) - 1) = true) (c0 : (p.cut == 0) = false) :
  Calls Tryz.prog 9 #[.agg #[.int .i64 p.len, .slice p.RA p.rs.length p.rc, .slice p.PA p.ps.length p.pc, .slice p.QA p.qs.length p.qc, .slice p.EA p.en p.ec, .int .i64 p.mn, .bool p.vs, .slice p.vA p.vk p.vc, .slice p.vB p.vl p.vd, .int .i64 p.cut, .bool p.ls, .slice p.lA p.lk p.lc, .slice p.lB p.ll p.ld, .int .i64 p.top, .bool p.ts, .slice p.tA p.tk p.tc, .slice p.tB p.tl p.td, .int .i64 p.slack]] w fun e w' => e = .returned (.int .i64 (validV p)) ∧ Below w.heap.size w w' := by
 have PO := Aside0.mk ok
 have H91 := Aside0.mk ok.vn
 have H92 := Aside0.mk ok.vd
 have H93 := Aside0.mk ok.ln
 have H94 := Aside0.mk ok.ld
 have H95 := Aside0.mk ok.tn
 have H96 := Aside0.mk ok.td
 have HL := Aside0.mk ok.lim
 have HB := Aside0.mk (Below.refl w.heap.size w)
 clear ok
 obtain ⟨bv, hbv⟩ : ∃ x, blueV p.len p.rs = x := ⟨_, rfl⟩
 have HBV := Aside0.mk hbv
 obtain ⟨gv, hgv⟩ : ∃ x, gridV p.ps p.qs = x := ⟨_, rfl⟩
 have HGV := Aside0.mk hgv
 obtain ⟨cm, hcm⟩ : ∃ x, IntKind.i64.wrap ((p.ps.length : Int) - 1) = x := ⟨_, rfl⟩
 have HCM := Aside0.mk (show (p.ps.length : Int) - 1 = cm by have := PO.out.psl; rw [← hcm, i64_w]; unfold wrap64; omega)
 clear hbv hgv
 obtain ⟨cb, cg, c4, b1, b2, b3⟩ := hh
 rw [HBV.out] at cb
 rw [HGV.out] at cg
 rw [HCM.out] at b3
 have kcb : (bv == 0) = true := by rw [beq_iff_eq]; exact cb
 have kcbn : (bv != 0) = false := by rw [bne, kcb]; rfl
 have kcg : (gv == 0) = true := by rw [beq_iff_eq]; exact cg
 have kcgn : (gv != 0) = false := by rw [bne, kcg]; rfl
 have k4 : decide ((400 : Int) < (p.en : Int)) = false := decide_eq_false (by omega)
 have kb2 : decide (cmpZ (pn p.vs p.vx p.vy) 0 < 0) = false := decide_eq_false (fun h => Int.not_lt.2 b2 (cmpZ_neg.1 h))
 have c0n : (p.cut != 0) = true := by rw [bne, c0]; rfl
 have e0 : p.cut ≠ 0 := by rw [← beq_eq_false_iff_ne]; exact c0
 cases b4 : halfB (pn p.ls p.lx p.ly) (pd p.ly)
 focus
  have F := As (show validV p = 3 by
   unfold validV
   rw [HBV.out, HGV.out, HCM.out]
   simp [cb, cg, Nat.not_lt.2 c4, b1, Int.not_lt.2 b2, b3, e0, b4])
 rotate_right
 focus
  cases b5 : inR p.top 1 5
  focus
   have F := As (show validV p = 3 by
    unfold validV
    rw [HBV.out, HGV.out, HCM.out]
    simp [cb, cg, Nat.not_lt.2 c4, b1, Int.not_lt.2 b2, b3, e0, b4, b5])
  rotate_right
  focus
   cases b6 : unitB (pn p.ts p.tx p.ty) (pd p.ty)
   focus
    have F := As (show validV p = 3 by
     unfold validV
     rw [HBV.out, HGV.out, HCM.out]
     simp [cb, cg, Nat.not_lt.2 c4, b1, Int.not_lt.2 b2, b3, e0, b4, b5, b6])
   rotate_right
   focus
    cases b7 : inR p.slack 0 1000000
    focus
     have F := As (show validV p = 3 by
      unfold validV
      rw [HBV.out, HGV.out, HCM.out]
      simp [cb, cg, Nat.not_lt.2 c4, b1, Int.not_lt.2 b2, b3, e0, b4, b5, b6, b7])
    rotate_right
    focus
     have F := As (show validV p = 0 by
      unfold validV
      rw [HBV.out, HGV.out, HCM.out]
      simp [cb, cg, Nat.not_lt.2 c4, b1, Int.not_lt.2 b2, b3, e0, b4, b5, b6, b7])
 all_goals clear cb
 all_goals clear cg
 all_goals clear c4
 all_goals clear b2
 all_goals clear e0
 all_goals
  go_enter Tryz.func9, Tryz.ntmps9
  go_wp2_with (first | (go_at_call 24; (with_reducible refine (st_within.run (p.slack) (0) (1000000) _).mono ?_); rintro e w20 ⟨rfl, hw⟩; replace hw := Eq.symm hw; subst hw) | (go_at_call 25; (with_reducible refine (stopping_above.run p.ts s4 _ _ _ _ _ _ _ _ _ _ _ _ p.tx p.ty n4 m4 L L 4 4 _ (H95.1.be HB.1) (H96.1.be HB.1) H5.1.na H6.1.na (by have := HL.out; omega)).mono ?_); rintro e w19 ⟨rfl, hb⟩; replace H5 := As (H5.1.be hb); replace H6 := As (H6.1.be hb); replace H10 := As (H10.1.be hb); replace H11 := As (H11.1.be hb); replace B1 := Bb B1 hb; replace B5 := Bb B5 hb; replace B7 := Bb B7 hb; replace HB := Ob HB hb; have ka : (aboveB (pn p.ts p.tx p.ty) (pd p.ty) (pn s4 n4 m4) (pd m4)) = unitB (pn p.ts p.tx p.ty) (pd p.ty) := (by have q := F4.out; rw [pn_of q.1, pd_of q.1, zero_above q.2 (by have := q.1; omega) (by have := pd_pos p.ty; omega)]); rw [ka]; clear ka; clear hb; (try clear cb1_17); have cb1_17 := Cl17 B1) | (go_at_call 24; (with_reducible refine (st_within.run (p.top) (1) (5) _).mono ?_); rintro e w18 ⟨rfl, hw⟩; replace hw := Eq.symm hw; subst hw; (try clear cb1_14); have cb1_14 := Cl14 B1; (try clear cb1_15); have cb1_15 := Cl15 B1; (try clear cb1_16); have cb1_16 := Cl16 B1; (try clear cb5_0); have cb5_0 := Cl0 B5; (try clear cb5_1); have cb5_1 := Cl1 B5; (try clear cb5_2); have cb5_2 := Cl2 B5) | (go_at_call 25; (with_reducible refine (stopping_above.run p.ls s9 _ _ _ _ _ _ _ _ _ _ _ _ p.lx p.ly n9 m9 L L 4 4 _ (H93.1.be HB.1) (H94.1.be HB.1) H10.1.na H11.1.na (by have := HL.out; omega)).mono ?_); rintro e w17 ⟨rfl, hb⟩; replace H5 := As (H5.1.be hb); replace H6 := As (H6.1.be hb); replace H10 := As (H10.1.be hb); replace H11 := As (H11.1.be hb); replace B1 := Bb B1 hb; replace B5 := Bb B5 hb; replace B7 := Bb B7 hb; replace HB := Ob HB hb; have ka : (aboveB (pn p.ls p.lx p.ly) (pd p.ly) (pn s9 n9 m9) (pd m9)) = halfB (pn p.ls p.lx p.ly) (pd p.ly) := (by have q := F9.out; rw [pn_of q.1, pd_of q.1, half_above q.2 (by have := q.1; omega)]); rw [ka]; clear ka; clear hb; (try clear cb1_13); have cb1_13 := Cl13 B1) | (go_at_call 24; (with_reducible refine (st_within.run (p.cut) (0) (cm) _).mono ?_); rintro e w16 ⟨rfl, hw⟩; replace hw := Eq.symm hw; subst hw; (try clear cb1_10); have cb1_10 := Cl10 B1; (try clear cb1_11); have cb1_11 := Cl11 B1; (try clear cb1_12); have cb1_12 := Cl12 B1; (try clear cb7_0); have cb7_0 := Cl0 B7; (try clear cb7_1); have cb7_1 := Cl1 B7; (try clear cb7_2); have cb7_2 := Cl2 B7) | (go_at_call 20; (with_reducible refine (ratio_Sign.run p.vs _ _ _ _ _ _ p.vx p.vy L L _ (H91.1.be HB.1) (H92.1.be HB.1) (by have := HL.out; omega)).mono ?_); rintro e w15 ⟨rfl, hb⟩; replace H5 := As (H5.1.be hb); replace H6 := As (H6.1.be hb); replace H10 := As (H10.1.be hb); replace H11 := As (H11.1.be hb); replace B1 := Bb B1 hb; replace B5 := Bb B5 hb; replace B7 := Bb B7 hb; replace HB := Ob HB hb; clear hb; (try clear cb1_9); have cb1_9 := Cl9 B1; (try clear cb1_2); have cb1_2 := Cl2 B1) | (go_at_call 24; (with_reducible refine (st_within.run (p.mn) (0) (p.len) _).mono ?_); rintro e w14 ⟨rfl, hw⟩; replace hw := Eq.symm hw; subst hw; (try clear cb1_6); have cb1_6 := Cl6 B1; (try clear cb1_7); have cb1_7 := Cl7 B1; (try clear cb1_8); have cb1_8 := Cl8 B1) | ((with_reducible refine gate_store (t := 34) (p := 7) rfl ?_); refine Sto (t := 34) (p := 7) (by rfl) (.tmp 31) (by rfl) (by rfl) g7 #[.bool s9, .slice A9 k9 c9, .slice D9 l9 d9] (by rfl) (by first | rfl | (go_simp; done) | (go_simp; rfl)) B7 (by kernel_rfl) rfl (by kernel_rfl) ?_; intro w13 ho hB2; replace H5 := As (H5.1.o3 ho B7); replace H6 := As (H6.1.o3 ho B7); replace H10 := As (H10.1.o3 ho B7); replace H11 := As (H11.1.o3 ho B7); replace B1 := Oo B1 ho NE1_7; replace B5 := Oo B5 ho NE5_7; replace HB := Lo HB ho G7; replace B7 := hB2; clear ho hB2; (try clear cb1_5); have cb1_5 := Cl5 B1; (try clear cb1_0); have cb1_0 := Cl0 B1) | ((with_reducible refine gate_dst (N := 7) rfl ?_); refine box_event (by rfl) (N := 7) (by rfl) (cs := #[.bool false, .slice none 0 0, .slice none 0 0]) (t := 34) ?hr ?_; (case hr => first | (go_simp; done) | (go_simp; rfl)); intro g7 hgx w12 hbx hb; have B7 := As hbx; have NE1_7 := Nn B1 hgx; have NE5_7 := Nn B5 hgx; have G7 := Gg HB hgx; replace H5 := As (H5.1.be hb); replace H6 := As (H6.1.be hb); replace H10 := As (H10.1.be hb); replace H11 := As (H11.1.be hb); replace B1 := Bb B1 hb; replace B5 := Bb B5 hb; replace HB := Ob HB hb; clear hbx hb hgx) | (go_at_call 23; (with_reducible refine (ratio_Of.run (1) (2) _ (by decide) (by decide) (by decide) (by decide)).mono ?_); rintro e w9 ⟨s9, A9, k9, c9, D9, l9, d9, n9, m9, rfl, hq9, hr9, hm9, hz9, hb⟩; have H10 := Aside0.mk hq9; have H11 := Aside0.mk hr9; have F9 := Aside0.mk (And.intro hm9 hz9); clear hq9 hr9 hm9 hz9; replace H5 := As (H5.1.be hb); replace H6 := As (H6.1.be hb); replace B1 := Bb B1 hb; replace B5 := Bb B5 hb; replace HB := Ob HB hb; clear hb) | ((with_reducible refine gate_store (t := 34) (p := 5) rfl ?_); refine Sto (t := 34) (p := 5) (by rfl) (.tmp 27) (by rfl) (by rfl) g5 #[.bool s4, .slice A4 k4 c4, .slice D4 l4 d4] (by rfl) (by first | rfl | (go_simp; done) | (go_simp; rfl)) B5 (by kernel_rfl) rfl (by kernel_rfl) ?_; intro w8 ho hB2; replace H5 := As (H5.1.o3 ho B5); replace H6 := As (H6.1.o3 ho B5); replace B1 := Oo B1 ho NE1_5; replace HB := Lo HB ho G5; replace B5 := hB2; clear ho hB2) | ((with_reducible refine gate_dst (N := 5) rfl ?_); refine box_event (by rfl) (N := 5) (by rfl) (cs := #[.bool false, .slice none 0 0, .slice none 0 0]) (t := 34) ?hr ?_; (case hr => first | (go_simp; done) | (go_simp; rfl)); intro g5 hgx w7 hbx hb; have B5 := As hbx; have NE1_5 := Nn B1 hgx; have G5 := Gg HB hgx; replace H5 := As (H5.1.be hb); replace H6 := As (H6.1.be hb); replace B1 := Bb B1 hb; replace HB := Ob HB hb; clear hbx hb hgx) | (go_at_call 23; (with_reducible refine (ratio_Of.run (0) (1) _ (by decide) (by decide) (by decide) (by decide)).mono ?_); rintro e w4 ⟨s4, A4, k4, c4, D4, l4, d4, n4, m4, rfl, hq4, hr4, hm4, hz4, hb⟩; have H5 := Aside0.mk hq4; have H6 := Aside0.mk hr4; have F4 := Aside0.mk (And.intro hm4 hz4); clear hq4 hr4 hm4 hz4; replace B1 := Bb B1 hb; replace HB := Ob HB hb; clear hb) | (go_at_call 22; (with_reducible refine (grid_Valid.run p.ps p.qs p.PA p.QA p.pc p.qc _ (Kd.C_below PO.out.ps HB.out) (Kd.C_below PO.out.qs HB.out) PO.out.psc).mono ?_); rintro e w3 ⟨rfl, hb⟩; replace B1 := Bb B1 hb; replace HB := Ob HB hb; rw [HGV.out]; clear hb; (try clear cb1_4); have cb1_4 := Cl4 B1) | (go_at_call 21; (with_reducible refine (blueprint_Valid.run p.len p.rs p.RA p.rc _ (Kd.C_below PO.out.rs HB.out) PO.out.rsz).mono ?_); rintro e w2 ⟨rfl, hb⟩; replace B1 := Bb B1 hb; replace HB := Ob HB hb; rw [HBV.out]; clear hb; (try clear cb1_2); have cb1_2 := Cl2 B1; (try clear cb1_3); have cb1_3 := Cl3 B1) | ((with_reducible refine gate_dst (N := 1) rfl ?_); refine box_event (by rfl) (N := 1) (by rfl) (cs := #[.int .i64 p.len, .slice p.RA p.rs.length p.rc, .slice p.PA p.ps.length p.pc, .slice p.QA p.qs.length p.qc, .slice p.EA p.en p.ec, .int .i64 p.mn, .bool p.vs, .slice p.vA p.vk p.vc, .slice p.vB p.vl p.vd, .int .i64 p.cut, .bool p.ls, .slice p.lA p.lk p.lc, .slice p.lB p.ll p.ld, .int .i64 p.top, .bool p.ts, .slice p.tA p.tk p.tc, .slice p.tB p.tl p.td, .int .i64 p.slack]) (t := 36) ?hr ?_; (case hr => first | (go_simp; done) | (go_simp; rfl)); intro g1 hgx w1 hbx hb; have B1 := As hbx; have G1 := Gg HB hgx; replace HB := Ob HB hb; clear hbx hb hgx; (try clear cb1_0); have cb1_0 := Cl0 B1; (try clear cb1_1); have cb1_1 := Cl1 B1))
  go_ret
  exact ⟨by rw [F.out]; rfl, HB.out⟩
theorem stopping_Valid.run (p : Pol) (L : Nat) (w : World) (ok : PolOK w p L) : Calls Tryz.prog 9 #[.agg #[.int .i64 p.len, .slice p.RA p.rs.length p.rc, .slice p.PA p.ps.length p.pc, .slice p.QA p.qs.length p.qc, .slice p.EA p.en p.ec, .int .i64 p.mn, .bool p.vs, .slice p.vA p.vk p.vc, .slice p.vB p.vl p.vd, .int .i64 p.cut, .bool p.ls, .slice p.lA p.lk p.lc, .slice p.lB p.ll p.ld, .int .i64 p.top, .bool p.ts, .slice p.tA p.tk p.tc, .slice p.tB p.tl p.td, .int .i64 p.slack]] w fun e w' => e = .returned (.int .i64 (validV p)) ∧ Below w.heap.size w w' := by
 by_cases h : blueV p.len p.rs = 0 ∧ gridV p.ps p.qs = 0 ∧ p.en ≤ 400 ∧ inR p.mn 0 p.len = true ∧ 0 ≤ pn p.vs p.vx p.vy ∧ inR p.cut 0 ((p.ps.length : Int) - 1) = true
 ·
  cases c : (p.cut == 0)
  ·
   exact stopping_Valid.c p L w ok h c
  ·
   exact stopping_Valid.b p L w ok h c
 ·
  exact stopping_Valid.a p L w ok h
end Go.Proofs.YtnmfmiemkcaocaaGreat.Hand
namespace Go.Proofs.YtnmfmiemkcaocaaGreat.Hand
open Go.RowKit Go.Proofs.YtnmfmiemkcaocaaGreatW.PrintWords Go.Proofs.YtnmfmiemkcaocaaGreatW.PrintLast Go.Proofs.YtnmfmiemkcaocaaGreatW.PrintMore
set_option linter.unusedVariables false
set_option linter.unusedSimpArgs false
def decV (p : Pol) (ns : List Nat) : Bool × Int :=
 if validV p ≠ 0 then (false, validV p)
 else if p.cut = 0 then (false, 0)
 else if (classV ns p.cut (pn p.ls p.lx p.ly) (pd p.ly)).2 ≠ 0 then (false, (classV ns p.cut (pn p.ls p.lx p.ly) (pd p.ly)).2)
 else ((classV ns p.cut (pn p.ls p.lx p.ly) (pd p.ly)).1 != -1, 0)
def exactP (p : Pol) (ns : List Nat) : Prop := 0 < pn p.vs p.vx p.vy ∧ varN p.ps ns * (pd p.vy : Int) ≤ pn p.vs p.vx p.vy * varD ns
instance (p : Pol) (ns : List Nat) : Decidable (exactP p ns) := by unfold exactP; infer_instance
def reasonV (p : Pol) (n : Int) (ns : List Nat) : Int × Int :=
 if validV p ≠ 0 then (0, validV p)
 else if n < 0 then (0, 3)
 else if checkV p.ps p.qs ns ≠ 0 then (0, checkV p.ps p.qs ns)
 else if p.len ≤ n then (1, 0)
 else if n < p.mn then (0, 0)
 else if exactP p ns then (2, 0)
 else if (decV p ns).2 ≠ 0 then (0, (decV p ns).2)
 else if (decV p ns).1 then (3, 0) else (0, 0)
theorem stopping_Decided.run (p : Pol) (L : Nat) (A : Option Addr) (cap : Nat) (wss : List (List Int)) (L2 : Nat) (w : World) (ok : PolOK w p L) (hw : WR w A wss L2) (hc : wss.length ≤ cap) (hl : wss.length ≤ 100000000) (hL2 : L2 ≤ 1100000) :
  Calls Tryz.prog 14 #[.agg #[.int .i64 p.len, .slice p.RA p.rs.length p.rc, .slice p.PA p.ps.length p.pc, .slice p.QA p.qs.length p.qc, .slice p.EA p.en p.ec, .int .i64 p.mn, .bool p.vs, .slice p.vA p.vk p.vc, .slice p.vB p.vl p.vd, .int .i64 p.cut, .bool p.ls, .slice p.lA p.lk p.lc, .slice p.lB p.ll p.ld, .int .i64 p.top, .bool p.ts, .slice p.tA p.tk p.tc, .slice p.tB p.tl p.td, .int .i64 p.slack], .slice A wss.length cap] w fun e w' => e = .returned (.tuple #[.bool (decV p (wn wss)).1, .int .i64 (decV p (wn wss)).2]) ∧ Below w.heap.size w w' := by
 have PO := Aside0.mk ok
 have HW := Aside0.mk hw
 have HWC := Aside0.mk hc
 have H91 := Aside0.mk ok.vn
 have H92 := Aside0.mk ok.vd
 have H93 := Aside0.mk ok.ln
 have H94 := Aside0.mk ok.ld
 have HL := Aside0.mk (And.intro ok.lim (And.intro hl hL2))
 have HB := Aside0.mk (Below.refl w.heap.size w)
 clear ok hw hc hl hL2
 obtain ⟨vv, hvv⟩ : ∃ v, validV p = v := ⟨_, rfl⟩
 have HVV := Aside0.mk hvv
 clear hvv
 obtain ⟨cl, hcl⟩ : ∃ v, classV (wn wss) p.cut (pn p.ls p.lx p.ly) (pd p.ly) = v := ⟨_, rfl⟩
 have HCL := Aside0.mk hcl
 clear hcl
 by_cases cv : vv = 0
 focus
  have kcv : (vv == 0) = true := by rw [beq_iff_eq]; exact cv
  have kcvn : (vv != 0) = false := by rw [bne, kcv]; rfl
  by_cases c0 : p.cut = 0
  focus
   have k0 : (p.cut == 0) = true := by rw [beq_iff_eq]; exact c0
   have F := As (show decV p (wn wss) = (false, 0) by
    unfold decV
    rw [HVV.out, if_neg (fun h => h cv), if_pos c0])
   clear cv c0
  rotate_right
  focus
   have k0 : (p.cut == 0) = false := by rw [beq_eq_false_iff_ne]; exact c0
   by_cases ce : cl.2 = 0
   focus
    have kce : (cl.2 == 0) = true := by rw [beq_iff_eq]; exact ce
    have kcen : (cl.2 != 0) = false := by rw [bne, kce]; rfl
    have F := As (show decV p (wn wss) = (cl.1 != -1, 0) by
     unfold decV
     rw [HVV.out, if_neg (fun h => h cv), if_neg c0, HCL.out, if_neg (fun h => h ce)])
    clear cv c0 ce
   rotate_right
   focus
    have kce : (cl.2 == 0) = false := by rw [beq_eq_false_iff_ne]; exact ce
    have kcen : (cl.2 != 0) = true := by rw [bne, kce]; rfl
    have F := As (show decV p (wn wss) = (false, cl.2) by
     unfold decV
     rw [HVV.out, if_neg (fun h => h cv), if_neg c0, HCL.out, if_pos ce])
    clear cv c0 ce
 rotate_right
 focus
  have kcv : (vv == 0) = false := by rw [beq_eq_false_iff_ne]; exact cv
  have kcvn : (vv != 0) = true := by rw [bne, kcv]; rfl
  have F := As (show decV p (wn wss) = (false, vv) by
   unfold decV
   rw [HVV.out, if_pos cv])
  clear cv
 all_goals
  go_enter Tryz.func14, Tryz.ntmps14
  go_wp2_with (first | (go_at_call 37; (with_reducible refine (estimate_Class.run A cap wss L2 p.cut p.ls _ _ _ _ _ _ p.lx p.ly L L _ (HW.out.below HB.out) HWC.out HL.out.2.1 HL.out.2.2 (H93.1.be HB.1) (H94.1.be HB.1) (by have := HL.out; omega)).mono ?_); rintro e w3 ⟨rfl, hb⟩; replace B2 := Bb B2 hb; replace HB := Ob HB hb; rw [HCL.out]; clear hb) | (go_at_call 9; (with_reducible refine (stopping_Valid.run p L _ (PO.out.below HB.out)).mono ?_); rintro e w2 ⟨rfl, hb⟩; replace B2 := Bb B2 hb; replace HB := Ob HB hb; rw [HVV.out]; clear hb; (try clear cb2_9); have cb2_9 := Cl9 B2; (try clear cb2_10); have cb2_10 := Cl10 B2; (try clear cb2_11); have cb2_11 := Cl11 B2; (try clear cb2_12); have cb2_12 := Cl12 B2) | ((with_reducible refine gate_dst (N := 9) rfl ?_); refine wpList_load_row (by rfl) 36 (.tmp 2) (by rfl) g2 (by rfl) 36 #[.int .i64 p.len, .slice p.RA p.rs.length p.rc, .slice p.PA p.ps.length p.pc, .slice p.QA p.qs.length p.qc, .slice p.EA p.en p.ec, .int .i64 p.mn, .bool p.vs, .slice p.vA p.vk p.vc, .slice p.vB p.vl p.vd, .int .i64 p.cut, .bool p.ls, .slice p.lA p.lk p.lc, .slice p.lB p.ll p.ld, .int .i64 p.top, .bool p.ts, .slice p.tA p.tk p.tc, .slice p.tB p.tl p.td, .int .i64 p.slack] (0, 0) _ B2.out Tryz.underlying36 rfl (by kernel_rfl) ?_) | ((with_reducible refine gate_dst (N := 2) rfl ?_); refine box_event (by rfl) (N := 2) (by rfl) (cs := #[.int .i64 p.len, .slice p.RA p.rs.length p.rc, .slice p.PA p.ps.length p.pc, .slice p.QA p.qs.length p.qc, .slice p.EA p.en p.ec, .int .i64 p.mn, .bool p.vs, .slice p.vA p.vk p.vc, .slice p.vB p.vl p.vd, .int .i64 p.cut, .bool p.ls, .slice p.lA p.lk p.lc, .slice p.lB p.ll p.ld, .int .i64 p.top, .bool p.ts, .slice p.tA p.tk p.tc, .slice p.tB p.tl p.td, .int .i64 p.slack]) (t := 36) ?hr ?_; (case hr => first | (go_simp; done) | (go_simp; rfl)); intro g2 hgx w1 hbx hb; have B2 := As hbx; have G2 := Gg HB hgx; replace HB := Ob HB hb; clear hbx hb hgx))
  go_ret2
  refine ⟨?_, HB.out⟩
  rw [F.out]
  first | done | rfl
theorem stopping_Reason.run (p : Pol) (L : Nat) (A : Option Addr) (cap : Nat) (wss : List (List Int)) (L2 : Nat) (n : Int) (w : World) (ok : PolOK w p L) (hw : WR w A wss L2) (hc : wss.length ≤ cap) (hl : wss.length ≤ 100000000) (hL2 : L2 ≤ 1100000) :
  Calls Tryz.prog 12 #[.agg #[.int .i64 p.len, .slice p.RA p.rs.length p.rc, .slice p.PA p.ps.length p.pc, .slice p.QA p.qs.length p.qc, .slice p.EA p.en p.ec, .int .i64 p.mn, .bool p.vs, .slice p.vA p.vk p.vc, .slice p.vB p.vl p.vd, .int .i64 p.cut, .bool p.ls, .slice p.lA p.lk p.lc, .slice p.lB p.ll p.ld, .int .i64 p.top, .bool p.ts, .slice p.tA p.tk p.tc, .slice p.tB p.tl p.td, .int .i64 p.slack], .int .i64 n, .slice A wss.length cap] w fun e w' => e = .returned (.tuple #[.int .i64 (reasonV p n (wn wss)).1, .int .i64 (reasonV p n (wn wss)).2]) ∧ Below w.heap.size w w' := by
 have PO := Aside0.mk ok
 have HW := Aside0.mk hw
 have HWC := Aside0.mk hc
 have H91 := Aside0.mk ok.vn
 have H92 := Aside0.mk ok.vd
 have H93 := Aside0.mk ok.ln
 have H94 := Aside0.mk ok.ld
 have HL := Aside0.mk (And.intro ok.lim (And.intro hl hL2))
 have HB := Aside0.mk (Below.refl w.heap.size w)
 clear ok hw hc hl hL2
 obtain ⟨vv, hvv⟩ : ∃ v, validV p = v := ⟨_, rfl⟩
 have HVV := Aside0.mk hvv
 clear hvv
 obtain ⟨cv, hcv⟩ : ∃ v, checkV p.ps p.qs (wn wss) = v := ⟨_, rfl⟩
 have HCV := Aside0.mk hcv
 obtain ⟨dv, hdv⟩ : ∃ v, decV p (wn wss) = v := ⟨_, rfl⟩
 have HDV := Aside0.mk hdv
 clear hcv hdv
 by_cases ca : vv = 0
 focus
  have kca : (vv == 0) = true := by rw [beq_iff_eq]; exact ca
  have kcan : (vv != 0) = false := by rw [bne, kca]; rfl
  by_cases cb : n < 0
  focus
   have k2 : decide (n < 0) = true := decide_eq_true cb
   have F := As (show reasonV p n (wn wss) = (0, 3) by
    unfold reasonV
    rw [HVV.out, if_neg (fun h => h ca), if_pos cb])
  rotate_right
  focus
   have k2 : decide (n < 0) = false := decide_eq_false cb
   by_cases cc : cv = 0
   focus
    have kcc : (cv == 0) = true := by rw [beq_iff_eq]; exact cc
    have kccn : (cv != 0) = false := by rw [bne, kcc]; rfl
    by_cases cd : p.len ≤ n
    focus
     have k4 : decide (p.len ≤ n) = true := decide_eq_true cd
     have F := As (show reasonV p n (wn wss) = (1, 0) by
      unfold reasonV
      rw [HVV.out, if_neg (fun h => h ca), if_neg cb, HCV.out, if_neg (fun h => h cc), if_pos cd])
    rotate_right
    focus
     have k4 : decide (p.len ≤ n) = false := decide_eq_false cd
     by_cases ce : n < p.mn
     focus
      have k5 : decide (n < p.mn) = true := decide_eq_true ce
      have F := As (show reasonV p n (wn wss) = (0, 0) by
       unfold reasonV
       rw [HVV.out, if_neg (fun h => h ca), if_neg cb, HCV.out, if_neg (fun h => h cc), if_neg cd, if_pos ce])
     rotate_right
     focus
      have k5 : decide (n < p.mn) = false := decide_eq_false ce
      by_cases cf : 0 < pn p.vs p.vx p.vy
      focus
       have k6 : decide (0 < cmpZ (pn p.vs p.vx p.vy) 0) = true := decide_eq_true (cmpZ_pos.2 cf)
       have X3 := As cc
       have VD := As (show 0 < varD (wn wss) by have h := (checkV_ok (HCV.out.trans cc)).2.2; unfold varD; exact Int.mul_pos (by omega) (by omega))
       by_cases cg : varN p.ps (wn wss) * (pd p.vy : Int) ≤ pn p.vs p.vx p.vy * varD (wn wss)
       focus
        have X7 := As (decide_eq_true cg)
        have F := As (show reasonV p n (wn wss) = (2, 0) by
         unfold reasonV
         rw [HVV.out, if_neg (fun h => h ca), if_neg cb, HCV.out, if_neg (fun h => h cc), if_neg cd, if_neg ce, if_pos (show exactP p (wn wss) from ⟨cf, cg⟩)])
       rotate_right
       focus
        have X7 := As (decide_eq_false cg)
        by_cases ch : dv.2 = 0
        focus
         have kch : (dv.2 == 0) = true := by rw [beq_iff_eq]; exact ch
         have kchn : (dv.2 != 0) = false := by rw [bne, kch]; rfl
         cases d1 : dv.1
         focus
          have F := As (show reasonV p n (wn wss) = (0, 0) by
           unfold reasonV
           rw [HVV.out, if_neg (fun h => h ca), if_neg cb, HCV.out, if_neg (fun h => h cc), if_neg cd, if_neg ce, if_neg (fun h => cg h.2), HDV.out, if_neg (fun h => h ch), d1, if_neg Bool.false_ne_true])
         rotate_right
         focus
          have F := As (show reasonV p n (wn wss) = (3, 0) by
           unfold reasonV
           rw [HVV.out, if_neg (fun h => h ca), if_neg cb, HCV.out, if_neg (fun h => h cc), if_neg cd, if_neg ce, if_neg (fun h => cg h.2), HDV.out, if_neg (fun h => h ch), d1, if_pos rfl])
        rotate_right
        focus
         have kch : (dv.2 == 0) = false := by rw [beq_eq_false_iff_ne]; exact ch
         have kchn : (dv.2 != 0) = true := by rw [bne, kch]; rfl
         have F := As (show reasonV p n (wn wss) = (0, dv.2) by
          unfold reasonV
          rw [HVV.out, if_neg (fun h => h ca), if_neg cb, HCV.out, if_neg (fun h => h cc), if_neg cd, if_neg ce, if_neg (fun h => cg h.2), HDV.out, if_pos ch])
      rotate_right
      focus
       have k6 : decide (0 < cmpZ (pn p.vs p.vx p.vy) 0) = false := decide_eq_false (fun h => cf (cmpZ_pos.1 h))
       by_cases ch : dv.2 = 0
       focus
        have kch : (dv.2 == 0) = true := by rw [beq_iff_eq]; exact ch
        have kchn : (dv.2 != 0) = false := by rw [bne, kch]; rfl
        cases d1 : dv.1
        focus
         have F := As (show reasonV p n (wn wss) = (0, 0) by
          unfold reasonV
          rw [HVV.out, if_neg (fun h => h ca), if_neg cb, HCV.out, if_neg (fun h => h cc), if_neg cd, if_neg ce, if_neg (fun h => cf h.1), HDV.out, if_neg (fun h => h ch), d1, if_neg Bool.false_ne_true])
        rotate_right
        focus
         have F := As (show reasonV p n (wn wss) = (3, 0) by
          unfold reasonV
          rw [HVV.out, if_neg (fun h => h ca), if_neg cb, HCV.out, if_neg (fun h => h cc), if_neg cd, if_neg ce, if_neg (fun h => cf h.1), HDV.out, if_neg (fun h => h ch), d1, if_pos rfl])
       rotate_right
       focus
        have kch : (dv.2 == 0) = false := by rw [beq_eq_false_iff_ne]; exact ch
        have kchn : (dv.2 != 0) = true := by rw [bne, kch]; rfl
        have F := As (show reasonV p n (wn wss) = (0, dv.2) by
         unfold reasonV
         rw [HVV.out, if_neg (fun h => h ca), if_neg cb, HCV.out, if_neg (fun h => h cc), if_neg cd, if_neg ce, if_neg (fun h => cf h.1), HDV.out, if_pos ch])
   rotate_right
   focus
    have kcc : (cv == 0) = false := by rw [beq_eq_false_iff_ne]; exact cc
    have kccn : (cv != 0) = true := by rw [bne, kcc]; rfl
    have F := As (show reasonV p n (wn wss) = (0, cv) by
     unfold reasonV
     rw [HVV.out, if_neg (fun h => h ca), if_neg cb, HCV.out, if_pos cc])
 rotate_right
 focus
  have kca : (vv == 0) = false := by rw [beq_eq_false_iff_ne]; exact ca
  have kcan : (vv != 0) = true := by rw [bne, kca]; rfl
  have F := As (show reasonV p n (wn wss) = (0, vv) by
   unfold reasonV
   rw [HVV.out, if_pos ca])
 all_goals try clear ca
 all_goals try clear cb
 all_goals try clear cc
 all_goals try clear cd
 all_goals try clear ce
 all_goals try clear cf
 all_goals try clear cg
 all_goals try clear ch
 all_goals
  go_enter Tryz.func12, Tryz.ntmps12
  go_wp2_with (first | (go_at_call 14; (with_reducible refine (stopping_Decided.run p L A cap wss L2 _ (PO.out.below HB.out) (HW.out.below HB.out) HWC.out HL.out.2.1 HL.out.2.2).mono ?_); rintro e w10 ⟨rfl, hb⟩; replace H4 := As (H4.1.be hb); replace H5 := As (H5.1.be hb); replace B3 := Bb B3 hb; replace B9 := Bb B9 hb; replace HB := Ob HB hb; rw [HDV.out]; clear hb) | ((with_reducible refine gate_dst (N := 53) rfl ?_); refine wpList_load_row (by rfl) 36 (.tmp 3) (by rfl) g3 (by rfl) 36 #[.int .i64 p.len, .slice p.RA p.rs.length p.rc, .slice p.PA p.ps.length p.pc, .slice p.QA p.qs.length p.qc, .slice p.EA p.en p.ec, .int .i64 p.mn, .bool p.vs, .slice p.vA p.vk p.vc, .slice p.vB p.vl p.vd, .int .i64 p.cut, .bool p.ls, .slice p.lA p.lk p.lc, .slice p.lB p.ll p.ld, .int .i64 p.top, .bool p.ts, .slice p.tA p.tk p.tc, .slice p.tB p.tl p.td, .int .i64 p.slack] (0, 0) _ B3.out Tryz.underlying36 rfl (by kernel_rfl) ?_) | (go_at_call 19; (with_reducible refine (ratio_Cmp.run s3 p.vs _ _ _ _ _ _ _ _ _ _ _ _ n3 m3 p.vx p.vy (6 * L2 + 1000) (3 * L2 + 200) L L _ H4.1.na H5.1.na (H91.1.be HB.1) (H92.1.be HB.1) (by have := HL.out; omega)).mono ?_); rintro e w9 ⟨rfl, hb⟩; replace H4 := As (H4.1.be hb); replace H5 := As (H5.1.be hb); replace B3 := Bb B3 hb; replace B9 := Bb B9 hb; replace HB := Ob HB hb; have kc9 : decide ((cmpZ (pn s3 n3 m3 * pd p.vy) (pn p.vs p.vx p.vy * pd m3)) ≤ 0) = decide (varN p.ps (wn wss) * (pd p.vy : Int) ≤ pn p.vs p.vx p.vy * varD (wn wss)) := decide_eq_decide.2 (by have q := F3.out; rw [cmpZ_nonpos, pn_of q.1, pd_of q.1, frac_ge (q.2 (HCV.out.trans X3.out)) (by have := q.1; omega) VD.out]); rw [X7.out] at kc9; clear hb) | (go_at_call 20; (with_reducible refine (ratio_Sign.run p.vs _ _ _ _ _ _ p.vx p.vy L L _ (H91.1.be HB.1) (H92.1.be HB.1) (by have := HL.out; omega)).mono ?_); rintro e w8 ⟨rfl, hb⟩; replace H4 := As (H4.1.be hb); replace H5 := As (H5.1.be hb); replace B3 := Bb B3 hb; replace B9 := Bb B9 hb; replace HB := Ob HB hb; clear hb; (try clear cb9_0); have cb9_0 := Cl0 B9; (try clear cb9_1); have cb9_1 := Cl1 B9; (try clear cb9_2); have cb9_2 := Cl2 B9; (try clear cb3_6); have cb3_6 := Cl6 B3; (try clear cb3_7); have cb3_7 := Cl7 B3; (try clear cb3_8); have cb3_8 := Cl8 B3) | ((with_reducible refine gate_store (t := 34) (p := 9) rfl ?_); refine Sto (t := 34) (p := 9) (by rfl) (.tmp 24) (by rfl) (by rfl) g9 #[.bool s3, .slice A3 k3 c3, .slice D3 l3 d3] (by rfl) (by first | rfl | (go_simp; done) | (go_simp; rfl)) B9 (by kernel_rfl) rfl (by kernel_rfl) ?_; intro w7 ho hB2; replace H4 := As (H4.1.o3 ho B9); replace H5 := As (H5.1.o3 ho B9); replace B3 := Oo B3 ho NE3_9; replace HB := Lo HB ho G9; replace B9 := hB2; clear ho hB2; (try clear cb3_0); have cb3_0 := Cl0 B3; (try clear cb3_5); have cb3_5 := Cl5 B3; (try clear cb3_6); have cb3_6 := Cl6 B3; (try clear cb3_7); have cb3_7 := Cl7 B3; (try clear cb3_8); have cb3_8 := Cl8 B3) | ((with_reducible refine gate_dst (N := 9) rfl ?_); refine box_event (by rfl) (N := 9) (by rfl) (cs := #[.bool false, .slice none 0 0, .slice none 0 0]) (t := 34) ?hr ?_; (case hr => first | (go_simp; done) | (go_simp; rfl)); intro g9 hgx w6 hbx hb; have B9 := As hbx; have NE3_9 := Nn B3 hgx; have G9 := Gg HB hgx; replace H4 := As (H4.1.be hb); replace H5 := As (H5.1.be hb); replace B3 := Bb B3 hb; replace HB := Ob HB hb; clear hbx hb hgx) | (go_at_call 34; (with_reducible refine (estimate_Variance.run p.ps p.qs p.PA p.QA p.pc p.qc A cap wss L2 _ (Kd.C_below PO.out.ps HB.out) (Kd.C_below PO.out.qs HB.out) PO.out.psc (HW.out.below HB.out) HL.out.2.1 HL.out.2.2).mono ?_); rintro e w3 ⟨s3, A3, k3, c3, D3, l3, d3, n3, m3, rfl, hq3, hr3, hm3, hz3, hb⟩; have H4 := Aside0.mk hq3; have H5 := Aside0.mk hr3; have F3 := Aside0.mk (And.intro hm3 hz3); clear hq3 hr3 hm3 hz3; replace B3 := Bb B3 hb; replace HB := Ob HB hb; rw [HCV.out]; clear hb) | (go_at_call 9; (with_reducible refine (stopping_Valid.run p L _ (PO.out.below HB.out)).mono ?_); rintro e w2 ⟨rfl, hb⟩; replace B3 := Bb B3 hb; replace HB := Ob HB hb; rw [HVV.out]; clear hb; (try clear cb3_2); have cb3_2 := Cl2 B3; (try clear cb3_3); have cb3_3 := Cl3 B3) | ((with_reducible refine gate_dst (N := 12) rfl ?_); refine wpList_load_row (by rfl) 36 (.tmp 3) (by rfl) g3 (by rfl) 36 #[.int .i64 p.len, .slice p.RA p.rs.length p.rc, .slice p.PA p.ps.length p.pc, .slice p.QA p.qs.length p.qc, .slice p.EA p.en p.ec, .int .i64 p.mn, .bool p.vs, .slice p.vA p.vk p.vc, .slice p.vB p.vl p.vd, .int .i64 p.cut, .bool p.ls, .slice p.lA p.lk p.lc, .slice p.lB p.ll p.ld, .int .i64 p.top, .bool p.ts, .slice p.tA p.tk p.tc, .slice p.tB p.tl p.td, .int .i64 p.slack] (0, 0) _ B3.out Tryz.underlying36 rfl (by kernel_rfl) ?_) | ((with_reducible refine gate_dst (N := 3) rfl ?_); refine box_event (by rfl) (N := 3) (by rfl) (cs := #[.int .i64 p.len, .slice p.RA p.rs.length p.rc, .slice p.PA p.ps.length p.pc, .slice p.QA p.qs.length p.qc, .slice p.EA p.en p.ec, .int .i64 p.mn, .bool p.vs, .slice p.vA p.vk p.vc, .slice p.vB p.vl p.vd, .int .i64 p.cut, .bool p.ls, .slice p.lA p.lk p.lc, .slice p.lB p.ll p.ld, .int .i64 p.top, .bool p.ts, .slice p.tA p.tk p.tc, .slice p.tB p.tl p.td, .int .i64 p.slack]) (t := 36) ?hr ?_; (case hr => first | (go_simp; done) | (go_simp; rfl)); intro g3 hgx w1 hbx hb; have B3 := As hbx; have G3 := Gg HB hgx; replace HB := Ob HB hb; clear hbx hb hgx))
  go_ret2
  refine ⟨?_, HB.out⟩
  rw [F.out]
  first | done | rfl
end Go.Proofs.YtnmfmiemkcaocaaGreat.Hand
namespace Go.Proofs.YtnmfmiemkcaocaaGreat.Hand
open Go.RowKit Go.Proofs.YtnmfmiemkcaocaaGreatW.PrintWords Go.Proofs.YtnmfmiemkcaocaaGreatW.PrintLast Go.Proofs.YtnmfmiemkcaocaaGreatW.PrintMore
set_option linter.unusedVariables false
set_option linter.unusedSimpArgs false
def WWR (w : World) (A : Option Addr) (ws : List (List (List Int))) (L : Nat) : Prop := Kd.C (Kd.slice 30 (Kd.slice 52 (Kd.int .u32))) w A ws.length ws ∧ ∀ x ∈ ws, (∀ xs ∈ x, Rg xs) ∧ (x.map List.length).sum ≤ L ∧ x.length ≤ 100000000
theorem WWR.below {w W : World} {A : Option Addr} {ws : List (List (List Int))} {L : Nat} (h : WWR w A ws L) (hb : Below w.heap.size w W) : WWR W A ws L := ⟨Kd.C_below h.1 hb, h.2⟩
theorem WWR.at {w : World} {A : Option Addr} {ws : List (List (List Int))} {L : Nat} (h : WWR w A ws L) (i : Int) (h0 : 0 ≤ i) (h1 : i < ws.length) :
  ∃ ad B c, A = some ad ∧ w.cell? (ad.add i.toNat) = some (.slice B (ws.getD i.toNat []).length c) ∧ WR w B (ws.getD i.toNat []) L ∧ (ws.getD i.toNat []).length ≤ c ∧ (ws.getD i.toNat []).length ≤ 100000000 := by
 obtain ⟨ad, cs, e, hl, ⟨B, c, ec, hlc, hr⟩, hc⟩ := ReadsRow.get_ h.1 [] i h0 h1
 have hm := h.2 _ (getD_mem (d := []) (show i.toNat < ws.length by omega))
 refine ⟨ad, B, c, e, ?_, ⟨hr, hm.1, hm.2.1⟩, hlc, hm.2.2⟩
 have := hc 0 (.slice B (ws.getD i.toNat []).length c) (by rw [ec]; rfl)
 rw [show i.toNat * (Kd.slice 30 (Kd.slice 52 (Kd.int .u32))).sz + 0 = i.toNat from by show i.toNat * 1 + 0 = _; omega] at this
 exact this
def firstL (p : Pol) : Int → List (List Nat) → Int × Int × Int
 | _, [] => (0, 0, 0)
 | i, ns :: l => if (reasonV p (i + 1) ns).2 ≠ 0 then (0, 0, (reasonV p (i + 1) ns).2) else if (reasonV p (i + 1) ns).1 ≠ 0 then (i + 1, (reasonV p (i + 1) ns).1, 0) else firstL p (i + 1) l
def firstV (p : Pol) (l : List (List Nat)) : Int × Int × Int := if validV p ≠ 0 then (0, 0, validV p) else if 18 < l.length then (0, 0, 5) else firstL p 0 l
theorem drop_cons' {α : Type} (l : List α) (i : Nat) (d : α) (h : i < l.length) : l.drop i = l.getD i d :: l.drop (i + 1) := by
 rw [List.drop_eq_getElem_cons h, List.getD_eq_getElem?_getD, List.getElem?_eq_getElem h]
 rfl
theorem stopping_First.run (p : Pol) (L : Nat) (A : Option Addr) (cap : Nat) (ws : List (List (List Int))) (L2 : Nat) (w : World) (ok : PolOK w p L) (hw : WWR w A ws L2) (hl : ws.length ≤ 100000000) (hL2 : L2 ≤ 1100000) :
  Calls Tryz.prog 16 #[.agg #[.int .i64 p.len, .slice p.RA p.rs.length p.rc, .slice p.PA p.ps.length p.pc, .slice p.QA p.qs.length p.qc, .slice p.EA p.en p.ec, .int .i64 p.mn, .bool p.vs, .slice p.vA p.vk p.vc, .slice p.vB p.vl p.vd, .int .i64 p.cut, .bool p.ls, .slice p.lA p.lk p.lc, .slice p.lB p.ll p.ld, .int .i64 p.top, .bool p.ts, .slice p.tA p.tk p.tc, .slice p.tB p.tl p.td, .int .i64 p.slack], .slice A ws.length cap] w fun e w' => e = .returned (.tuple #[.int .i64 (firstV p (ws.map wn)).1, .int .i64 (firstV p (ws.map wn)).2.1, .int .i64 (firstV p (ws.map wn)).2.2]) ∧ Below w.heap.size w w' := by
 have PO := Aside0.mk ok
 have HW := Aside0.mk hw
 have HL := Aside0.mk (And.intro hl hL2)
 have HB := Aside0.mk (Below.refl w.heap.size w)
 clear ok hw hl hL2
 obtain ⟨vv, hvv⟩ : ∃ v, validV p = v := ⟨_, rfl⟩
 have HVV := Aside0.mk hvv
 clear hvv
 by_cases ca : vv = 0
 ·
  have kca : (vv == 0) = true := by rw [beq_iff_eq]; exact ca
  have kcan : (vv != 0) = false := by rw [bne, kca]; rfl
  have X1 := Aside0.mk ca
  clear ca
  by_cases cb : 18 < ws.length
  ·
   have k2 : decide ((18 : Int) < (ws.length : Int)) = true := decide_eq_true (by omega)
   have X2 := Aside0.mk cb
   clear cb
   go_enter Tryz.func16, Tryz.ntmps16
   go_wp2_with (first | (go_at_call 9; (with_reducible refine (stopping_Valid.run p L _ (PO.out.below HB.out)).mono ?_); rintro e w2 ⟨rfl, hb⟩; replace B2 := Bb B2 hb; replace HB := Ob HB hb; rw [HVV.out]; clear hb) | ((with_reducible refine gate_dst (N := 12) rfl ?_); refine wpList_load_row (by rfl) 36 (.tmp 2) (by rfl) g2 (by rfl) 36 #[.int .i64 p.len, .slice p.RA p.rs.length p.rc, .slice p.PA p.ps.length p.pc, .slice p.QA p.qs.length p.qc, .slice p.EA p.en p.ec, .int .i64 p.mn, .bool p.vs, .slice p.vA p.vk p.vc, .slice p.vB p.vl p.vd, .int .i64 p.cut, .bool p.ls, .slice p.lA p.lk p.lc, .slice p.lB p.ll p.ld, .int .i64 p.top, .bool p.ts, .slice p.tA p.tk p.tc, .slice p.tB p.tl p.td, .int .i64 p.slack] (0, 0) _ B2.out Tryz.underlying36 rfl (by kernel_rfl) ?_) | ((with_reducible refine gate_dst (N := 2) rfl ?_); refine box_event (by rfl) (N := 2) (by rfl) (cs := #[.int .i64 p.len, .slice p.RA p.rs.length p.rc, .slice p.PA p.ps.length p.pc, .slice p.QA p.qs.length p.qc, .slice p.EA p.en p.ec, .int .i64 p.mn, .bool p.vs, .slice p.vA p.vk p.vc, .slice p.vB p.vl p.vd, .int .i64 p.cut, .bool p.ls, .slice p.lA p.lk p.lc, .slice p.lB p.ll p.ld, .int .i64 p.top, .bool p.ts, .slice p.tA p.tk p.tc, .slice p.tB p.tl p.td, .int .i64 p.slack]) (t := 36) ?hr ?_; (case hr => first | (go_simp; done) | (go_simp; rfl)); intro g2 hgx w1 hbx hb; have B2 := As hbx; have G2 := Gg HB hgx; replace HB := Ob HB hb; clear hbx hb hgx))
   go_ret3
   refine ⟨?_, HB.out⟩
   have hv : firstV p (ws.map wn) = (0, 0, 5) := by
    unfold firstV
    rw [HVV.out, if_neg (fun h => h X1.out), List.length_map, if_pos X2.out]
   rw [hv]
   rfl
  ·
   have k2 : decide ((18 : Int) < (ws.length : Int)) = false := decide_eq_false (by omega)
   have X2 := Aside0.mk (Nat.not_lt.1 cb)
   clear cb
   go_enter Tryz.func16, Tryz.ntmps16
   go_wp2_with (first | (go_at_call 9; (with_reducible refine (stopping_Valid.run p L _ (PO.out.below HB.out)).mono ?_); rintro e w2 ⟨rfl, hb⟩; replace B2 := Bb B2 hb; replace HB := Ob HB hb; rw [HVV.out]; clear hb) | ((with_reducible refine gate_dst (N := 12) rfl ?_); refine wpList_load_row (by rfl) 36 (.tmp 2) (by rfl) g2 (by rfl) 36 #[.int .i64 p.len, .slice p.RA p.rs.length p.rc, .slice p.PA p.ps.length p.pc, .slice p.QA p.qs.length p.qc, .slice p.EA p.en p.ec, .int .i64 p.mn, .bool p.vs, .slice p.vA p.vk p.vc, .slice p.vB p.vl p.vd, .int .i64 p.cut, .bool p.ls, .slice p.lA p.lk p.lc, .slice p.lB p.ll p.ld, .int .i64 p.top, .bool p.ts, .slice p.tA p.tk p.tc, .slice p.tB p.tl p.td, .int .i64 p.slack] (0, 0) _ B2.out Tryz.underlying36 rfl (by kernel_rfl) ?_) | ((with_reducible refine gate_dst (N := 2) rfl ?_); refine box_event (by rfl) (N := 2) (by rfl) (cs := #[.int .i64 p.len, .slice p.RA p.rs.length p.rc, .slice p.PA p.ps.length p.pc, .slice p.QA p.qs.length p.qc, .slice p.EA p.en p.ec, .int .i64 p.mn, .bool p.vs, .slice p.vA p.vk p.vc, .slice p.vB p.vl p.vd, .int .i64 p.cut, .bool p.ls, .slice p.lA p.lk p.lc, .slice p.lB p.ll p.ld, .int .i64 p.top, .bool p.ts, .slice p.tA p.tk p.tc, .slice p.tB p.tl p.td, .int .i64 p.slack]) (t := 36) ?hr ?_; (case hr => first | (go_simp; done) | (go_simp; rfl)); intro g2 hgx w1 hbx hb; have B2 := As hbx; have G2 := Gg HB hgx; replace HB := Ob HB hb; clear hbx hb hgx))
   have CB2 := B2
   clear B2
   go_loopg [22] ws.length (fun kq v22 w' => ∃ i : Int, v22 = .int .i64 i ∧ Aside0 (i + kq = (ws.length : Int) ∧ kq ≤ ws.length) ∧ Aside0 (firstL p 0 (ws.map wn) = firstL p i ((ws.map wn).drop i.toNat)) ∧ Aside0 (w'.heap[g2]? = some (.cells #[.int .i64 p.len, .slice p.RA p.rs.length p.rc, .slice p.PA p.ps.length p.pc, .slice p.QA p.qs.length p.qc, .slice p.EA p.en p.ec, .int .i64 p.mn, .bool p.vs, .slice p.vA p.vk p.vc, .slice p.vB p.vl p.vd, .int .i64 p.cut, .bool p.ls, .slice p.lA p.lk p.lc, .slice p.lB p.ll p.ld, .int .i64 p.top, .bool p.ts, .slice p.tA p.tk p.tc, .slice p.tB p.tl p.td, .int .i64 p.slack] 36 (0, 0))) ∧ Aside0 (Below w.heap.size w w'))
   case atStart => exact ⟨0, rfl, ⟨by omega, Nat.le_refl _⟩, ⟨rfl⟩, CB2, HB⟩
   case round =>
    obtain ⟨i, rfl, HI, HN, B2, HBl⟩ := hrel
    clear HB
    have HB := HBl
    clear HBl
    by_cases ci : i < (ws.length : Int)
    ·
     have d1 : decide (i < (ws.length : Int)) = true := decide_eq_true ci
     have p1 : 0 ≤ i := by have := HI.out; omega
     obtain ⟨gq, hk⟩ : ∃ g1, gk = g1 + 1 := ⟨gk - 1, by have := HI.out; omega⟩
     subst hk
     obtain ⟨ad, Bw, cw, ea, hx, hwr, hcw, hlw⟩ := (HW.out.below HB.out).at i p1 ci
     subst ea
     obtain ⟨ww, hww⟩ : ∃ x, ws.getD i.toNat [] = x := ⟨_, rfl⟩
     rw [hww] at hx hwr hcw hlw
     have HWR := Aside0.mk (And.intro hwr (And.intro hcw hlw))
     obtain ⟨i1, hi1⟩ : ∃ i1, IntKind.i64.wrap (i + 1) = i1 := ⟨_, rfl⟩
     have ei1 : i1 = i + 1 := by have := HI.out; have := HL.out; rw [← hi1, i64_w]; unfold wrap64; omega
     obtain ⟨rv, hrv⟩ : ∃ v, reasonV p i1 (wn ww) = v := ⟨_, rfl⟩
     have HRV := Aside0.mk hrv
     have E := Aside0.mk (show 0 ≤ i ∧ i < (ws.length : Int) ∧ i1 = i + 1 ∧ (ws.map wn).drop i.toNat = wn ww :: (ws.map wn).drop (i.toNat + 1) by
      refine ⟨p1, ci, ei1, ?_⟩
      rw [drop_cons' (ws.map wn) i.toNat (wn []) (by rw [List.length_map]; omega)]
      congr 1
      rw [List.getD_eq_getElem?_getD, List.getElem?_map, ← hww, List.getD_eq_getElem?_getD]
      cases ws[i.toNat]? <;> rfl)
     have p2 := eq_true p1
     have q1 := eq_true ci
     clear hwr hcw hlw hww p1 ci ei1 hrv
     by_cases cr : rv.2 = 0
     ·
      have kcr : (rv.2 == 0) = true := by rw [beq_iff_eq]; exact cr
      have kcrn : (rv.2 != 0) = false := by rw [bne, kcr]; rfl
      have X3 := Aside0.mk cr
      clear cr
      by_cases cz : rv.1 = 0
      ·
       have kcz : (rv.1 == 0) = true := by rw [beq_iff_eq]; exact cz
       have kczn : (rv.1 != 0) = false := by rw [bne, kcz]; rfl
       have X4 := Aside0.mk cz
       clear cz
       go_wp2_with (first | (go_at_call 12; (with_reducible refine (stopping_Reason.run p L Bw cw ww L2 i1 _ (PO.out.below HB.out) HWR.out.1 HWR.out.2.1 HWR.out.2.2 HL.out.2).mono ?_); rintro e w301 ⟨rfl, hb⟩; replace B2 := Bb B2 hb; replace HB := Ob HB hb; rw [HRV.out]; clear hb) | ((with_reducible refine gate_dst (N := 28) rfl ?_); refine wpList_load_row (by rfl) 36 (.tmp 2) (by rfl) g2 (by rfl) 36 #[.int .i64 p.len, .slice p.RA p.rs.length p.rc, .slice p.PA p.ps.length p.pc, .slice p.QA p.qs.length p.qc, .slice p.EA p.en p.ec, .int .i64 p.mn, .bool p.vs, .slice p.vA p.vk p.vc, .slice p.vB p.vl p.vd, .int .i64 p.cut, .bool p.ls, .slice p.lA p.lk p.lc, .slice p.lB p.ll p.ld, .int .i64 p.top, .bool p.ts, .slice p.tA p.tk p.tc, .slice p.tB p.tl p.td, .int .i64 p.slack] (0, 0) _ B2.out Tryz.underlying36 rfl (by kernel_rfl) ?_))
       go_roundg gq
       case measure => omega
       case rel =>
        have hE := E.out
        have hI := HI.out
        refine ⟨i1, rfl, ⟨by omega, by omega⟩, ⟨?_⟩, B2, HB⟩
        rw [HN.out, hE.2.2.2, firstL, ← hE.2.2.1, HRV.out, if_neg (fun h => h X3.out), if_neg (fun h => h X4.out), show i1.toNat = i.toNat + 1 by omega]
      ·
       have kcz : (rv.1 == 0) = false := by rw [beq_eq_false_iff_ne]; exact cz
       have kczn : (rv.1 != 0) = true := by rw [bne, kcz]; rfl
       have X4 := Aside0.mk cz
       clear cz
       go_wp2_with (first | (go_at_call 12; (with_reducible refine (stopping_Reason.run p L Bw cw ww L2 i1 _ (PO.out.below HB.out) HWR.out.1 HWR.out.2.1 HWR.out.2.2 HL.out.2).mono ?_); rintro e w301 ⟨rfl, hb⟩; replace B2 := Bb B2 hb; replace HB := Ob HB hb; rw [HRV.out]; clear hb) | ((with_reducible refine gate_dst (N := 28) rfl ?_); refine wpList_load_row (by rfl) 36 (.tmp 2) (by rfl) g2 (by rfl) 36 #[.int .i64 p.len, .slice p.RA p.rs.length p.rc, .slice p.PA p.ps.length p.pc, .slice p.QA p.qs.length p.qc, .slice p.EA p.en p.ec, .int .i64 p.mn, .bool p.vs, .slice p.vA p.vk p.vc, .slice p.vB p.vl p.vd, .int .i64 p.cut, .bool p.ls, .slice p.lA p.lk p.lc, .slice p.lB p.ll p.ld, .int .i64 p.top, .bool p.ts, .slice p.tA p.tk p.tc, .slice p.tB p.tl p.td, .int .i64 p.slack] (0, 0) _ B2.out Tryz.underlying36 rfl (by kernel_rfl) ?_))
       go_ret3
       refine ⟨?_, HB.out⟩
       have hv : firstV p (ws.map wn) = (i1, rv.1, 0) := by
        unfold firstV
        rw [HVV.out, if_neg (fun h => h X1.out), List.length_map, if_neg (Nat.not_lt.2 X2.out), HN.out, E.out.2.2.2, firstL, ← E.out.2.2.1, HRV.out, if_neg (fun h => h X3.out), if_pos X4.out]
       rw [hv]
       rfl
     ·
      have kcr : (rv.2 == 0) = false := by rw [beq_eq_false_iff_ne]; exact cr
      have kcrn : (rv.2 != 0) = true := by rw [bne, kcr]; rfl
      have X3 := Aside0.mk cr
      clear cr
      go_wp2_with (first | (go_at_call 12; (with_reducible refine (stopping_Reason.run p L Bw cw ww L2 i1 _ (PO.out.below HB.out) HWR.out.1 HWR.out.2.1 HWR.out.2.2 HL.out.2).mono ?_); rintro e w301 ⟨rfl, hb⟩; replace B2 := Bb B2 hb; replace HB := Ob HB hb; rw [HRV.out]; clear hb) | ((with_reducible refine gate_dst (N := 28) rfl ?_); refine wpList_load_row (by rfl) 36 (.tmp 2) (by rfl) g2 (by rfl) 36 #[.int .i64 p.len, .slice p.RA p.rs.length p.rc, .slice p.PA p.ps.length p.pc, .slice p.QA p.qs.length p.qc, .slice p.EA p.en p.ec, .int .i64 p.mn, .bool p.vs, .slice p.vA p.vk p.vc, .slice p.vB p.vl p.vd, .int .i64 p.cut, .bool p.ls, .slice p.lA p.lk p.lc, .slice p.lB p.ll p.ld, .int .i64 p.top, .bool p.ts, .slice p.tA p.tk p.tc, .slice p.tB p.tl p.td, .int .i64 p.slack] (0, 0) _ B2.out Tryz.underlying36 rfl (by kernel_rfl) ?_))
      go_ret3
      refine ⟨?_, HB.out⟩
      have hv : firstV p (ws.map wn) = (0, 0, rv.2) := by
       unfold firstV
       rw [HVV.out, if_neg (fun h => h X1.out), List.length_map, if_neg (Nat.not_lt.2 X2.out), HN.out, E.out.2.2.2, firstL, ← E.out.2.2.1, HRV.out, if_pos X3.out]
      rw [hv]
      rfl
    ·
     have d1 : decide (i < (ws.length : Int)) = false := decide_eq_false ci
     have HF := Aside0.mk (show firstL p 0 (ws.map wn) = (0, 0, 0) by rw [HN.out, List.drop_eq_nil_of_le (by rw [List.length_map]; have := HI.out; omega)]; rfl)
     clear ci
     go_wp2
     go_ret3
     refine ⟨?_, HB.out⟩
     have hv : firstV p (ws.map wn) = (0, 0, 0) := by
      unfold firstV
      rw [HVV.out, if_neg (fun h => h X1.out), List.length_map, if_neg (Nat.not_lt.2 X2.out), HF.out]
     rw [hv]
     rfl
 ·
  have kca : (vv == 0) = false := by rw [beq_eq_false_iff_ne]; exact ca
  have kcan : (vv != 0) = true := by rw [bne, kca]; rfl
  have X1 := Aside0.mk ca
  clear ca
  go_enter Tryz.func16, Tryz.ntmps16
  go_wp2_with (first | (go_at_call 9; (with_reducible refine (stopping_Valid.run p L _ (PO.out.below HB.out)).mono ?_); rintro e w2 ⟨rfl, hb⟩; replace B2 := Bb B2 hb; replace HB := Ob HB hb; rw [HVV.out]; clear hb) | ((with_reducible refine gate_dst (N := 12) rfl ?_); refine wpList_load_row (by rfl) 36 (.tmp 2) (by rfl) g2 (by rfl) 36 #[.int .i64 p.len, .slice p.RA p.rs.length p.rc, .slice p.PA p.ps.length p.pc, .slice p.QA p.qs.length p.qc, .slice p.EA p.en p.ec, .int .i64 p.mn, .bool p.vs, .slice p.vA p.vk p.vc, .slice p.vB p.vl p.vd, .int .i64 p.cut, .bool p.ls, .slice p.lA p.lk p.lc, .slice p.lB p.ll p.ld, .int .i64 p.top, .bool p.ts, .slice p.tA p.tk p.tc, .slice p.tB p.tl p.td, .int .i64 p.slack] (0, 0) _ B2.out Tryz.underlying36 rfl (by kernel_rfl) ?_) | ((with_reducible refine gate_dst (N := 2) rfl ?_); refine box_event (by rfl) (N := 2) (by rfl) (cs := #[.int .i64 p.len, .slice p.RA p.rs.length p.rc, .slice p.PA p.ps.length p.pc, .slice p.QA p.qs.length p.qc, .slice p.EA p.en p.ec, .int .i64 p.mn, .bool p.vs, .slice p.vA p.vk p.vc, .slice p.vB p.vl p.vd, .int .i64 p.cut, .bool p.ls, .slice p.lA p.lk p.lc, .slice p.lB p.ll p.ld, .int .i64 p.top, .bool p.ts, .slice p.tA p.tk p.tc, .slice p.tB p.tl p.td, .int .i64 p.slack]) (t := 36) ?hr ?_; (case hr => first | (go_simp; done) | (go_simp; rfl)); intro g2 hgx w1 hbx hb; have B2 := As hbx; have G2 := Gg HB hgx; replace HB := Ob HB hb; clear hbx hb hgx))
  go_ret3
  refine ⟨?_, HB.out⟩
  have hv : firstV p (ws.map wn) = (0, 0, vv) := by
   unfold firstV
   rw [HVV.out, if_pos X1.out]
  rw [hv]
  rfl
end Go.Proofs.YtnmfmiemkcaocaaGreat.Hand
namespace Go.Proofs.YtnmfmiemkcaocaaGreat.Hand
open Go.RowKit Go.Proofs.YtnmfmiemkcaocaaGreatW.PrintWords Go.Proofs.YtnmfmiemkcaocaaGreatW.PrintLast Go.Proofs.YtnmfmiemkcaocaaGreatW.PrintMore
set_option linter.unusedVariables false
set_option linter.unusedSimpArgs false
theorem ev_row {ops : Array Oper} {Q : Exit → Act → World → Prop} {rest : List Oper} {o : Oper} {a : Act} {W : World} (hgd : o.guard = none) (cs : Array Value) (t n : Nat)
  (hrun : (execOp a.eval o).run Tryz.prog W = .ok (.value (.slice (some ⟨W.heap.size, 0, none⟩) n n)) (W.alloc (.cells cs t (0, 0))))
  (h : ∀ g, g = W.heap.size → ∀ w1, w1.heap[g]? = some (.cells cs t (0, 0)) → Below W.heap.size W w1 → wpList Tryz.prog ops Q rest (a.put o.dst (.slice (some ⟨g, 0, none⟩) n n)) w1) : wpList Tryz.prog ops Q (o :: rest) a W :=
 Kd.event_run hgd hrun (h _ rfl _ (blk_new W _) (below_alloc (Below.refl _ _) _))
theorem NA.ofRow1 {w : World} {g a : Nat} (h : w.heap[g]? = some (.cells #[.int .u32 (a : Int)] 52 (0, 0))) (ha : a < 4294967296) : NA w (.slice (some ⟨g, 0, none⟩) 1 1) a 1 := by
 have hb : Blk w ⟨g, 0, none⟩ [(a : Int)] := ⟨rfl, rfl, h⟩
 refine ⟨[(a : Int)], ⟨some ⟨g, 0, none⟩, 1, rfl, Nat.le_refl _, hb.Cfull (by simp)⟩, ?_, ?_, Nat.le_refl _⟩
 ·
  intro x hx
  rw [List.mem_singleton.1 hx]
  omega
 ·
  simp [nv]
theorem nl18 {a b c d : Int} {p q r : Bool} {e : Int} {A B C D E F G H I J : Option Addr} {a1 a2 b1 b2 c1 c2 d1 d2 e1 e2 f1 f2 g1 g2 h1 h2 i1 i2 j1 j2 : Nat} :
  NoLimb #[.int .i64 a, .slice A a1 a2, .slice B b1 b2, .slice C c1 c2, .slice D d1 d2, .int .i64 b, .bool p, .slice E e1 e2, .slice F f1 f2, .int .i64 c, .bool q, .slice G g1 g2, .slice H h1 h2, .int .i64 d, .bool r, .slice I i1 i2, .slice J j1 j2, .int .i64 e] := by
 intro x c hc
 simp at hc
 rcases hc with rfl | rfl | rfl | rfl | rfl | rfl | rfl | rfl | rfl | rfl | rfl | rfl | rfl | rfl | rfl | rfl | rfl | rfl <;> simp
theorem law_part.run (a b : Nat) (w : World) (ha : a < 4294967296) (hb : b < 4294967296) :
  Calls Tryz.prog 33 #[.int .u32 (a : Int), .int .u32 (b : Int)] w fun e w' => ∃ A B, e = .returned (.agg #[.bool false, .slice A 1 1, .slice B 1 1]) ∧ NA w' (.slice A 1 1) a 1 ∧ NA w' (.slice B 1 1) b 1 ∧ Below w.heap.size w w' := by
 have HN := Aside0.mk (And.intro ha hb)
 clear ha hb
 have HB := Aside0.mk (Below.refl w.heap.size w)
 go_enter Tryz.func33, Tryz.ntmps33
 go_wp2_with (first | ((with_reducible refine gate_store (t := 34) (p := 4) rfl ?_); refine Sto (t := 34) (p := 4) (by rfl) (.tmp 10) (by rfl) (by rfl) g4 #[.bool false, .slice (some ⟨g6, 0, none⟩) 1 1, .slice (some ⟨g9, 0, none⟩) 1 1] (by rfl) (by first | rfl | (go_simp; done) | (go_simp; rfl)) B4 (by kernel_rfl) rfl (by kernel_rfl) ?_; intro w6 ho hB2; replace H3 := As (H3.1.o3 ho B4); replace H5 := As (H5.1.o3 ho B4); replace HB := Lo HB ho G4; replace B4 := hB2; clear ho hB2) | ((with_reducible refine gate_dst (N := 9) rfl ?_); refine ev_row (by rfl) #[.int .u32 (b : Int)] 52 1 ?hr ?_; (case hr => first | (go_simp; done) | (go_simp; rfl)); intro g9 hgx w4 hbx hb; have H5 := Aside0.mk (NA.ofRow1 (a := b) hbx (HN.out.2)); replace H3 := As (H3.1.be hb); replace B4 := Bb B4 hb; replace HB := Ob HB hb; clear hbx hb hgx) | ((with_reducible refine gate_dst (N := 6) rfl ?_); refine ev_row (by rfl) #[.int .u32 (a : Int)] 52 1 ?hr ?_; (case hr => first | (go_simp; done) | (go_simp; rfl)); intro g6 hgx w2 hbx hb; have H3 := Aside0.mk (NA.ofRow1 (a := a) hbx (HN.out.1)); replace B4 := Bb B4 hb; replace HB := Ob HB hb; clear hbx hb hgx) | ((with_reducible refine gate_dst (N := 4) rfl ?_); refine box_event (by rfl) (N := 4) (by rfl) (cs := #[.bool false, .slice none 0 0, .slice none 0 0]) (t := 34) ?hr ?_; (case hr => first | (go_simp; done) | (go_simp; rfl)); intro g4 hgx w1 hbx hb; have B4 := As hbx; have G4 := Gg HB hgx; replace HB := Ob HB hb; clear hbx hb hgx))
 try simp only [Exit.inBlock, Exit.then]
 refine bodyPost_ret (results_cell_row rfl _ _ g4 34 #[.bool false, .slice (some ⟨g6, 0, none⟩) 1 1, .slice (some ⟨g9, 0, none⟩) 1 1] (0, 0) _ rfl B4.out Tryz.underlying34 rfl (by kernel_rfl)) rfl ?_
 exact ⟨_, _, rfl, H3.1.na, H5.1.na, HB.out⟩
theorem law_part2.run (x y : Int) (a b : Nat) (w : World) (hx : x = (a : Int)) (hy : y = (b : Int)) (ha : a < 4294967296) (hb : b < 4294967296) :
  Calls Tryz.prog 33 #[.int .u32 x, .int .u32 y] w fun e w' => ∃ A B, e = .returned (.agg #[.bool false, .slice A 1 1, .slice B 1 1]) ∧ NA w' (.slice A 1 1) a 1 ∧ NA w' (.slice B 1 1) b 1 ∧ Below w.heap.size w w' := by
 subst hx
 subst hy
 exact law_part.run a b w ha hb
theorem law_policy.run (n : Int) (w : World) :
  Calls Tryz.prog 32 #[.int .i64 n] w fun e w' => ∃ gp gq A B, e = .returned (.agg #[.int .i64 n, .slice none 0 0, .slice (some ⟨gp, 0, none⟩) 2 2, .slice (some ⟨gq, 0, none⟩) 2 2, .slice none 0 0, .int .i64 1, .bool false, .slice none 0 0, .slice none 0 0, .int .i64 0, .bool false, .slice none 0 0, .slice none 0 0, .int .i64 1, .bool false, .slice A 1 1, .slice B 1 1, .int .i64 0]) ∧ w'.heap[gp]? = some (.cells #[.int .i64 0, .int .i64 100] 3 (0, 0)) ∧ w'.heap[gq]? = some (.cells #[.int .i64 1, .int .i64 1] 3 (0, 0)) ∧ NA w' (.slice A 1 1) 1 1 ∧ NA w' (.slice B 1 1) 2 1 ∧ w.heap.size ≤ gp ∧ w.heap.size ≤ gq ∧ gp ≠ gq ∧ Below w.heap.size w w' := by
 have HB := Aside0.mk (Below.refl w.heap.size w)
 go_enter Tryz.func32, Tryz.ntmps32
 go_wp2_with (first | ((with_reducible refine gate_store (t := 36) (p := 2) rfl ?_); refine Sto (t := 36) (p := 2) (by rfl) (.tmp 9) (by rfl) (by rfl) g2 #[.int .i64 n, .slice none 0 0, .slice (some ⟨g5, 0, none⟩) 2 2, .slice (some ⟨g6, 0, none⟩) 2 2, .slice none 0 0, .int .i64 1, .bool false, .slice none 0 0, .slice none 0 0, .int .i64 0, .bool false, .slice none 0 0, .slice none 0 0, .int .i64 1, .bool false, .slice A4 1 1, .slice D4 1 1, .int .i64 0] (by rfl) (by first | rfl | (go_simp; done) | (go_simp; rfl)) B2 (by kernel_rfl) rfl (by kernel_rfl) ?_; intro w7 ho hB2; replace H5 := As (H5.1.only ho B2.1 nl18); replace H6 := As (H6.1.only ho B2.1 nl18); replace B5 := Ou B5 ho NE2_5; replace B6 := Ou B6 ho NE2_6; replace HB := Lo HB ho G2; replace B2 := hB2; clear ho hB2) | (go_at_call 33; (with_reducible refine (law_part2.run 1 2 1 2 _ (by decide) (by decide) (by decide) (by decide)).mono ?_); rintro e w4 ⟨A4, D4, rfl, hq4, hr4, hb⟩; have H5 := Aside0.mk hq4; have H6 := Aside0.mk hr4; clear hq4 hr4; replace B2 := Bb B2 hb; replace B5 := Bb B5 hb; replace B6 := Bb B6 hb; replace HB := Ob HB hb; clear hb) | ((with_reducible refine gate_dst (N := 6) rfl ?_); refine ev_row (by rfl) #[.int .i64 1, .int .i64 1] 3 2 ?hr ?_; (case hr => first | (go_simp; done) | (go_simp; rfl)); intro g6 hgx w3 hbx hb; have B6 := Aside0.mk hbx; have NE2_6 := Nn B2 hgx; have NE5_6 := Nn B5 hgx; have G6 := Gg HB hgx; replace B2 := Bb B2 hb; replace B5 := Bb B5 hb; replace HB := Ob HB hb; clear hbx hb hgx) | ((with_reducible refine gate_dst (N := 5) rfl ?_); refine ev_row (by rfl) #[.int .i64 0, .int .i64 100] 3 2 ?hr ?_; (case hr => first | (go_simp; done) | (go_simp; rfl)); intro g5 hgx w2 hbx hb; have B5 := Aside0.mk hbx; have NE2_5 := Nn B2 hgx; have G5 := Gg HB hgx; replace B2 := Bb B2 hb; replace HB := Ob HB hb; clear hbx hb hgx) | ((with_reducible refine gate_dst (N := 2) rfl ?_); refine box_event (by rfl) (N := 2) (by rfl) (cs := #[.int .i64 0, .slice none 0 0, .slice none 0 0, .slice none 0 0, .slice none 0 0, .int .i64 0, .bool false, .slice none 0 0, .slice none 0 0, .int .i64 0, .bool false, .slice none 0 0, .slice none 0 0, .int .i64 0, .bool false, .slice none 0 0, .slice none 0 0, .int .i64 0]) (t := 36) ?hr ?_; (case hr => first | (go_simp; done) | (go_simp; rfl)); intro g2 hgx w1 hbx hb; have B2 := As hbx; have G2 := Gg HB hgx; replace HB := Ob HB hb; clear hbx hb hgx))
 try simp only [Exit.inBlock, Exit.then]
 refine bodyPost_ret (results_cell_row rfl _ _ g2 36 #[.int .i64 n, .slice none 0 0, .slice (some ⟨g5, 0, none⟩) 2 2, .slice (some ⟨g6, 0, none⟩) 2 2, .slice none 0 0, .int .i64 1, .bool false, .slice none 0 0, .slice none 0 0, .int .i64 0, .bool false, .slice none 0 0, .slice none 0 0, .int .i64 1, .bool false, .slice A4 1 1, .slice D4 1 1, .int .i64 0] (0, 0) _ rfl B2.out Tryz.underlying36 rfl (by kernel_rfl)) rfl ?_
 exact ⟨_, _, _, _, rfl, B5.out, B6.out, H5.1.na, H6.1.na, G5.out, G6.out, NE5_6.out, HB.out⟩
end Go.Proofs.YtnmfmiemkcaocaaGreat.Hand
