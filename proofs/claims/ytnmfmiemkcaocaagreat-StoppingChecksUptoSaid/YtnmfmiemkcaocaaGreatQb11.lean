/- Parts of the proof, joined: RfI. No condition. -/
import Derived.Test.YtnmfmiemkcaocaaGreatQb10
set_option maxHeartbeats 8000000
set_option maxRecDepth 100000
namespace Go.Proofs.YtnmfmiemkcaocaaGreat.Hand
open Go.RowKit Go.Proofs.YtnmfmiemkcaocaaGreatW.PrintWords Go.Proofs.YtnmfmiemkcaocaaGreatW.PrintLast Go.Proofs.YtnmfmiemkcaocaaGreatW.PrintMore
set_option linter.unusedVariables false
set_option linter.unusedSimpArgs false
theorem ev_rowg {ops : Array Oper} {Q : Exit → Act → World → Prop} {rest : List Oper} {o : Oper} {a : Act} {W : World} (hgd : Region.wanted o (yielded ops a.tmps) = true) (cs : Array Value) (t n : Nat)
  (hrun : (execOp a.eval o).run Tryz.prog W = .ok (.value (.slice (some ⟨W.heap.size, 0, none⟩) n n)) (W.alloc (.cells cs t (0, 0))))
  (h : ∀ g, g = W.heap.size → ∀ w1, w1.heap[g]? = some (.cells cs t (0, 0)) → Below W.heap.size W w1 → wpList Tryz.prog ops Q rest (a.put o.dst (.slice (some ⟨g, 0, none⟩) n n)) w1) : wpList Tryz.prog ops Q (o :: rest) a W :=
 wpList_step fun K hK => by
  rw [if_pos hgd]
  unfold Oper.wp
  rw [hrun]
  exact hK _ _ (h _ rfl _ (blk_new W _) (below_alloc (Below.refl _ _) _))
theorem pn1 (n : Nat) : pn false n 1 = n := rfl
theorem pn12 : pn false 1 2 = 1 := rfl
theorem pd1 : pd 1 = 1 := rfl
theorem pd2 : pd 2 = 2 := rfl
theorem most_iff (X Y : Int) : cmpZ (X * (pd 1 : Int)) (pn false 1 1 * Y) ≤ 0 ↔ X ≤ Y := by
 rw [cmpZ_nonpos, pd1, pn1]
 constructor <;> intro h <;> omega
theorem lev_iff (X Y : Int) : 0 < cmpZ (X * (pd 2 : Int)) (pn false 1 2 * Y) ↔ Y < 2 * X := by
 rw [cmpZ_pos, pd2, pn12]
 constructor <;> intro h <;> omega
theorem ref_most.run (s : Bool) (A B : Option Addr) (k c l d a b L1 L2 : Nat) (w : World) (hv : NA w (.slice A k c) a L1) (hu : NA w (.slice B l d) b L2) (hL : L1 + L2 ≤ 30000000) :
  Calls Tryz.prog 31 #[.agg #[.bool s, .slice A k c, .slice B l d]] w fun e w' => e = .returned (.bool (decide (pn s a b ≤ (pd b : Int)))) ∧ Below w.heap.size w w' := by
 have H91 := Aside0.mk hv
 have H92 := Aside0.mk hu
 have HL := Aside0.mk hL
 have HB := Aside0.mk (Below.refl w.heap.size w)
 clear hv hu hL
 by_cases c : pn s a b ≤ (pd b : Int)
 focus
  have K := As (show decide (pn s a b ≤ (pd b : Int)) = true from decide_eq_true c)
  have kc : decide (cmpZ (pn s a b * (pd 1 : Int)) (pn false 1 1 * (pd b : Int)) ≤ 0) = true := decide_eq_true ((most_iff _ _).2 c)
  clear c
 rotate_right
 focus
  have K := As (show decide (pn s a b ≤ (pd b : Int)) = false from decide_eq_false c)
  have kc : decide (cmpZ (pn s a b * (pd 1 : Int)) (pn false 1 1 * (pd b : Int)) ≤ 0) = false := decide_eq_false (fun h => c ((most_iff _ _).1 h))
  clear c
 all_goals
  go_enter Tryz.func31, Tryz.ntmps31
  go_wp2_with (first | (go_at_call 36; (with_reducible refine (ref_RCmp.run s false _ _ _ _ _ _ _ _ _ _ _ _ a b 1 1 L1 L2 1 1 _ (H91.1.be HB.1) (H92.1.be HB.1) H3.1.na H5.1.na (by have := HL.out; omega)).mono ?_); rintro e w6 ⟨rfl, hb⟩; replace H3 := As (H3.1.be hb); replace H5 := As (H5.1.be hb); replace B1 := Bb B1 hb; replace HB := Ob HB hb; clear hb) | ((with_reducible refine gate_dst (N := 6) rfl ?_); refine ev_row (by rfl) #[.int .u32 1] 52 1 ?hr ?_; (case hr => first | (go_simp; done) | (go_simp; rfl)); intro g6 hgx w4 hbx hb; have H5 := Aside0.mk (NA.ofRow1 (a := 1) hbx (by decide)); replace H3 := As (H3.1.be hb); replace B1 := Bb B1 hb; replace HB := Ob HB hb; clear hbx hb hgx) | ((with_reducible refine gate_dst (N := 4) rfl ?_); refine ev_row (by rfl) #[.int .u32 1] 52 1 ?hr ?_; (case hr => first | (go_simp; done) | (go_simp; rfl)); intro g4 hgx w2 hbx hb; have H3 := Aside0.mk (NA.ofRow1 (a := 1) hbx (by decide)); replace B1 := Bb B1 hb; replace HB := Ob HB hb; clear hbx hb hgx) | ((with_reducible refine gate_dst (N := 1) rfl ?_); refine box_event (by rfl) (N := 1) (by rfl) (cs := #[.bool s, .slice A k c, .slice B l d]) (t := 34) ?hr ?_; (case hr => first | (go_simp; done) | (go_simp; rfl)); intro g1 hgx w1 hbx hb; have B1 := As hbx; have G1 := Gg HB hgx; replace HB := Ob HB hb; clear hbx hb hgx; (try clear cb1_0); have cb1_0 := Cl0 B1; (try clear cb1_1); have cb1_1 := Cl1 B1; (try clear cb1_2); have cb1_2 := Cl2 B1))
  go_ret
  exact ⟨by rw [K.out]; rfl, HB.out⟩
theorem ref_level.run (s : Bool) (A B : Option Addr) (k c l d a b L1 L2 : Nat) (w : World) (hv : NA w (.slice A k c) a L1) (hu : NA w (.slice B l d) b L2) (hL : L1 + L2 ≤ 30000000) :
  Calls Tryz.prog 30 #[.agg #[.bool s, .slice A k c, .slice B l d]] w fun e w' => e = .returned (.bool (halfB (pn s a b) (pd b))) ∧ Below w.heap.size w w' := by
 have H91 := Aside0.mk hv
 have H92 := Aside0.mk hu
 have HL := Aside0.mk hL
 have HB := Aside0.mk (Below.refl w.heap.size w)
 clear hv hu hL
 by_cases c : pn s a b ≤ (pd b : Int)
 focus
  have km : decide (pn s a b ≤ (pd b : Int)) = true := decide_eq_true c
  by_cases d : (pd b : Int) < 2 * pn s a b
  focus
   have K := As (show halfB (pn s a b) (pd b) = true by unfold halfB; rw [decide_eq_true d, km]; rfl)
   have kc : decide (0 < cmpZ (pn s a b * (pd 2 : Int)) (pn false 1 2 * (pd b : Int))) = true := decide_eq_true ((lev_iff _ _).2 d)
   clear c d
  rotate_right
  focus
   have K := As (show halfB (pn s a b) (pd b) = false by unfold halfB; rw [decide_eq_false d]; rfl)
   have kc : decide (0 < cmpZ (pn s a b * (pd 2 : Int)) (pn false 1 2 * (pd b : Int))) = false := decide_eq_false (fun h => d ((lev_iff _ _).1 h))
   clear c d
 rotate_right
 focus
  have km : decide (pn s a b ≤ (pd b : Int)) = false := decide_eq_false c
  have K := As (show halfB (pn s a b) (pd b) = false by unfold halfB; rw [km, Bool.and_false])
  clear c
 all_goals
  go_enter Tryz.func30, Tryz.ntmps30
  go_wp2_with (first | (go_at_call 36; (with_reducible refine (ref_RCmp.run s false _ _ _ _ _ _ _ _ _ _ _ _ a b 1 2 L1 L2 1 1 _ (H91.1.be HB.1) (H92.1.be HB.1) H4.1.na H6.1.na (by have := HL.out; omega)).mono ?_); rintro e w7 ⟨rfl, hb⟩; replace H4 := As (H4.1.be hb); replace H6 := As (H6.1.be hb); replace B1 := Bb B1 hb; replace HB := Ob HB hb; clear hb) | ((with_reducible refine gate_dst (N := 9) rfl ?_); refine ev_rowg (by first | rfl | (go_simp; done) | (go_simp; rfl)) #[.int .u32 2] 52 1 ?hr ?_; (case hr => first | (go_simp; done) | (go_simp; rfl)); intro g9 hgx w5 hbx hb; have H6 := Aside0.mk (NA.ofRow1 (a := 2) hbx (by decide)); replace H4 := As (H4.1.be hb); replace B1 := Bb B1 hb; replace HB := Ob HB hb; clear hbx hb hgx) | ((with_reducible refine gate_dst (N := 7) rfl ?_); refine ev_rowg (by first | rfl | (go_simp; done) | (go_simp; rfl)) #[.int .u32 1] 52 1 ?hr ?_; (case hr => first | (go_simp; done) | (go_simp; rfl)); intro g7 hgx w3 hbx hb; have H4 := Aside0.mk (NA.ofRow1 (a := 1) hbx (by decide)); replace B1 := Bb B1 hb; replace HB := Ob HB hb; clear hbx hb hgx) | (go_at_call 31; (with_reducible refine (ref_most.run s _ _ _ _ _ _ a b L1 L2 _ (H91.1.be HB.1) (H92.1.be HB.1) (by have := HL.out; omega)).mono ?_); rintro e w2 ⟨rfl, hb⟩; replace B1 := Bb B1 hb; replace HB := Ob HB hb; clear hb; (try clear cb1_0); have cb1_0 := Cl0 B1; (try clear cb1_1); have cb1_1 := Cl1 B1; (try clear cb1_2); have cb1_2 := Cl2 B1) | ((with_reducible refine gate_dst (N := 1) rfl ?_); refine box_event (by rfl) (N := 1) (by rfl) (cs := #[.bool s, .slice A k c, .slice B l d]) (t := 34) ?hr ?_; (case hr => first | (go_simp; done) | (go_simp; rfl)); intro g1 hgx w1 hbx hb; have B1 := As hbx; have G1 := Gg HB hgx; replace HB := Ob HB hb; clear hbx hb hgx; (try clear cb1_0); have cb1_0 := Cl0 B1; (try clear cb1_1); have cb1_1 := Cl1 B1; (try clear cb1_2); have cb1_2 := Cl2 B1))
  go_ret
  exact ⟨by rw [K.out]; rfl, HB.out⟩
theorem ref_Valid.a (p : Pol) (L : Nat) (w : World) (ok : PolOK w p L) (h : ¬ (blueV p.len p.rs = 0 ∧ gridV p.ps p.qs = 0 ∧ p.en ≤ 400 ∧ inR p.mn 0 p.len = true ∧ 0 ≤ pn p.vs p.vx p.vy ∧ inR p.cut 0 ((p.ps.length : Int) - 1) = true)) :
  Calls Tryz.prog 10 #[.agg #[.int .i64 p.len, .slice p.RA p.rs.length p.rc, .slice p.PA p.ps.length p.pc, .slice p.QA p.qs.length p.qc, .slice p.EA p.en p.ec, .int .i64 p.mn, .bool p.vs, .slice p.vA p.vk p.vc, .slice p.vB p.vl p.vd, .int .i64 p.cut, .bool p.ls, .slice p.lA p.lk p.lc, .slice p.lB p.ll p.ld, .int .i64 p.top, .bool p.ts, .slice p.tA p.tk p.tc, .slice p.tB p.tl p.td, .int .i64 p.slack]] w fun e w' => e = .returned (.int .i64 (validV p)) ∧ Below w.heap.size w w' := by
 have HH := As h
 clear h
 have PO := Aside0.mk ok
 have H91 := Aside0.mk ok.vn
 have H92 := Aside0.mk ok.vd
 have H93 := Aside0.mk ok.ln
 have H94 := Aside0.mk ok.ld
 have H95 := Aside0.mk ok.tn
 have H96 := Aside0.mk ok.td
 have HL := Aside0.mk ok.lim
 have HB := Aside0.mk (Below.refl w.heap.size w)
 clear ok
 obtain ⟨bv, hbv⟩ : ∃ x, blueV p.len p.rs = x := ⟨_, rfl⟩
 have HBV := Aside0.mk hbv
 obtain ⟨gv, hgv⟩ : ∃ x, gridV p.ps p.qs = x := ⟨_, rfl⟩
 have HGV := Aside0.mk hgv
 obtain ⟨cm, hcm⟩ : ∃ x, IntKind.i64.wrap ((p.ps.length : Int) - 1) = x := ⟨_, rfl⟩
 have HCM := Aside0.mk (show (p.ps.length : Int) - 1 = cm by have := PO.out.psl; rw [← hcm, i64_w]; unfold wrap64; omega)
 clear hbv hgv
 by_cases cb : bv = 0
 focus
  have kcb : (bv == 0) = true := by rw [beq_iff_eq]; exact cb
  have kcbn : (bv != 0) = false := by rw [bne, kcb]; rfl
  by_cases cg : gv = 0
  focus
   have kcg : (gv == 0) = true := by rw [beq_iff_eq]; exact cg
   have kcgn : (gv != 0) = false := by rw [bne, kcg]; rfl
   by_cases c4 : 400 < p.en
   focus
    have k4 : decide ((400 : Int) < (p.en : Int)) = true := decide_eq_true (by omega)
    have F := As (show validV p = 5 by
     unfold validV
     rw [HBV.out, HGV.out, HCM.out]
     simp [cb, cg, c4])
   rotate_right
   focus
    have k4 : decide ((400 : Int) < (p.en : Int)) = false := decide_eq_false (by omega)
    cases b1 : inR p.mn 0 p.len
    focus
     have F := As (show validV p = 3 by
      unfold validV
      rw [HBV.out, HGV.out, HCM.out]
      simp [cb, cg, Nat.not_lt.1 c4, b1])
    rotate_right
    focus
     by_cases b2 : pn p.vs p.vx p.vy < 0
     focus
      have kb2 : decide (cmpZ (pn p.vs p.vx p.vy) 0 < 0) = true := decide_eq_true (cmpZ_neg.2 b2)
      have F := As (show validV p = 3 by
       unfold validV
       rw [HBV.out, HGV.out, HCM.out]
       simp [cb, cg, Nat.not_lt.1 c4, b1, b2])
     rotate_right
     focus
      have kb2 : decide (cmpZ (pn p.vs p.vx p.vy) 0 < 0) = false := decide_eq_false (fun h => b2 (cmpZ_neg.1 h))
      have b3 : inR p.cut 0 cm = false := by
       cases b3 : inR p.cut 0 cm
       ·
        rfl
       ·
        exact absurd ⟨by rw [HBV.out]; exact cb, by rw [HGV.out]; exact cg, by omega, b1, by omega, by rw [HCM.out]; exact b3⟩ HH.out
      have F := As (show validV p = 3 by
       unfold validV
       rw [HBV.out, HGV.out, HCM.out]
       simp [cb, cg, Nat.not_lt.1 c4, b1, Int.not_lt.1 b2, b3])
  rotate_right
  focus
   have kcg : (gv == 0) = false := by rw [beq_eq_false_iff_ne]; exact cg
   have kcgn : (gv != 0) = true := by rw [bne, kcg]; rfl
   have F := As (show validV p = gv by
    unfold validV
    rw [HBV.out, HGV.out, HCM.out]
    simp [cb, cg])
 rotate_right
 focus
  have kcb : (bv == 0) = false := by rw [beq_eq_false_iff_ne]; exact cb
  have kcbn : (bv != 0) = true := by rw [bne, kcb]; rfl
  have F := As (show validV p = bv by
   unfold validV
   rw [HBV.out, HGV.out, HCM.out]
   simp [cb])
 all_goals try clear cb
 all_goals try clear cg
 all_goals try clear c4
 all_goals try clear b2
 all_goals
  go_enter Tryz.func10, Tryz.ntmps10
  go_wp2_with (first | (go_at_call 28; (with_reducible refine (ref_within38.run (p.slack) (0) (1000000) _).mono ?_); rintro e w11 ⟨rfl, hw⟩; replace hw := Eq.symm hw; subst hw) | (go_at_call 31; (with_reducible refine (ref_most.run p.ts _ _ _ _ _ _ p.tx p.ty L L _ (H95.1.be HB.1) (H96.1.be HB.1) (by have := HL.out; omega)).mono ?_); rintro e w10 ⟨rfl, hb⟩; replace B1 := Bb B1 hb; replace HB := Ob HB hb; clear hb; (try clear cb1_17); have cb1_17 := Cl17 B1) | (go_at_call 29; (with_reducible refine (ref_RSign.run p.ts _ _ _ _ _ _ p.tx p.ty L L _ (H95.1.be HB.1) (H96.1.be HB.1) (by have := HL.out; omega)).mono ?_); rintro e w9 ⟨rfl, hb⟩; replace B1 := Bb B1 hb; replace HB := Ob HB hb; clear hb; (try clear cb1_14); have cb1_14 := Cl14 B1; (try clear cb1_15); have cb1_15 := Cl15 B1; (try clear cb1_16); have cb1_16 := Cl16 B1) | (go_at_call 28; (with_reducible refine (ref_within38.run (p.top) (1) (5) _).mono ?_); rintro e w8 ⟨rfl, hw⟩; replace hw := Eq.symm hw; subst hw; (try clear cb1_14); have cb1_14 := Cl14 B1; (try clear cb1_15); have cb1_15 := Cl15 B1; (try clear cb1_16); have cb1_16 := Cl16 B1) | (go_at_call 30; (with_reducible refine (ref_level.run p.ls _ _ _ _ _ _ p.lx p.ly L L _ (H93.1.be HB.1) (H94.1.be HB.1) (by have := HL.out; omega)).mono ?_); rintro e w7 ⟨rfl, hb⟩; replace B1 := Bb B1 hb; replace HB := Ob HB hb; clear hb; (try clear cb1_13); have cb1_13 := Cl13 B1) | (go_at_call 28; (with_reducible refine (ref_within38.run (p.cut) (0) (cm) _).mono ?_); rintro e w6 ⟨rfl, hw⟩; replace hw := Eq.symm hw; subst hw; (try clear cb1_10); have cb1_10 := Cl10 B1; (try clear cb1_11); have cb1_11 := Cl11 B1; (try clear cb1_12); have cb1_12 := Cl12 B1) | (go_at_call 29; (with_reducible refine (ref_RSign.run p.vs _ _ _ _ _ _ p.vx p.vy L L _ (H91.1.be HB.1) (H92.1.be HB.1) (by have := HL.out; omega)).mono ?_); rintro e w5 ⟨rfl, hb⟩; replace B1 := Bb B1 hb; replace HB := Ob HB hb; clear hb; (try clear cb1_9); have cb1_9 := Cl9 B1; (try clear cb1_2); have cb1_2 := Cl2 B1) | (go_at_call 28; (with_reducible refine (ref_within38.run (p.mn) (0) (p.len) _).mono ?_); rintro e w4 ⟨rfl, hw⟩; replace hw := Eq.symm hw; subst hw; (try clear cb1_6); have cb1_6 := Cl6 B1; (try clear cb1_7); have cb1_7 := Cl7 B1; (try clear cb1_8); have cb1_8 := Cl8 B1) | (go_at_call 27; (with_reducible refine (ref_GValid.run p.ps p.qs p.PA p.QA p.pc p.qc _ (Kd.C_below PO.out.ps HB.out) (Kd.C_below PO.out.qs HB.out)).mono ?_); rintro e w3 ⟨rfl, hb⟩; replace B1 := Bb B1 hb; replace HB := Ob HB hb; rw [HGV.out]; clear hb; (try clear cb1_4); have cb1_4 := Cl4 B1; (try clear cb1_5); have cb1_5 := Cl5 B1; (try clear cb1_0); have cb1_0 := Cl0 B1) | (go_at_call 26; (with_reducible refine (ref_BValid.run p.len p.rs p.RA p.rc _ (Kd.C_below PO.out.rs HB.out) PO.out.rsz).mono ?_); rintro e w2 ⟨rfl, hb⟩; replace B1 := Bb B1 hb; replace HB := Ob HB hb; rw [HBV.out]; clear hb; (try clear cb1_2); have cb1_2 := Cl2 B1; (try clear cb1_3); have cb1_3 := Cl3 B1) | ((with_reducible refine gate_dst (N := 1) rfl ?_); refine box_event (by rfl) (N := 1) (by rfl) (cs := #[.int .i64 p.len, .slice p.RA p.rs.length p.rc, .slice p.PA p.ps.length p.pc, .slice p.QA p.qs.length p.qc, .slice p.EA p.en p.ec, .int .i64 p.mn, .bool p.vs, .slice p.vA p.vk p.vc, .slice p.vB p.vl p.vd, .int .i64 p.cut, .bool p.ls, .slice p.lA p.lk p.lc, .slice p.lB p.ll p.ld, .int .i64 p.top, .bool p.ts, .slice p.tA p.tk p.tc, .slice p.tB p.tl p.td, .int .i64 p.slack]) (t := 36) ?hr ?_; (case hr => first | (go_simp; done) | (go_simp; rfl)); intro g1 hgx w1 hbx hb; have B1 := As hbx; have G1 := Gg HB hgx; replace HB := Ob HB hb; clear hbx hb hgx; (try clear cb1_0); have cb1_0 := Cl0 B1; (try clear cb1_1); have cb1_1 := Cl1 B1))
  go_ret
  exact ⟨by rw [F.out]; rfl, HB.out⟩
theorem ref_Valid.b (p : Pol) (L : Nat) (w : World) (ok : PolOK w p L) (hh : blueV p.len p.rs = 0 ∧ gridV p.ps p.qs = 0 ∧ p.en ≤ 400 ∧ inR p.mn 0 p.len = true ∧ 0 ≤ pn p.vs p.vx p.vy ∧ inR p.cut 0 ((p.ps.length : Int) - 1) = true) (c0 : (p.cut == 0) = true) :
  Calls Tryz.prog 10 #[.agg #[.int .i64 p.len, .slice p.RA p.rs.length p.rc, .slice p.PA p.ps.length p.pc, .slice p.QA p.qs.length p.qc, .slice p.EA p.en p.ec, .int .i64 p.mn, .bool p.vs, .slice p.vA p.vk p.vc, .slice p.vB p.vl p.vd, .int .i64 p.cut, .bool p.ls, .slice p.lA p.lk p.lc, .slice p.lB p.ll p.ld, .int .i64 p.top, .bool p.ts, .slice p.tA p.tk p.tc, .slice p.tB p.tl p.td, .int .i64 p.slack]] w fun e w' => e = .returned (.int .i64 (validV p)) ∧ Below w.heap.size w w' := by
 have PO := Aside0.mk ok
 have H91 := Aside0.mk ok.vn
 have H92 := Aside0.mk ok.vd
 have H93 := Aside0.mk ok.ln
 have H94 := Aside0.mk ok.ld
 have H95 := Aside0.mk ok.tn
 have H96 := Aside0.mk ok.td
 have HL := Aside0.mk ok.lim
 have HB := Aside0.mk (Below.refl w.heap.size w)
 clear ok
 obtain ⟨bv, hbv⟩ : ∃ x, blueV p.len p.rs = x := ⟨_, rfl⟩
 have HBV := Aside0.mk hbv
 obtain ⟨gv, hgv⟩ : ∃ x, gridV p.ps p.qs = x := ⟨_, rfl⟩
 have HGV := Aside0.mk hgv
 obtain ⟨cm, hcm⟩ : ∃ x, IntKind.i64.wrap ((p.ps.length : Int) - 1) = x := ⟨_, rfl⟩
 have HCM := Aside0.mk (show (p.ps.length : Int) - 1 = cm by have := PO.out.psl; rw [← hcm, i64_w]; unfold wrap64; omega)
 clear hbv hgv
 obtain ⟨cb, cg, c4, b1, b2, b3⟩ := hh
 rw [HBV.out] at cb
 rw [HGV.out] at cg
 rw [HCM.out] at b3
 have kcb : (bv == 0) = true := by rw [beq_iff_eq]; exact cb
 have kcbn : (bv != 0) = false := by rw [bne, kcb]; rfl
 have kcg : (gv == 0) = true := by rw [beq_iff_eq]; exact cg
 have kcgn : (gv != 0) = false := by rw [bne, kcg]; rfl
 have k4 : decide ((400 : Int) < (p.en : Int)) = false := decide_eq_false (by omega)
 have kb2 : decide (cmpZ (pn p.vs p.vx p.vy) 0 < 0) = false := decide_eq_false (fun h => Int.not_lt.2 b2 (cmpZ_neg.1 h))
 have c0n : (p.cut != 0) = false := by rw [bne, c0]; rfl
 have e0 : p.cut = 0 := eq_of_beq c0
 have b3z : inR 0 0 cm = true := by (have h := b3; rw [e0] at h; exact h)
 cases b5 : inR p.top 1 5
 focus
  have F := As (show validV p = 3 by
   unfold validV
   rw [HBV.out, HGV.out, HCM.out]
   simp [cb, cg, Nat.not_lt.2 c4, b1, Int.not_lt.2 b2, b3, e0, b3z, b5])
 rotate_right
 focus
  by_cases b6 : pn p.ts p.tx p.ty ≤ 0
  focus
   have kr : decide (cmpZ (pn p.ts p.tx p.ty) 0 ≤ 0) = true := decide_eq_true (cmpZ_nonpos.2 b6)
   have b7 : unitB (pn p.ts p.tx p.ty) (pd p.ty) = false := by unfold unitB; rw [decide_eq_false (Int.not_lt.2 b6)]; rfl
   have F := As (show validV p = 3 by
    unfold validV
    rw [HBV.out, HGV.out, HCM.out]
    simp [cb, cg, Nat.not_lt.2 c4, b1, Int.not_lt.2 b2, b3, e0, b3z, b5, b7])
  rotate_right
  focus
   have kr : decide (cmpZ (pn p.ts p.tx p.ty) 0 ≤ 0) = false := decide_eq_false (fun h => b6 (cmpZ_nonpos.1 h))
   by_cases b8 : pn p.ts p.tx p.ty ≤ (pd p.ty : Int)
   focus
    have km : decide (pn p.ts p.tx p.ty ≤ (pd p.ty : Int)) = true := decide_eq_true b8
    have b7 : unitB (pn p.ts p.tx p.ty) (pd p.ty) = true := by unfold unitB; rw [decide_eq_true (Int.not_le.1 b6), km]; rfl
    cases b9 : inR p.slack 0 1000000
    focus
     have F := As (show validV p = 3 by
      unfold validV
      rw [HBV.out, HGV.out, HCM.out]
      simp [cb, cg, Nat.not_lt.2 c4, b1, Int.not_lt.2 b2, b3, e0, b3z, b5, b7, b9])
    rotate_right
    focus
     have F := As (show validV p = 0 by
      unfold validV
      rw [HBV.out, HGV.out, HCM.out]
      simp [cb, cg, Nat.not_lt.2 c4, b1, Int.not_lt.2 b2, b3, e0, b3z, b5, b7, b9])
   rotate_right
   focus
    have km : decide (pn p.ts p.tx p.ty ≤ (pd p.ty : Int)) = false := decide_eq_false b8
    have b7 : unitB (pn p.ts p.tx p.ty) (pd p.ty) = false := by unfold unitB; rw [km, Bool.and_false]
    have F := As (show validV p = 3 by
     unfold validV
     rw [HBV.out, HGV.out, HCM.out]
     simp [cb, cg, Nat.not_lt.2 c4, b1, Int.not_lt.2 b2, b3, e0, b3z, b5, b7])
 all_goals clear cb
 all_goals clear cg
 all_goals clear c4
 all_goals clear b2
 all_goals try clear b6
 all_goals try clear b8
 all_goals try clear b7
 all_goals clear e0
 all_goals
  go_enter Tryz.func10, Tryz.ntmps10
  go_wp2_with (first | (go_at_call 28; (with_reducible refine (ref_within38.run (p.slack) (0) (1000000) _).mono ?_); rintro e w10 ⟨rfl, hw⟩; replace hw := Eq.symm hw; subst hw) | (go_at_call 31; (with_reducible refine (ref_most.run p.ts _ _ _ _ _ _ p.tx p.ty L L _ (H95.1.be HB.1) (H96.1.be HB.1) (by have := HL.out; omega)).mono ?_); rintro e w9 ⟨rfl, hb⟩; replace B1 := Bb B1 hb; replace HB := Ob HB hb; clear hb; (try clear cb1_17); have cb1_17 := Cl17 B1) | (go_at_call 29; (with_reducible refine (ref_RSign.run p.ts _ _ _ _ _ _ p.tx p.ty L L _ (H95.1.be HB.1) (H96.1.be HB.1) (by have := HL.out; omega)).mono ?_); rintro e w8 ⟨rfl, hb⟩; replace B1 := Bb B1 hb; replace HB := Ob HB hb; clear hb; (try clear cb1_14); have cb1_14 := Cl14 B1; (try clear cb1_15); have cb1_15 := Cl15 B1; (try clear cb1_16); have cb1_16 := Cl16 B1) | (go_at_call 28; (with_reducible refine (ref_within38.run (p.top) (1) (5) _).mono ?_); rintro e w7 ⟨rfl, hw⟩; replace hw := Eq.symm hw; subst hw; (try clear cb1_14); have cb1_14 := Cl14 B1; (try clear cb1_15); have cb1_15 := Cl15 B1; (try clear cb1_16); have cb1_16 := Cl16 B1) | (go_at_call 28; (with_reducible refine (ref_within38.run (p.cut) (0) (cm) _).mono ?_); rintro e w6 ⟨rfl, hw⟩; replace hw := Eq.symm hw; subst hw; (try clear cb1_13); have cb1_13 := Cl13 B1) | (go_at_call 29; (with_reducible refine (ref_RSign.run p.vs _ _ _ _ _ _ p.vx p.vy L L _ (H91.1.be HB.1) (H92.1.be HB.1) (by have := HL.out; omega)).mono ?_); rintro e w5 ⟨rfl, hb⟩; replace B1 := Bb B1 hb; replace HB := Ob HB hb; clear hb; (try clear cb1_9); have cb1_9 := Cl9 B1; (try clear cb1_2); have cb1_2 := Cl2 B1) | (go_at_call 28; (with_reducible refine (ref_within38.run (p.mn) (0) (p.len) _).mono ?_); rintro e w4 ⟨rfl, hw⟩; replace hw := Eq.symm hw; subst hw; (try clear cb1_6); have cb1_6 := Cl6 B1; (try clear cb1_7); have cb1_7 := Cl7 B1; (try clear cb1_8); have cb1_8 := Cl8 B1) | (go_at_call 27; (with_reducible refine (ref_GValid.run p.ps p.qs p.PA p.QA p.pc p.qc _ (Kd.C_below PO.out.ps HB.out) (Kd.C_below PO.out.qs HB.out)).mono ?_); rintro e w3 ⟨rfl, hb⟩; replace B1 := Bb B1 hb; replace HB := Ob HB hb; rw [HGV.out]; clear hb; (try clear cb1_4); have cb1_4 := Cl4 B1; (try clear cb1_5); have cb1_5 := Cl5 B1; (try clear cb1_0); have cb1_0 := Cl0 B1) | (go_at_call 26; (with_reducible refine (ref_BValid.run p.len p.rs p.RA p.rc _ (Kd.C_below PO.out.rs HB.out) PO.out.rsz).mono ?_); rintro e w2 ⟨rfl, hb⟩; replace B1 := Bb B1 hb; replace HB := Ob HB hb; rw [HBV.out]; clear hb; (try clear cb1_2); have cb1_2 := Cl2 B1; (try clear cb1_3); have cb1_3 := Cl3 B1) | ((with_reducible refine gate_dst (N := 1) rfl ?_); refine box_event (by rfl) (N := 1) (by rfl) (cs := #[.int .i64 p.len, .slice p.RA p.rs.length p.rc, .slice p.PA p.ps.length p.pc, .slice p.QA p.qs.length p.qc, .slice p.EA p.en p.ec, .int .i64 p.mn, .bool p.vs, .slice p.vA p.vk p.vc, .slice p.vB p.vl p.vd, .int .i64 p.cut, .bool p.ls, .slice p.lA p.lk p.lc, .slice p.lB p.ll p.ld, .int .i64 p.top, .bool p.ts, .slice p.tA p.tk p.tc, .slice p.tB p.tl p.td, .int .i64 p.slack]) (t := 36) ?hr ?_; (case hr => first | (go_simp; done) | (go_simp; rfl)); intro g1 hgx w1 hbx hb; have B1 := As hbx; have G1 := Gg HB hgx; replace HB := Ob HB hb; clear hbx hb hgx; (try clear cb1_0); have cb1_0 := Cl0 B1; (try clear cb1_1); have cb1_1 := Cl1 B1))
  go_ret
  exact ⟨by rw [F.out]; rfl, HB.out⟩
theorem ref_Valid.c (p : Pol) (L : Nat) (w : World) (ok : PolOK w p L) (hh : blueV p.len p.rs = 0 ∧ gridV p.ps p.qs = 0 ∧ p.en ≤ 400 ∧ inR p.mn 0 p.len = true ∧ 0 ≤ pn p.vs p.vx p.vy ∧ inR p.cut 0 ((p.ps.length : Int) - 1) = true) (c0 : (p.cut == 0) = false) :
  Calls Tryz.prog 10 #[.agg #[.int .i64 p.len, .slice p.RA p.rs.length p.rc, .slice p.PA p.ps.length p.pc, .slice p.QA p.qs.length p.qc, .slice p.EA p.en p.ec, .int .i64 p.mn, .bool p.vs, .slice p.vA p.vk p.vc, .slice p.vB p.vl p.vd, .int .i64 p.cut, .bool p.ls, .slice p.lA p.lk p.lc, .slice p.lB p.ll p.ld, .int .i64 p.top, .bool p.ts, .slice p.tA p.tk p.tc, .slice p.tB p.tl p.td, .int .i64 p.slack]] w fun e w' => e = .returned (.int .i64 (validV p)) ∧ Below w.heap.size w w' := by
 have PO := Aside0.mk ok
 have H91 := Aside0.mk ok.vn
 have H92 := Aside0.mk ok.vd
 have H93 := Aside0.mk ok.ln
 have H94 := Aside0.mk ok.ld
 have H95 := Aside0.mk ok.tn
 have H96 := Aside0.mk ok.td
 have HL := Aside0.mk ok.lim
 have HB := Aside0.mk (Below.refl w.heap.size w)
 clear ok
 obtain ⟨bv, hbv⟩ : ∃ x, blueV p.len p.rs = x := ⟨_, rfl⟩
 have HBV := Aside0.mk hbv
 obtain ⟨gv, hgv⟩ : ∃ x, gridV p.ps p.qs = x := ⟨_, rfl⟩
 have HGV := Aside0.mk hgv
 obtain ⟨cm, hcm⟩ : ∃ x, IntKind.i64.wrap ((p.ps.length : Int) - 1) = x := ⟨_, rfl⟩
 have HCM := Aside0.mk (show (p.ps.length : Int) - 1 = cm by have := PO.out.psl; rw [← hcm, i64_w]; unfold wrap64; omega)
 clear hbv hgv
 obtain ⟨cb, cg, c4, b1, b2, b3⟩ := hh
 rw [HBV.out] at cb
 rw [HGV.out] at cg
 rw [HCM.out] at b3
 have kcb : (bv == 0) = true := by rw [beq_iff_eq]; exact cb
 have kcbn : (bv != 0) = false := by rw [bne, kcb]; rfl
 have kcg : (gv == 0) = true := by rw [beq_iff_eq]; exact cg
 have kcgn : (gv != 0) = false := by rw [bne, kcg]; rfl
 have k4 : decide ((400 : Int) < (p.en : Int)) = false := decide_eq_false (by omega)
 have kb2 : decide (cmpZ (pn p.vs p.vx p.vy) 0 < 0) = false := decide_eq_false (fun h => Int.not_lt.2 b2 (cmpZ_neg.1 h))
 have c0n : (p.cut != 0) = true := by rw [bne, c0]; rfl
 have e0 : p.cut ≠ 0 := by rw [← beq_eq_false_iff_ne]; exact c0
 cases b4 : halfB (pn p.ls p.lx p.ly) (pd p.ly)
 focus
  have F := As (show validV p = 3 by
   unfold validV
   rw [HBV.out, HGV.out, HCM.out]
   simp [cb, cg, Nat.not_lt.2 c4, b1, Int.not_lt.2 b2, b3, e0, b4])
 rotate_right
 focus
  cases b5 : inR p.top 1 5
  focus
   have F := As (show validV p = 3 by
    unfold validV
    rw [HBV.out, HGV.out, HCM.out]
    simp [cb, cg, Nat.not_lt.2 c4, b1, Int.not_lt.2 b2, b3, e0, b4, b5])
  rotate_right
  focus
   by_cases b6 : pn p.ts p.tx p.ty ≤ 0
   focus
    have kr : decide (cmpZ (pn p.ts p.tx p.ty) 0 ≤ 0) = true := decide_eq_true (cmpZ_nonpos.2 b6)
    have b7 : unitB (pn p.ts p.tx p.ty) (pd p.ty) = false := by unfold unitB; rw [decide_eq_false (Int.not_lt.2 b6)]; rfl
    have F := As (show validV p = 3 by
     unfold validV
     rw [HBV.out, HGV.out, HCM.out]
     simp [cb, cg, Nat.not_lt.2 c4, b1, Int.not_lt.2 b2, b3, e0, b4, b5, b7])
   rotate_right
   focus
    have kr : decide (cmpZ (pn p.ts p.tx p.ty) 0 ≤ 0) = false := decide_eq_false (fun h => b6 (cmpZ_nonpos.1 h))
    by_cases b8 : pn p.ts p.tx p.ty ≤ (pd p.ty : Int)
    focus
     have km : decide (pn p.ts p.tx p.ty ≤ (pd p.ty : Int)) = true := decide_eq_true b8
     have b7 : unitB (pn p.ts p.tx p.ty) (pd p.ty) = true := by unfold unitB; rw [decide_eq_true (Int.not_le.1 b6), km]; rfl
     cases b9 : inR p.slack 0 1000000
     focus
      have F := As (show validV p = 3 by
       unfold validV
       rw [HBV.out, HGV.out, HCM.out]
       simp [cb, cg, Nat.not_lt.2 c4, b1, Int.not_lt.2 b2, b3, e0, b4, b5, b7, b9])
     rotate_right
     focus
      have F := As (show validV p = 0 by
       unfold validV
       rw [HBV.out, HGV.out, HCM.out]
       simp [cb, cg, Nat.not_lt.2 c4, b1, Int.not_lt.2 b2, b3, e0, b4, b5, b7, b9])
    rotate_right
    focus
     have km : decide (pn p.ts p.tx p.ty ≤ (pd p.ty : Int)) = false := decide_eq_false b8
     have b7 : unitB (pn p.ts p.tx p.ty) (pd p.ty) = false := by unfold unitB; rw [km, Bool.and_false]
     have F := As (show validV p = 3 by
      unfold validV
      rw [HBV.out, HGV.out, HCM.out]
      simp [cb, cg, Nat.not_lt.2 c4, b1, Int.not_lt.2 b2, b3, e0, b4, b5, b7])
 all_goals clear cb
 all_goals clear cg
 all_goals clear c4
 all_goals clear b2
 all_goals try clear b6
 all_goals try clear b8
 all_goals try clear b7
 all_goals clear e0
 all_goals
  go_enter Tryz.func10, Tryz.ntmps10
  go_wp2_with (first | (go_at_call 28; (with_reducible refine (ref_within38.run (p.slack) (0) (1000000) _).mono ?_); rintro e w11 ⟨rfl, hw⟩; replace hw := Eq.symm hw; subst hw) | (go_at_call 31; (with_reducible refine (ref_most.run p.ts _ _ _ _ _ _ p.tx p.ty L L _ (H95.1.be HB.1) (H96.1.be HB.1) (by have := HL.out; omega)).mono ?_); rintro e w10 ⟨rfl, hb⟩; replace B1 := Bb B1 hb; replace HB := Ob HB hb; clear hb; (try clear cb1_17); have cb1_17 := Cl17 B1) | (go_at_call 29; (with_reducible refine (ref_RSign.run p.ts _ _ _ _ _ _ p.tx p.ty L L _ (H95.1.be HB.1) (H96.1.be HB.1) (by have := HL.out; omega)).mono ?_); rintro e w9 ⟨rfl, hb⟩; replace B1 := Bb B1 hb; replace HB := Ob HB hb; clear hb; (try clear cb1_14); have cb1_14 := Cl14 B1; (try clear cb1_15); have cb1_15 := Cl15 B1; (try clear cb1_16); have cb1_16 := Cl16 B1) | (go_at_call 28; (with_reducible refine (ref_within38.run (p.top) (1) (5) _).mono ?_); rintro e w8 ⟨rfl, hw⟩; replace hw := Eq.symm hw; subst hw; (try clear cb1_14); have cb1_14 := Cl14 B1; (try clear cb1_15); have cb1_15 := Cl15 B1; (try clear cb1_16); have cb1_16 := Cl16 B1) | (go_at_call 30; (with_reducible refine (ref_level.run p.ls _ _ _ _ _ _ p.lx p.ly L L _ (H93.1.be HB.1) (H94.1.be HB.1) (by have := HL.out; omega)).mono ?_); rintro e w7 ⟨rfl, hb⟩; replace B1 := Bb B1 hb; replace HB := Ob HB hb; clear hb; (try clear cb1_13); have cb1_13 := Cl13 B1) | (go_at_call 28; (with_reducible refine (ref_within38.run (p.cut) (0) (cm) _).mono ?_); rintro e w6 ⟨rfl, hw⟩; replace hw := Eq.symm hw; subst hw; (try clear cb1_10); have cb1_10 := Cl10 B1; (try clear cb1_11); have cb1_11 := Cl11 B1; (try clear cb1_12); have cb1_12 := Cl12 B1) | (go_at_call 29; (with_reducible refine (ref_RSign.run p.vs _ _ _ _ _ _ p.vx p.vy L L _ (H91.1.be HB.1) (H92.1.be HB.1) (by have := HL.out; omega)).mono ?_); rintro e w5 ⟨rfl, hb⟩; replace B1 := Bb B1 hb; replace HB := Ob HB hb; clear hb; (try clear cb1_9); have cb1_9 := Cl9 B1; (try clear cb1_2); have cb1_2 := Cl2 B1) | (go_at_call 28; (with_reducible refine (ref_within38.run (p.mn) (0) (p.len) _).mono ?_); rintro e w4 ⟨rfl, hw⟩; replace hw := Eq.symm hw; subst hw; (try clear cb1_6); have cb1_6 := Cl6 B1; (try clear cb1_7); have cb1_7 := Cl7 B1; (try clear cb1_8); have cb1_8 := Cl8 B1) | (go_at_call 27; (with_reducible refine (ref_GValid.run p.ps p.qs p.PA p.QA p.pc p.qc _ (Kd.C_below PO.out.ps HB.out) (Kd.C_below PO.out.qs HB.out)).mono ?_); rintro e w3 ⟨rfl, hb⟩; replace B1 := Bb B1 hb; replace HB := Ob HB hb; rw [HGV.out]; clear hb; (try clear cb1_4); have cb1_4 := Cl4 B1; (try clear cb1_5); have cb1_5 := Cl5 B1; (try clear cb1_0); have cb1_0 := Cl0 B1) | (go_at_call 26; (with_reducible refine (ref_BValid.run p.len p.rs p.RA p.rc _ (Kd.C_below PO.out.rs HB.out) PO.out.rsz).mono ?_); rintro e w2 ⟨rfl, hb⟩; replace B1 := Bb B1 hb; replace HB := Ob HB hb; rw [HBV.out]; clear hb; (try clear cb1_2); have cb1_2 := Cl2 B1; (try clear cb1_3); have cb1_3 := Cl3 B1) | ((with_reducible refine gate_dst (N := 1) rfl ?_); refine box_event (by rfl) (N := 1) (by rfl) (cs := #[.int .i64 p.len, .slice p.RA p.rs.length p.rc, .slice p.PA p.ps.length p.pc, .slice p.QA p.qs.length p.qc, .slice p.EA p.en p.ec, .int .i64 p.mn, .bool p.vs, .slice p.vA p.vk p.vc, .slice p.vB p.vl p.vd, .int .i64 p.cut, .bool p.ls, .slice p.lA p.lk p.lc, .slice p.lB p.ll p.ld, .int .i64 p.top, .bool p.ts, .slice p.tA p.tk p.tc, .slice p.tB p.tl p.td, .int .i64 p.slack]) (t := 36) ?hr ?_; (case hr => first | (go_simp; done) | (go_simp; rfl)); intro g1 hgx w1 hbx hb; have B1 := As hbx; have G1 := Gg HB hgx; replace HB := Ob HB hb; clear hbx hb hgx; (try clear cb1_0); have cb1_0 := Cl0 B1; (try clear cb1_1); have cb1_1 := Cl1 B1))
  go_ret
  exact ⟨by rw [F.out]; rfl, HB.out⟩
theorem ref_Valid.run (p : Pol) (L : Nat) (w : World) (ok : PolOK w p L) : Calls Tryz.prog 10 #[.agg #[.int .i64 p.len, .slice p.RA p.rs.length p.rc, .slice p.PA p.ps.length p.pc, .slice p.QA p.qs.length p.qc, .slice p.EA p.en p.ec, .int .i64 p.mn, .bool p.vs, .slice p.vA p.vk p.vc, .slice p.vB p.vl p.vd, .int .i64 p.cut, .bool p.ls, .slice p.lA p.lk p.lc, .slice p.lB p.ll p.ld, .int .i64 p.top, .bool p.ts, .slice p.tA p.tk p.tc, .slice p.tB p.tl p.td, .int .i64 p.slack]] w fun e w' => e = .returned (.int .i64 (validV p)) ∧ Below w.heap.size w w' := by
 by_cases h : blueV p.len p.rs = 0 ∧ gridV p.ps p.qs = 0 ∧ p.en ≤ 400 ∧ inR p.mn 0 p.len = true ∧ 0 ≤ pn p.vs p.vx p.vy ∧ inR p.cut 0 ((p.ps.length : Int) - 1) = true
 ·
  cases c : (p.cut == 0)
  ·
   exact ref_Valid.c p L w ok h c
  ·
   exact ref_Valid.b p L w ok h c
 ·
  exact ref_Valid.a p L w ok h
end Go.Proofs.YtnmfmiemkcaocaaGreat.Hand
