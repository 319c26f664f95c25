/- Parts of the proof, joined: GrF, HandIx, QCutAx1, HandV. No condition. -/
import Derived.Test.YtnmfmiemkcaocaaGreatQb5
import Derived.Lib.Bytealg
import Derived.Lib.Strings
set_option maxHeartbeats 8000000
set_option maxRecDepth 100000
namespace Go.Proofs.YtnmfmiemkcaocaaGreat.Hand
open Go.RowKit Go.Proofs.YtnmfmiemkcaocaaGreatW.PrintWords Go.Proofs.YtnmfmiemkcaocaaGreatW.PrintLast Go.Proofs.YtnmfmiemkcaocaaGreatW.PrintMore
set_option linter.unusedVariables false
set_option linter.unusedSimpArgs false
def classV (ns : List Nat) (cut x y : Int) : Int × Int :=
 if estV ns ≠ 0 then (0, estV ns)
 else if cut < 1 ∨ (ns.length : Int) ≤ cut ∨ 2 * x ≤ y ∨ y < x then (0, 3)
 else if reach (ns.drop cut.toNat).sum ns.sum x y then (1, 0)
 else if reach (ns.take cut.toNat).sum ns.sum x y then (0, 0) else (-1, 0)
theorem estV_ok {ns : List Nat} (h : estV ns = 0) : ns.length ≤ 21 ∧ 0 < ns.sum := by
 unfold estV at h
 split at h
 ·
  exact absurd h (by decide)
 ·
  split at h
  ·
   exact absurd h (by decide)
  ·
   omega
theorem tot_drop (wss : List (List Int)) (q : Nat) : ((wss.drop q).map List.length).sum ≤ (wss.map List.length).sum := by
 have := congrArg (fun l => (l.map List.length).sum) (List.take_append_drop q wss)
 simp only [List.map_append, List.sum_append] at this
 omega
theorem WR.drop {w : World} {ad : Addr} {wss : List (List Int)} {L q c : Nat} (h : WR w (some ad) wss L) (hq : q ≤ wss.length) (hc : wss.length ≤ c) : WR w (if c = q then some ad else some (ad.add q)) (wss.drop q) L := by
 refine ⟨?_, fun xs hx => h.2.1 xs (List.mem_of_mem_drop hx), Nat.le_trans (tot_drop _ _) h.2.2⟩
 have := Kd.C_drop h.1 hq hc
 rw [show q * (Kd.slice 52 (Kd.int .u32)).sz = q from by show q * 1 = q; omega] at this
 exact this
theorem WR.take {w : World} {A : Option Addr} {wss : List (List Int)} {L q : Nat} (h : WR w A wss L) (hq : q ≤ wss.length) : WR w A (wss.take q) L :=
 ⟨Kd.C_take h.1 hq, fun xs hx => h.2.1 xs (List.mem_of_mem_take hx), Nat.le_trans (tot_le _ _) h.2.2⟩
theorem half_cmp {x y n m : Int} (h : n * 2 = 1 * m) (hm : 0 < m) : x * m ≤ n * y ↔ 2 * x ≤ y := by
 have := frac_le (n := n) (m := m) (a := 1) (b := 2) (x := x) (y := y) h hm (by omega)
 rw [this]
 omega
theorem one_cmp {x y n m : Int} (h : n * 1 = 1 * m) (hm : 0 < m) : n * y < x * m ↔ y < x := by
 have := frac_le (n := n) (m := m) (a := 1) (b := 1) (x := x) (y := y) h hm (by omega)
 omega
theorem estimate_Class.run (A : Option Addr) (cap : Nat) (wss : List (List Int)) (L : Nat) (cut : Int) (s : Bool) (D E : Option Addr) (m1 m2 p1 p2 x y L3 L4 : Nat) (w : World) (hw : WR w A wss L) (hc : wss.length ≤ cap) (hl : wss.length ≤ 100000000) (hL : L ≤ 1100000) (hx : NA w (.slice D m1 m2) x L3) (hy : NA w (.slice E p1 p2) y L4) (hL3 : L3 + L4 ≤ 4000000) :
  Calls Tryz.prog 37 #[.slice A wss.length cap, .int .i64 cut, .agg #[.bool s, .slice D m1 m2, .slice E p1 p2]] w fun e w' => e = .returned (.tuple #[.int .i64 (classV (wn wss) cut (pn s x y) (pd y)).1, .int .i64 (classV (wn wss) cut (pn s x y) (pd y)).2]) ∧ Below w.heap.size w w' := by
 have HW := Aside0.mk hw
 have H93 := Aside0.mk hx
 have H94 := Aside0.mk hy
 have HC := Aside0.mk hc
 have HL := Aside0.mk (And.intro hl (And.intro hL hL3))
 have HB := Aside0.mk (Below.refl w.heap.size w)
 clear hw hx hy hc hl hL hL3
 obtain ⟨ev, hev⟩ : ∃ v, estV (wn wss) = v := ⟨_, rfl⟩
 have HE := Aside0.mk hev
 clear hev
 by_cases cg : ev = 0
 ·
  have kg : (ev == 0) = true := by rw [beq_iff_eq]; exact cg
  have kgn : (ev != 0) = false := by rw [bne, kg]; rfl
  have DX1 := Aside0.mk (HE.out.trans cg)
  have SP := Aside0.mk (show 0 < (wn wss).sum from (estV_ok (HE.out.trans cg)).2)
  clear cg
  by_cases c1 : cut < 1
  ·
   have k1 : decide (cut < 1) = true := decide_eq_true c1
   have DX2 := Aside0.mk c1
   clear c1
   go_enter Tryz.func37, Tryz.ntmps37
   go_wp2_with (first | ((with_reducible refine gate_store (t := 34) (p := 11) rfl ?_); refine Sto (t := 34) (p := 11) (by rfl) (.tmp 25) (by rfl) (by rfl) g11 #[.bool s8, .slice A8 k8 c8, .slice D8 l8 d8] (by rfl) (by first | rfl | (go_simp; done) | (go_simp; rfl)) B11 (by kernel_rfl) rfl (by kernel_rfl) ?_; intro w12 ho hB2; replace H4 := As (H4.1.o3 ho B11); replace H5 := As (H5.1.o3 ho B11); replace H9 := As (H9.1.o3 ho B11); replace H10 := As (H10.1.o3 ho B11); replace B5 := Oo B5 ho NE5_11; replace B9 := Oo B9 ho NE9_11; replace HB := Lo HB ho G11; replace B11 := hB2; clear ho hB2) | ((with_reducible refine gate_dst (N := 11) rfl ?_); refine box_event (by rfl) (N := 11) (by rfl) (cs := #[.bool false, .slice none 0 0, .slice none 0 0]) (t := 34) ?hr ?_; (case hr => first | (go_simp; done) | (go_simp; rfl)); intro g11 hgx w11 hbx hb; have B11 := As hbx; have NE5_11 := Nn B5 hgx; have NE9_11 := Nn B9 hgx; have G11 := Gg HB hgx; replace H4 := As (H4.1.be hb); replace H5 := As (H5.1.be hb); replace H9 := As (H9.1.be hb); replace H10 := As (H10.1.be hb); replace B5 := Bb B5 hb; replace B9 := Bb B9 hb; replace HB := Ob HB hb; clear hbx hb hgx) | (go_at_call 23; (with_reducible refine (ratio_Of.run (1) (2) _ (by decide) (by decide) (by decide) (by decide)).mono ?_); rintro e w8 ⟨s8, A8, k8, c8, D8, l8, d8, n8, m8, rfl, hq8, hr8, hm8, hz8, hb⟩; have H9 := Aside0.mk hq8; have H10 := Aside0.mk hr8; have F8 := Aside0.mk (And.intro hm8 hz8); clear hq8 hr8 hm8 hz8; replace H4 := As (H4.1.be hb); replace H5 := As (H5.1.be hb); replace B5 := Bb B5 hb; replace B9 := Bb B9 hb; replace HB := Ob HB hb; clear hb) | ((with_reducible refine gate_store (t := 34) (p := 9) rfl ?_); refine Sto (t := 34) (p := 9) (by rfl) (.tmp 21) (by rfl) (by rfl) g9 #[.bool s3, .slice A3 k3 c3, .slice D3 l3 d3] (by rfl) (by first | rfl | (go_simp; done) | (go_simp; rfl)) B9 (by kernel_rfl) rfl (by kernel_rfl) ?_; intro w7 ho hB2; replace H4 := As (H4.1.o3 ho B9); replace H5 := As (H5.1.o3 ho B9); replace B5 := Oo B5 ho NE5_9; replace HB := Lo HB ho G9; replace B9 := hB2; clear ho hB2) | ((with_reducible refine gate_dst (N := 9) rfl ?_); refine box_event (by rfl) (N := 9) (by rfl) (cs := #[.bool false, .slice none 0 0, .slice none 0 0]) (t := 34) ?hr ?_; (case hr => first | (go_simp; done) | (go_simp; rfl)); intro g9 hgx w6 hbx hb; have B9 := As hbx; have NE5_9 := Nn B5 hgx; have G9 := Gg HB hgx; replace H4 := As (H4.1.be hb); replace H5 := As (H5.1.be hb); replace B5 := Bb B5 hb; replace HB := Ob HB hb; clear hbx hb hgx) | (go_at_call 23; (with_reducible refine (ratio_Of.run (1) (1) _ (by decide) (by decide) (by decide) (by decide)).mono ?_); rintro e w3 ⟨s3, A3, k3, c3, D3, l3, d3, n3, m3, rfl, hq3, hr3, hm3, hz3, hb⟩; have H4 := Aside0.mk hq3; have H5 := Aside0.mk hr3; have F3 := Aside0.mk (And.intro hm3 hz3); clear hq3 hr3 hm3 hz3; replace B5 := Bb B5 hb; replace HB := Ob HB hb; clear hb) | (go_at_call 58; (with_reducible refine (estimate_check.run _ _ wss L _ (HW.out.below HB.out) HL.out.1 HL.out.2.1).mono ?_); rintro e w2 ⟨rfl, hb⟩; replace B5 := Bb B5 hb; replace HB := Ob HB hb; rw [HE.out]; clear hb) | ((with_reducible refine gate_dst (N := 5) rfl ?_); refine box_event (by rfl) (N := 5) (by rfl) (cs := #[.bool s, .slice D m1 m2, .slice E p1 p2]) (t := 34) ?hr ?_; (case hr => first | (go_simp; done) | (go_simp; rfl)); intro g5 hgx w1 hbx hb; have B5 := As hbx; have G5 := Gg HB hgx; replace HB := Ob HB hb; clear hbx hb hgx))
   go_ret2
   refine ⟨?_, HB.out⟩
   rw [show classV (wn wss) cut (pn s x y) (pd y) = (0, 3) by
    unfold classV
    rw [if_neg (fun h => h DX1.out), if_pos (Or.inl DX2.out)]
    ]
   rfl
  ·
   have k1 : decide (cut < 1) = false := decide_eq_false c1
   by_cases c2 : (wss.length : Int) ≤ cut
   ·
    have k2 : decide ((wss.length : Int) ≤ cut) = true := decide_eq_true c2
    have DX2 := Aside0.mk c2
    clear c1 c2
    go_enter Tryz.func37, Tryz.ntmps37
    go_wp2_with (first | ((with_reducible refine gate_store (t := 34) (p := 11) rfl ?_); refine Sto (t := 34) (p := 11) (by rfl) (.tmp 25) (by rfl) (by rfl) g11 #[.bool s8, .slice A8 k8 c8, .slice D8 l8 d8] (by rfl) (by first | rfl | (go_simp; done) | (go_simp; rfl)) B11 (by kernel_rfl) rfl (by kernel_rfl) ?_; intro w12 ho hB2; replace H4 := As (H4.1.o3 ho B11); replace H5 := As (H5.1.o3 ho B11); replace H9 := As (H9.1.o3 ho B11); replace H10 := As (H10.1.o3 ho B11); replace B5 := Oo B5 ho NE5_11; replace B9 := Oo B9 ho NE9_11; replace HB := Lo HB ho G11; replace B11 := hB2; clear ho hB2) | ((with_reducible refine gate_dst (N := 11) rfl ?_); refine box_event (by rfl) (N := 11) (by rfl) (cs := #[.bool false, .slice none 0 0, .slice none 0 0]) (t := 34) ?hr ?_; (case hr => first | (go_simp; done) | (go_simp; rfl)); intro g11 hgx w11 hbx hb; have B11 := As hbx; have NE5_11 := Nn B5 hgx; have NE9_11 := Nn B9 hgx; have G11 := Gg HB hgx; replace H4 := As (H4.1.be hb); replace H5 := As (H5.1.be hb); replace H9 := As (H9.1.be hb); replace H10 := As (H10.1.be hb); replace B5 := Bb B5 hb; replace B9 := Bb B9 hb; replace HB := Ob HB hb; clear hbx hb hgx) | (go_at_call 23; (with_reducible refine (ratio_Of.run (1) (2) _ (by decide) (by decide) (by decide) (by decide)).mono ?_); rintro e w8 ⟨s8, A8, k8, c8, D8, l8, d8, n8, m8, rfl, hq8, hr8, hm8, hz8, hb⟩; have H9 := Aside0.mk hq8; have H10 := Aside0.mk hr8; have F8 := Aside0.mk (And.intro hm8 hz8); clear hq8 hr8 hm8 hz8; replace H4 := As (H4.1.be hb); replace H5 := As (H5.1.be hb); replace B5 := Bb B5 hb; replace B9 := Bb B9 hb; replace HB := Ob HB hb; clear hb) | ((with_reducible refine gate_store (t := 34) (p := 9) rfl ?_); refine Sto (t := 34) (p := 9) (by rfl) (.tmp 21) (by rfl) (by rfl) g9 #[.bool s3, .slice A3 k3 c3, .slice D3 l3 d3] (by rfl) (by first | rfl | (go_simp; done) | (go_simp; rfl)) B9 (by kernel_rfl) rfl (by kernel_rfl) ?_; intro w7 ho hB2; replace H4 := As (H4.1.o3 ho B9); replace H5 := As (H5.1.o3 ho B9); replace B5 := Oo B5 ho NE5_9; replace HB := Lo HB ho G9; replace B9 := hB2; clear ho hB2) | ((with_reducible refine gate_dst (N := 9) rfl ?_); refine box_event (by rfl) (N := 9) (by rfl) (cs := #[.bool false, .slice none 0 0, .slice none 0 0]) (t := 34) ?hr ?_; (case hr => first | (go_simp; done) | (go_simp; rfl)); intro g9 hgx w6 hbx hb; have B9 := As hbx; have NE5_9 := Nn B5 hgx; have G9 := Gg HB hgx; replace H4 := As (H4.1.be hb); replace H5 := As (H5.1.be hb); replace B5 := Bb B5 hb; replace HB := Ob HB hb; clear hbx hb hgx) | (go_at_call 23; (with_reducible refine (ratio_Of.run (1) (1) _ (by decide) (by decide) (by decide) (by decide)).mono ?_); rintro e w3 ⟨s3, A3, k3, c3, D3, l3, d3, n3, m3, rfl, hq3, hr3, hm3, hz3, hb⟩; have H4 := Aside0.mk hq3; have H5 := Aside0.mk hr3; have F3 := Aside0.mk (And.intro hm3 hz3); clear hq3 hr3 hm3 hz3; replace B5 := Bb B5 hb; replace HB := Ob HB hb; clear hb) | (go_at_call 58; (with_reducible refine (estimate_check.run _ _ wss L _ (HW.out.below HB.out) HL.out.1 HL.out.2.1).mono ?_); rintro e w2 ⟨rfl, hb⟩; replace B5 := Bb B5 hb; replace HB := Ob HB hb; rw [HE.out]; clear hb) | ((with_reducible refine gate_dst (N := 5) rfl ?_); refine box_event (by rfl) (N := 5) (by rfl) (cs := #[.bool s, .slice D m1 m2, .slice E p1 p2]) (t := 34) ?hr ?_; (case hr => first | (go_simp; done) | (go_simp; rfl)); intro g5 hgx w1 hbx hb; have B5 := As hbx; have G5 := Gg HB hgx; replace HB := Ob HB hb; clear hbx hb hgx))
    go_ret2
    refine ⟨?_, HB.out⟩
    rw [show classV (wn wss) cut (pn s x y) (pd y) = (0, 3) by
     unfold classV
     rw [if_neg (fun h => h DX1.out), if_pos (Or.inr (Or.inl (by rw [wn_len]; exact DX2.out)))]
     ]
    rfl
   ·
    have k2 : decide ((wss.length : Int) ≤ cut) = false := decide_eq_false c2
    by_cases c3 : 2 * pn s x y ≤ pd y
    ·
     have DX2 := Aside0.mk c3
     clear c1 c2 c3
     go_enter Tryz.func37, Tryz.ntmps37
     go_wp2_with (first | (go_at_call 19; (with_reducible refine (ratio_Cmp.run s s8 _ _ _ _ _ _ _ _ _ _ _ _ x y n8 m8 L3 L4 4 4 _ (H93.1.be HB.1) (H94.1.be HB.1) H9.1.na H10.1.na (by have := HL.out; omega)).mono ?_); rintro e w13 ⟨rfl, hb⟩; replace H4 := As (H4.1.be hb); replace H5 := As (H5.1.be hb); replace H9 := As (H9.1.be hb); replace H10 := As (H10.1.be hb); replace B5 := Bb B5 hb; replace B9 := Bb B9 hb; replace B11 := Bb B11 hb; replace HB := Ob HB hb; have kc13 : decide ((cmpZ (pn s x y * pd m8) (pn s8 n8 m8 * pd y)) ≤ 0) = true := decide_eq_true (by have q := F8.out; rw [cmpZ_nonpos, pn_of q.1, pd_of q.1, half_cmp q.2 (by have := q.1; omega)]; exact DX2.out); clear hb) | ((with_reducible refine gate_store (t := 34) (p := 11) rfl ?_); refine Sto (t := 34) (p := 11) (by rfl) (.tmp 25) (by rfl) (by rfl) g11 #[.bool s8, .slice A8 k8 c8, .slice D8 l8 d8] (by rfl) (by first | rfl | (go_simp; done) | (go_simp; rfl)) B11 (by kernel_rfl) rfl (by kernel_rfl) ?_; intro w12 ho hB2; replace H4 := As (H4.1.o3 ho B11); replace H5 := As (H5.1.o3 ho B11); replace H9 := As (H9.1.o3 ho B11); replace H10 := As (H10.1.o3 ho B11); replace B5 := Oo B5 ho NE5_11; replace B9 := Oo B9 ho NE9_11; replace HB := Lo HB ho G11; replace B11 := hB2; clear ho hB2; (try clear cb5_0); have cb5_0 := Cl0 B5; (try clear cb5_1); have cb5_1 := Cl1 B5; (try clear cb5_2); have cb5_2 := Cl2 B5; (try clear cb11_0); have cb11_0 := Cl0 B11; (try clear cb11_1); have cb11_1 := Cl1 B11; (try clear cb11_2); have cb11_2 := Cl2 B11) | ((with_reducible refine gate_dst (N := 11) rfl ?_); refine box_event (by rfl) (N := 11) (by rfl) (cs := #[.bool false, .slice none 0 0, .slice none 0 0]) (t := 34) ?hr ?_; (case hr => first | (go_simp; done) | (go_simp; rfl)); intro g11 hgx w11 hbx hb; have B11 := As hbx; have NE5_11 := Nn B5 hgx; have NE9_11 := Nn B9 hgx; have G11 := Gg HB hgx; replace H4 := As (H4.1.be hb); replace H5 := As (H5.1.be hb); replace H9 := As (H9.1.be hb); replace H10 := As (H10.1.be hb); replace B5 := Bb B5 hb; replace B9 := Bb B9 hb; replace HB := Ob HB hb; clear hbx hb hgx) | (go_at_call 23; (with_reducible refine (ratio_Of.run (1) (2) _ (by decide) (by decide) (by decide) (by decide)).mono ?_); rintro e w8 ⟨s8, A8, k8, c8, D8, l8, d8, n8, m8, rfl, hq8, hr8, hm8, hz8, hb⟩; have H9 := Aside0.mk hq8; have H10 := Aside0.mk hr8; have F8 := Aside0.mk (And.intro hm8 hz8); clear hq8 hr8 hm8 hz8; replace H4 := As (H4.1.be hb); replace H5 := As (H5.1.be hb); replace B5 := Bb B5 hb; replace B9 := Bb B9 hb; replace HB := Ob HB hb; clear hb) | ((with_reducible refine gate_store (t := 34) (p := 9) rfl ?_); refine Sto (t := 34) (p := 9) (by rfl) (.tmp 21) (by rfl) (by rfl) g9 #[.bool s3, .slice A3 k3 c3, .slice D3 l3 d3] (by rfl) (by first | rfl | (go_simp; done) | (go_simp; rfl)) B9 (by kernel_rfl) rfl (by kernel_rfl) ?_; intro w7 ho hB2; replace H4 := As (H4.1.o3 ho B9); replace H5 := As (H5.1.o3 ho B9); replace B5 := Oo B5 ho NE5_9; replace HB := Lo HB ho G9; replace B9 := hB2; clear ho hB2) | ((with_reducible refine gate_dst (N := 9) rfl ?_); refine box_event (by rfl) (N := 9) (by rfl) (cs := #[.bool false, .slice none 0 0, .slice none 0 0]) (t := 34) ?hr ?_; (case hr => first | (go_simp; done) | (go_simp; rfl)); intro g9 hgx w6 hbx hb; have B9 := As hbx; have NE5_9 := Nn B5 hgx; have G9 := Gg HB hgx; replace H4 := As (H4.1.be hb); replace H5 := As (H5.1.be hb); replace B5 := Bb B5 hb; replace HB := Ob HB hb; clear hbx hb hgx) | (go_at_call 23; (with_reducible refine (ratio_Of.run (1) (1) _ (by decide) (by decide) (by decide) (by decide)).mono ?_); rintro e w3 ⟨s3, A3, k3, c3, D3, l3, d3, n3, m3, rfl, hq3, hr3, hm3, hz3, hb⟩; have H4 := Aside0.mk hq3; have H5 := Aside0.mk hr3; have F3 := Aside0.mk (And.intro hm3 hz3); clear hq3 hr3 hm3 hz3; replace B5 := Bb B5 hb; replace HB := Ob HB hb; clear hb) | (go_at_call 58; (with_reducible refine (estimate_check.run _ _ wss L _ (HW.out.below HB.out) HL.out.1 HL.out.2.1).mono ?_); rintro e w2 ⟨rfl, hb⟩; replace B5 := Bb B5 hb; replace HB := Ob HB hb; rw [HE.out]; clear hb) | ((with_reducible refine gate_dst (N := 5) rfl ?_); refine box_event (by rfl) (N := 5) (by rfl) (cs := #[.bool s, .slice D m1 m2, .slice E p1 p2]) (t := 34) ?hr ?_; (case hr => first | (go_simp; done) | (go_simp; rfl)); intro g5 hgx w1 hbx hb; have B5 := As hbx; have G5 := Gg HB hgx; replace HB := Ob HB hb; clear hbx hb hgx))
     go_ret2
     refine ⟨?_, HB.out⟩
     rw [show classV (wn wss) cut (pn s x y) (pd y) = (0, 3) by
      unfold classV
      rw [if_neg (fun h => h DX1.out), if_pos (Or.inr (Or.inr (Or.inl DX2.out)))]
      ]
     rfl
    ·
     have c3b := Int.not_le.1 c3
     by_cases c4 : (pd y : Int) < pn s x y
     ·
      have DX2 := Aside0.mk c4
      have DX3 := Aside0.mk c3b
      clear c1 c2 c3 c3b c4
      go_enter Tryz.func37, Tryz.ntmps37
      go_wp2_with (first | (go_at_call 19; (with_reducible refine (ratio_Cmp.run s s3 _ _ _ _ _ _ _ _ _ _ _ _ x y n3 m3 L3 L4 4 4 _ (H93.1.be HB.1) (H94.1.be HB.1) H4.1.na H5.1.na (by have := HL.out; omega)).mono ?_); rintro e w14 ⟨rfl, hb⟩; replace H4 := As (H4.1.be hb); replace H5 := As (H5.1.be hb); replace H9 := As (H9.1.be hb); replace H10 := As (H10.1.be hb); replace B5 := Bb B5 hb; replace B9 := Bb B9 hb; replace B11 := Bb B11 hb; replace HB := Ob HB hb; have kc14 : decide (0 < (cmpZ (pn s x y * pd m3) (pn s3 n3 m3 * pd y))) = true := decide_eq_true (by have q := F3.out; rw [cmpZ_pos, pn_of q.1, pd_of q.1, one_cmp q.2 (by have := q.1; omega)]; exact DX2.out); clear hb) | (go_at_call 19; (with_reducible refine (ratio_Cmp.run s s8 _ _ _ _ _ _ _ _ _ _ _ _ x y n8 m8 L3 L4 4 4 _ (H93.1.be HB.1) (H94.1.be HB.1) H9.1.na H10.1.na (by have := HL.out; omega)).mono ?_); rintro e w13 ⟨rfl, hb⟩; replace H4 := As (H4.1.be hb); replace H5 := As (H5.1.be hb); replace H9 := As (H9.1.be hb); replace H10 := As (H10.1.be hb); replace B5 := Bb B5 hb; replace B9 := Bb B9 hb; replace B11 := Bb B11 hb; replace HB := Ob HB hb; have kc13 : decide ((cmpZ (pn s x y * pd m8) (pn s8 n8 m8 * pd y)) ≤ 0) = false := decide_eq_false (by have q := F8.out; rw [cmpZ_nonpos, pn_of q.1, pd_of q.1, half_cmp q.2 (by have := q.1; omega)]; exact Int.not_le.2 DX3.out); clear hb; (try clear cb5_0); have cb5_0 := Cl0 B5; (try clear cb5_1); have cb5_1 := Cl1 B5; (try clear cb5_2); have cb5_2 := Cl2 B5; (try clear cb9_0); have cb9_0 := Cl0 B9; (try clear cb9_1); have cb9_1 := Cl1 B9; (try clear cb9_2); have cb9_2 := Cl2 B9) | ((with_reducible refine gate_store (t := 34) (p := 11) rfl ?_); refine Sto (t := 34) (p := 11) (by rfl) (.tmp 25) (by rfl) (by rfl) g11 #[.bool s8, .slice A8 k8 c8, .slice D8 l8 d8] (by rfl) (by first | rfl | (go_simp; done) | (go_simp; rfl)) B11 (by kernel_rfl) rfl (by kernel_rfl) ?_; intro w12 ho hB2; replace H4 := As (H4.1.o3 ho B11); replace H5 := As (H5.1.o3 ho B11); replace H9 := As (H9.1.o3 ho B11); replace H10 := As (H10.1.o3 ho B11); replace B5 := Oo B5 ho NE5_11; replace B9 := Oo B9 ho NE9_11; replace HB := Lo HB ho G11; replace B11 := hB2; clear ho hB2; (try clear cb5_0); have cb5_0 := Cl0 B5; (try clear cb5_1); have cb5_1 := Cl1 B5; (try clear cb5_2); have cb5_2 := Cl2 B5; (try clear cb11_0); have cb11_0 := Cl0 B11; (try clear cb11_1); have cb11_1 := Cl1 B11; (try clear cb11_2); have cb11_2 := Cl2 B11) | ((with_reducible refine gate_dst (N := 11) rfl ?_); refine box_event (by rfl) (N := 11) (by rfl) (cs := #[.bool false, .slice none 0 0, .slice none 0 0]) (t := 34) ?hr ?_; (case hr => first | (go_simp; done) | (go_simp; rfl)); intro g11 hgx w11 hbx hb; have B11 := As hbx; have NE5_11 := Nn B5 hgx; have NE9_11 := Nn B9 hgx; have G11 := Gg HB hgx; replace H4 := As (H4.1.be hb); replace H5 := As (H5.1.be hb); replace H9 := As (H9.1.be hb); replace H10 := As (H10.1.be hb); replace B5 := Bb B5 hb; replace B9 := Bb B9 hb; replace HB := Ob HB hb; clear hbx hb hgx) | (go_at_call 23; (with_reducible refine (ratio_Of.run (1) (2) _ (by decide) (by decide) (by decide) (by decide)).mono ?_); rintro e w8 ⟨s8, A8, k8, c8, D8, l8, d8, n8, m8, rfl, hq8, hr8, hm8, hz8, hb⟩; have H9 := Aside0.mk hq8; have H10 := Aside0.mk hr8; have F8 := Aside0.mk (And.intro hm8 hz8); clear hq8 hr8 hm8 hz8; replace H4 := As (H4.1.be hb); replace H5 := As (H5.1.be hb); replace B5 := Bb B5 hb; replace B9 := Bb B9 hb; replace HB := Ob HB hb; clear hb) | ((with_reducible refine gate_store (t := 34) (p := 9) rfl ?_); refine Sto (t := 34) (p := 9) (by rfl) (.tmp 21) (by rfl) (by rfl) g9 #[.bool s3, .slice A3 k3 c3, .slice D3 l3 d3] (by rfl) (by first | rfl | (go_simp; done) | (go_simp; rfl)) B9 (by kernel_rfl) rfl (by kernel_rfl) ?_; intro w7 ho hB2; replace H4 := As (H4.1.o3 ho B9); replace H5 := As (H5.1.o3 ho B9); replace B5 := Oo B5 ho NE5_9; replace HB := Lo HB ho G9; replace B9 := hB2; clear ho hB2) | ((with_reducible refine gate_dst (N := 9) rfl ?_); refine box_event (by rfl) (N := 9) (by rfl) (cs := #[.bool false, .slice none 0 0, .slice none 0 0]) (t := 34) ?hr ?_; (case hr => first | (go_simp; done) | (go_simp; rfl)); intro g9 hgx w6 hbx hb; have B9 := As hbx; have NE5_9 := Nn B5 hgx; have G9 := Gg HB hgx; replace H4 := As (H4.1.be hb); replace H5 := As (H5.1.be hb); replace B5 := Bb B5 hb; replace HB := Ob HB hb; clear hbx hb hgx) | (go_at_call 23; (with_reducible refine (ratio_Of.run (1) (1) _ (by decide) (by decide) (by decide) (by decide)).mono ?_); rintro e w3 ⟨s3, A3, k3, c3, D3, l3, d3, n3, m3, rfl, hq3, hr3, hm3, hz3, hb⟩; have H4 := Aside0.mk hq3; have H5 := Aside0.mk hr3; have F3 := Aside0.mk (And.intro hm3 hz3); clear hq3 hr3 hm3 hz3; replace B5 := Bb B5 hb; replace HB := Ob HB hb; clear hb) | (go_at_call 58; (with_reducible refine (estimate_check.run _ _ wss L _ (HW.out.below HB.out) HL.out.1 HL.out.2.1).mono ?_); rintro e w2 ⟨rfl, hb⟩; replace B5 := Bb B5 hb; replace HB := Ob HB hb; rw [HE.out]; clear hb) | ((with_reducible refine gate_dst (N := 5) rfl ?_); refine box_event (by rfl) (N := 5) (by rfl) (cs := #[.bool s, .slice D m1 m2, .slice E p1 p2]) (t := 34) ?hr ?_; (case hr => first | (go_simp; done) | (go_simp; rfl)); intro g5 hgx w1 hbx hb; have B5 := As hbx; have G5 := Gg HB hgx; replace HB := Ob HB hb; clear hbx hb hgx))
      go_ret2
      refine ⟨?_, HB.out⟩
      rw [show classV (wn wss) cut (pn s x y) (pd y) = (0, 3) by
       unfold classV
       rw [if_neg (fun h => h DX1.out), if_pos (Or.inr (Or.inr (Or.inr DX2.out)))]
       ]
      rfl
     ·
      obtain ⟨q, rfl⟩ : ∃ q : Nat, cut = (q : Int) := ⟨cut.toNat, by omega⟩
      have DQ := Aside0.mk (show 1 ≤ q ∧ q < wss.length from ⟨by omega, by omega⟩)
      have DX2 := Aside0.mk (Int.not_lt.1 c4)
      have DX3 := Aside0.mk c3b
      have k1n : decide (q < 1) = false := decide_eq_false (by omega)
      have k1m : (q = 0) = False := eq_false (by omega)
      have k2n : decide (wss.length ≤ q) = false := decide_eq_false (by omega)
      have t1 : (q ≤ wss.length) = True := eq_true (by omega)
      have t2 : ((q : Int) ≤ (wss.length : Int)) = True := eq_true (by omega)
      have t3 : (q ≤ cap) = True := eq_true (by have := HC.out; omega)
      have t4 : ((q : Int) ≤ (cap : Int)) = True := eq_true (by have := HC.out; omega)
      obtain ⟨ad, _, _, _, ea, _, _⟩ := HW.out.at 0 (Int.le_refl 0) (by omega)
      subst ea
      have SA := Aside0.mk (show ∀ W, Below w.heap.size w W → Calls Tryz.prog 59 #[.slice (some ad) wss.length cap] W fun e w' => ∃ B k c, e = .returned (.slice B k c) ∧ NA w' (.slice B k c) (wn wss).sum (L + 2 + wss.length) ∧ Below W.heap.size W w' from fun W hb => estimate_sum.run (some ad) cap wss L W (HW.out.below hb) HL.out.1 (by have := HL.out; omega))
      have SD := Aside0.mk (show ∀ W, Below w.heap.size w W → Calls Tryz.prog 59 #[.slice (if cap = q then some ad else some (ad.add q)) (wss.length - q) (cap - q)] W fun e w' => ∃ B k c, e = .returned (.slice B k c) ∧ NA w' (.slice B k c) ((wn wss).drop q).sum (L + 2 + wss.length) ∧ Below W.heap.size W w' by
       intro W hb
       have T := estimate_sum.run (if cap = q then some ad else some (ad.add q)) (cap - q) (wss.drop q) L W ((HW.out.below hb).drop (by have := DQ.out; omega) HC.out) (by rw [List.length_drop]; have := HL.out; omega) (by have := HL.out; omega)
       rw [List.length_drop] at T
       refine T.mono ?_
       rintro e w1 ⟨B, k, c, h1, h2, h3⟩
       refine ⟨B, k, c, h1, ?_, h3⟩
       rw [show (wn wss).drop q = wn (wss.drop q) from (List.map_drop).symm]
       exact h2.mono (by omega))
      have ST := Aside0.mk (show ∀ W, Below w.heap.size w W → Calls Tryz.prog 59 #[.slice (some ad) q cap] W fun e w' => ∃ B k c, e = .returned (.slice B k c) ∧ NA w' (.slice B k c) ((wn wss).take q).sum (L + 2 + wss.length) ∧ Below W.heap.size W w' by
       intro W hb
       have T := estimate_sum.run (some ad) cap (wss.take q) L W ((HW.out.below hb).take (by have := DQ.out; omega)) (by rw [List.length_take]; have := HL.out; omega) (by have := HL.out; omega)
       have el : (wss.take q).length = q := by rw [List.length_take]; have := DQ.out; omega
       rw [el] at T
       refine T.mono ?_
       rintro e w1 ⟨B, k, c, h1, h2, h3⟩
       refine ⟨B, k, c, h1, ?_, h3⟩
       rw [show (wn wss).take q = wn (wss.take q) from (List.map_take).symm]
       exact h2.mono (by have := DQ.out; omega))
      have HL3 := Aside0.mk (show wss.length ≤ 21 by have h := (estV_ok DX1.out).1; rw [wn_len] at h; exact h)
      clear c1 c2 c3 c3b c4
      cases r1 : reach ((wn wss).drop q).sum (wn wss).sum (pn s x y) (pd y)
      ·
       cases r2 : reach ((wn wss).take q).sum (wn wss).sum (pn s x y) (pd y)
       ·
        have R1 := Aside0.mk r1
        have R2 := Aside0.mk r2
        go_enter Tryz.func37, Tryz.ntmps37
        go_wp2_with (first | (go_at_call 59; (with_reducible refine (SA.out _ HB.out).mono ?_); rintro e w15 ⟨A15, k15, c15, rfl, hr15, hb⟩; have H16 := Aside0.mk hr15; clear hr15; replace H4 := As (H4.1.be hb); replace H5 := As (H5.1.be hb); replace H9 := As (H9.1.be hb); replace H10 := As (H10.1.be hb); replace B5 := Bb B5 hb; replace B9 := Bb B9 hb; replace B11 := Bb B11 hb; replace HB := Ob HB hb; clear hb) | (go_at_call 19; (with_reducible refine (ratio_Cmp.run s s3 _ _ _ _ _ _ _ _ _ _ _ _ x y n3 m3 L3 L4 4 4 _ (H93.1.be HB.1) (H94.1.be HB.1) H4.1.na H5.1.na (by have := HL.out; have := HL3.out; omega)).mono ?_); rintro e w14 ⟨rfl, hb⟩; replace H4 := As (H4.1.be hb); replace H5 := As (H5.1.be hb); replace H9 := As (H9.1.be hb); replace H10 := As (H10.1.be hb); replace B5 := Bb B5 hb; replace B9 := Bb B9 hb; replace B11 := Bb B11 hb; replace HB := Ob HB hb; have kc14 : decide (0 < (cmpZ (pn s x y * pd m3) (pn s3 n3 m3 * pd y))) = false := decide_eq_false (by have q := F3.out; rw [cmpZ_pos, pn_of q.1, pd_of q.1, one_cmp q.2 (by have := q.1; omega)]; exact Int.not_lt.2 DX2.out); clear hb) | (go_at_call 19; (with_reducible refine (ratio_Cmp.run s s8 _ _ _ _ _ _ _ _ _ _ _ _ x y n8 m8 L3 L4 4 4 _ (H93.1.be HB.1) (H94.1.be HB.1) H9.1.na H10.1.na (by have := HL.out; have := HL3.out; omega)).mono ?_); rintro e w13 ⟨rfl, hb⟩; replace H4 := As (H4.1.be hb); replace H5 := As (H5.1.be hb); replace H9 := As (H9.1.be hb); replace H10 := As (H10.1.be hb); replace B5 := Bb B5 hb; replace B9 := Bb B9 hb; replace B11 := Bb B11 hb; replace HB := Ob HB hb; have kc13 : decide ((cmpZ (pn s x y * pd m8) (pn s8 n8 m8 * pd y)) ≤ 0) = false := decide_eq_false (by have q := F8.out; rw [cmpZ_nonpos, pn_of q.1, pd_of q.1, half_cmp q.2 (by have := q.1; omega)]; exact Int.not_le.2 DX3.out); clear hb; (try clear cb5_0); have cb5_0 := Cl0 B5; (try clear cb5_1); have cb5_1 := Cl1 B5; (try clear cb5_2); have cb5_2 := Cl2 B5; (try clear cb9_0); have cb9_0 := Cl0 B9; (try clear cb9_1); have cb9_1 := Cl1 B9; (try clear cb9_2); have cb9_2 := Cl2 B9) | ((with_reducible refine gate_store (t := 34) (p := 11) rfl ?_); refine Sto (t := 34) (p := 11) (by rfl) (.tmp 25) (by rfl) (by rfl) g11 #[.bool s8, .slice A8 k8 c8, .slice D8 l8 d8] (by rfl) (by first | rfl | (go_simp; done) | (go_simp; rfl)) B11 (by kernel_rfl) rfl (by kernel_rfl) ?_; intro w12 ho hB2; replace H4 := As (H4.1.o3 ho B11); replace H5 := As (H5.1.o3 ho B11); replace H9 := As (H9.1.o3 ho B11); replace H10 := As (H10.1.o3 ho B11); replace B5 := Oo B5 ho NE5_11; replace B9 := Oo B9 ho NE9_11; replace HB := Lo HB ho G11; replace B11 := hB2; clear ho hB2; (try clear cb5_0); have cb5_0 := Cl0 B5; (try clear cb5_1); have cb5_1 := Cl1 B5; (try clear cb5_2); have cb5_2 := Cl2 B5; (try clear cb11_0); have cb11_0 := Cl0 B11; (try clear cb11_1); have cb11_1 := Cl1 B11; (try clear cb11_2); have cb11_2 := Cl2 B11) | ((with_reducible refine gate_dst (N := 11) rfl ?_); refine box_event (by rfl) (N := 11) (by rfl) (cs := #[.bool false, .slice none 0 0, .slice none 0 0]) (t := 34) ?hr ?_; (case hr => first | (go_simp; done) | (go_simp; rfl)); intro g11 hgx w11 hbx hb; have B11 := As hbx; have NE5_11 := Nn B5 hgx; have NE9_11 := Nn B9 hgx; have G11 := Gg HB hgx; replace H4 := As (H4.1.be hb); replace H5 := As (H5.1.be hb); replace H9 := As (H9.1.be hb); replace H10 := As (H10.1.be hb); replace B5 := Bb B5 hb; replace B9 := Bb B9 hb; replace HB := Ob HB hb; clear hbx hb hgx) | (go_at_call 23; (with_reducible refine (ratio_Of.run (1) (2) _ (by decide) (by decide) (by decide) (by decide)).mono ?_); rintro e w8 ⟨s8, A8, k8, c8, D8, l8, d8, n8, m8, rfl, hq8, hr8, hm8, hz8, hb⟩; have H9 := Aside0.mk hq8; have H10 := Aside0.mk hr8; have F8 := Aside0.mk (And.intro hm8 hz8); clear hq8 hr8 hm8 hz8; replace H4 := As (H4.1.be hb); replace H5 := As (H5.1.be hb); replace B5 := Bb B5 hb; replace B9 := Bb B9 hb; replace HB := Ob HB hb; clear hb) | ((with_reducible refine gate_store (t := 34) (p := 9) rfl ?_); refine Sto (t := 34) (p := 9) (by rfl) (.tmp 21) (by rfl) (by rfl) g9 #[.bool s3, .slice A3 k3 c3, .slice D3 l3 d3] (by rfl) (by first | rfl | (go_simp; done) | (go_simp; rfl)) B9 (by kernel_rfl) rfl (by kernel_rfl) ?_; intro w7 ho hB2; replace H4 := As (H4.1.o3 ho B9); replace H5 := As (H5.1.o3 ho B9); replace B5 := Oo B5 ho NE5_9; replace HB := Lo HB ho G9; replace B9 := hB2; clear ho hB2) | ((with_reducible refine gate_dst (N := 9) rfl ?_); refine box_event (by rfl) (N := 9) (by rfl) (cs := #[.bool false, .slice none 0 0, .slice none 0 0]) (t := 34) ?hr ?_; (case hr => first | (go_simp; done) | (go_simp; rfl)); intro g9 hgx w6 hbx hb; have B9 := As hbx; have NE5_9 := Nn B5 hgx; have G9 := Gg HB hgx; replace H4 := As (H4.1.be hb); replace H5 := As (H5.1.be hb); replace B5 := Bb B5 hb; replace HB := Ob HB hb; clear hbx hb hgx) | (go_at_call 23; (with_reducible refine (ratio_Of.run (1) (1) _ (by decide) (by decide) (by decide) (by decide)).mono ?_); rintro e w3 ⟨s3, A3, k3, c3, D3, l3, d3, n3, m3, rfl, hq3, hr3, hm3, hz3, hb⟩; have H4 := Aside0.mk hq3; have H5 := Aside0.mk hr3; have F3 := Aside0.mk (And.intro hm3 hz3); clear hq3 hr3 hm3 hz3; replace B5 := Bb B5 hb; replace HB := Ob HB hb; clear hb) | (go_at_call 58; (with_reducible refine (estimate_check.run _ _ wss L _ (HW.out.below HB.out) HL.out.1 HL.out.2.1).mono ?_); rintro e w2 ⟨rfl, hb⟩; replace B5 := Bb B5 hb; replace HB := Ob HB hb; rw [HE.out]; clear hb) | ((with_reducible refine gate_dst (N := 5) rfl ?_); refine box_event (by rfl) (N := 5) (by rfl) (cs := #[.bool s, .slice D m1 m2, .slice E p1 p2]) (t := 34) ?hr ?_; (case hr => first | (go_simp; done) | (go_simp; rfl)); intro g5 hgx w1 hbx hb; have B5 := As hbx; have G5 := Gg HB hgx; replace HB := Ob HB hb; clear hbx hb hgx))
        replace H4 := As (H4.1.drew)
        replace H5 := As (H5.1.drew)
        replace H9 := As (H9.1.drew)
        replace H10 := As (H10.1.drew)
        replace H16 := As (H16.1.drew)
        replace B5 := Bd B5
        replace B9 := Bd B9
        replace B11 := Bd B11
        replace HB := Od HB
        refine start_ (n := 8) (S := fun w' => w'.cell? ⟨g5, 0, none⟩ = some (.bool s) ∧ w'.cell? ⟨g5, 1, none⟩ = some (.slice D m1 m2) ∧ w'.cell? ⟨g5, 2, none⟩ = some (.slice E p1 p2)) (ds := []) (Bt 8 0) (by kernel_rfl) rfl (by kernel_rfl) ⟨Cl0 B5, Cl1 B5, Cl2 B5⟩ (fun hHeld => ?_)
        generalize w15.drew = w17 at hHeld H4 H5 H9 H10 H16 B5 B9 B11 HB ⊢
        refine pure_ (i := 0) (N := some 50) (v := ?_) (a' := ?_) (Bt 8 1) rfl rfl (by kernel_rfl) (fun _ _ _ h => h) (Or.inl ⟨by rfl, ?_⟩) ?_ ?_
        rotate_left
        ·
         intro w'
         go_simp
         with_reducible rfl
        rotate_left
        ·
         simp only [Nrm, Option.some.injEq, List.setIfInBounds_toArray, List.set_cons_zero, List.set_cons_succ, i64_w, i32_w]
         rfl
        refine pure_ (i := 1) (N := some 51) (v := ?_) (a' := ?_) (Bt 8 3) rfl rfl (by kernel_rfl) (fun _ _ _ h => h) (Or.inl ⟨by rfl, ?_⟩) ?_ ?_
        rotate_left
        ·
         intro w'
         go_simp
         with_reducible rfl
        rotate_left
        ·
         simp only [Nrm, Option.some.injEq, List.setIfInBounds_toArray, List.set_cons_zero, List.set_cons_succ, i64_w, i32_w]
         rfl
        refine pure_ (i := 2) (N := some 52) (v := ?_) (a' := ?_) (Bt 8 7) rfl rfl (by kernel_rfl) (fun _ _ _ h => h) (Or.inl ⟨by rfl, ?_⟩) ?_ ?_
        rotate_left
        ·
         intro w'
         go_simp
         with_reducible rfl
        rotate_left
        ·
         simp only [Nrm, Option.some.injEq, List.setIfInBounds_toArray, List.set_cons_zero, List.set_cons_succ, i64_w, i32_w]
         rfl
        refine pure_ (i := 4) (N := some 54) (v := ?_) (a' := ?_) (Bt 8 23) rfl rfl (by kernel_rfl) (fun _ _ _ h => h) (Or.inl ⟨by rfl, ?_⟩) ?_ ?_
        rotate_left
        ·
         intro w'
         go_simp
         with_reducible rfl
        rotate_left
        ·
         simp only [Nrm, Option.some.injEq, List.setIfInBounds_toArray, List.set_cons_zero, List.set_cons_succ, i64_w, i32_w]
         rfl
        refine take_ (i := 5) (N := some 55) (v := ?_) (a' := ?_) (Bt 8 55) rfl rfl (by kernel_rfl) (fun _ _ _ h => h) (Or.inl ⟨by rfl, ?_⟩) hHeld ?_ ?_
        rotate_left
        ·
         rintro w' ⟨s0, s1, s2⟩
         go_simp
         with_reducible rfl
        rotate_left
        ·
         simp only [Nrm, Option.some.injEq, List.setIfInBounds_toArray, List.set_cons_zero, List.set_cons_succ, i64_w, i32_w]
         rfl
        refine one_ (i := 3) (N := some 53) (Bt 8 63) rfl rfl (by kernel_rfl) (by decide) (fun K hK => ?_)
        refine goes_ Tryz.func59 (by kernel_rfl) rfl #[.slice (if cap = q then some ad else some (ad.add q)) (wss.length - q) (cap - q)] (by rfl) rfl rfl (by (try simp only [List.map_toArray, List.map_cons, List.map_nil]); first | done | rfl) ?_
        with_reducible refine (SD.out _ HB.out).mono ?_
        rintro e w33 ⟨A33, k33, c33, rfl, hr33, hb⟩
        refine ⟨_, rfl, ?_⟩
        have H34 := Aside0.mk hr33
        clear hr33
        replace H4 := As (H4.1.be hb)
        replace H5 := As (H5.1.be hb)
        replace H9 := As (H9.1.be hb)
        replace H10 := As (H10.1.be hb)
        replace H16 := As (H16.1.be hb)
        replace B5 := Bb B5 hb
        replace B9 := Bb B9 hb
        replace B11 := Bb B11 hb
        replace HB := Ob HB hb
        clear hb
        refine hK.out _ _ ⟨Cl0 B5, Cl1 B5, Cl2 B5⟩ (fun hHeld => ?_)
        clear hK K
        refine norm_ (a' := ?_) ?_ ?_
        rotate_left
        ·
         show Act.put _ (some 53) _ = _
         simp only [Nrm, Option.some.injEq, List.setIfInBounds_toArray, List.set_cons_zero, List.set_cons_succ, i64_w, i32_w]
         rfl
        refine one_ (i := 6) (N := some 56) (Bt 8 127) rfl rfl (by kernel_rfl) (by decide) (fun K hK => ?_)
        refine goes_ Tryz.func60 (by kernel_rfl) rfl #[.slice A33 k33 c33, .slice A15 k15 c15, .agg #[.bool s, .slice D m1 m2, .slice E p1 p2]] (by rfl) rfl rfl (by (try simp only [List.map_toArray, List.map_cons, List.map_nil]); first | done | rfl) ?_
        with_reducible refine (estimate_reaches.run _ _ _ _ s _ _ _ _ _ _ _ _ ((wn wss).drop q).sum (wn wss).sum x y (L + 2 + wss.length) (L + 2 + wss.length) L3 L4 _ H34.1.na H16.1.na (H93.1.be HB.1) (H94.1.be HB.1) SP.out (by have := HL.out; have := HL3.out; omega)).mono ?_
        rintro e w48 ⟨rfl, hb⟩
        refine ⟨_, rfl, ?_⟩
        replace H4 := As (H4.1.be hb)
        replace H5 := As (H5.1.be hb)
        replace H9 := As (H9.1.be hb)
        replace H10 := As (H10.1.be hb)
        replace H16 := As (H16.1.be hb)
        replace H34 := As (H34.1.be hb)
        replace B5 := Bb B5 hb
        replace B9 := Bb B9 hb
        replace B11 := Bb B11 hb
        replace HB := Ob HB hb
        clear hb
        refine hK.out _ _ ⟨Cl0 B5, Cl1 B5, Cl2 B5⟩ (fun hHeld => ?_)
        clear hK K
        refine norm_ (a' := ?_) ?_ ?_
        rotate_left
        ·
         show Act.put _ (some 56) _ = _
         simp only [Nrm, Option.some.injEq, List.setIfInBounds_toArray, List.set_cons_zero, List.set_cons_succ, i64_w, i32_w]
         rfl
        refine pure_ (i := 7) (N := some 49) (v := ?_) (a' := ?_) (Bt 8 255) rfl rfl (by kernel_rfl) (fun _ _ _ h => h) (Or.inl ⟨by rfl, ?_⟩) ?_ ?_
        rotate_left
        ·
         intro w'
         go_simp
         with_reducible rfl
        rotate_left
        ·
         simp only [Nrm, Option.some.injEq, List.setIfInBounds_toArray, List.set_cons_zero, List.set_cons_succ, i64_w, i32_w]
         rfl
        refine done_ (by kernel_rfl) ?_
        generalize (if cap = q then some ad else some (ad.add q)) = Zq
        go_wp2
        replace H4 := As (H4.1.drew)
        replace H5 := As (H5.1.drew)
        replace H9 := As (H9.1.drew)
        replace H10 := As (H10.1.drew)
        replace H16 := As (H16.1.drew)
        replace H34 := As (H34.1.drew)
        replace B5 := Bd B5
        replace B9 := Bd B9
        replace B11 := Bd B11
        replace HB := Od HB
        refine start_ (n := 8) (S := fun w' => w'.cell? ⟨g5, 0, none⟩ = some (.bool s) ∧ w'.cell? ⟨g5, 1, none⟩ = some (.slice D m1 m2) ∧ w'.cell? ⟨g5, 2, none⟩ = some (.slice E p1 p2)) (ds := []) (Bt 8 0) (by kernel_rfl) rfl (by kernel_rfl) ⟨Cl0 B5, Cl1 B5, Cl2 B5⟩ (fun hHeld => ?_)
        generalize w48.drew = w58 at hHeld H4 H5 H9 H10 H16 H34 B5 B9 B11 HB ⊢
        refine pure_ (i := 0) (N := some 58) (v := ?_) (a' := ?_) (Bt 8 1) rfl rfl (by kernel_rfl) (fun _ _ _ h => h) (Or.inl ⟨by rfl, ?_⟩) ?_ ?_
        rotate_left
        ·
         intro w'
         go_simp
         with_reducible rfl
        rotate_left
        ·
         simp only [Nrm, Option.some.injEq, List.setIfInBounds_toArray, List.set_cons_zero, List.set_cons_succ, i64_w, i32_w]
         rfl
        refine pure_ (i := 1) (N := some 59) (v := ?_) (a' := ?_) (Bt 8 3) rfl rfl (by kernel_rfl) (fun _ _ _ h => h) (Or.inl ⟨by rfl, ?_⟩) ?_ ?_
        rotate_left
        ·
         intro w'
         go_simp
         with_reducible rfl
        rotate_left
        ·
         simp only [Nrm, Option.some.injEq, List.setIfInBounds_toArray, List.set_cons_zero, List.set_cons_succ, i64_w, i32_w]
         rfl
        refine pure_ (i := 2) (N := some 60) (v := ?_) (a' := ?_) (Bt 8 7) rfl rfl (by kernel_rfl) (fun _ _ _ h => h) (Or.inl ⟨by rfl, ?_⟩) ?_ ?_
        rotate_left
        ·
         intro w'
         go_simp
         with_reducible rfl
        rotate_left
        ·
         simp only [Nrm, Option.some.injEq, List.setIfInBounds_toArray, List.set_cons_zero, List.set_cons_succ, i64_w, i32_w]
         rfl
        refine pure_ (i := 4) (N := some 62) (v := ?_) (a' := ?_) (Bt 8 23) rfl rfl (by kernel_rfl) (fun _ _ _ h => h) (Or.inl ⟨by rfl, ?_⟩) ?_ ?_
        rotate_left
        ·
         intro w'
         go_simp
         with_reducible rfl
        rotate_left
        ·
         simp only [Nrm, Option.some.injEq, List.setIfInBounds_toArray, List.set_cons_zero, List.set_cons_succ, i64_w, i32_w]
         rfl
        refine take_ (i := 5) (N := some 63) (v := ?_) (a' := ?_) (Bt 8 55) rfl rfl (by kernel_rfl) (fun _ _ _ h => h) (Or.inl ⟨by rfl, ?_⟩) hHeld ?_ ?_
        rotate_left
        ·
         rintro w' ⟨s0, s1, s2⟩
         go_simp
         with_reducible rfl
        rotate_left
        ·
         simp only [Nrm, Option.some.injEq, List.setIfInBounds_toArray, List.set_cons_zero, List.set_cons_succ, i64_w, i32_w]
         rfl
        refine one_ (i := 3) (N := some 61) (Bt 8 63) rfl rfl (by kernel_rfl) (by decide) (fun K hK => ?_)
        refine goes_ Tryz.func59 (by kernel_rfl) rfl #[.slice (some ad) q cap] (by rfl) rfl rfl (by (try simp only [List.map_toArray, List.map_cons, List.map_nil]); first | done | rfl) ?_
        with_reducible refine (ST.out _ HB.out).mono ?_
        rintro e w116 ⟨A116, k116, c116, rfl, hr116, hb⟩
        refine ⟨_, rfl, ?_⟩
        have H117 := Aside0.mk hr116
        clear hr116
        replace H4 := As (H4.1.be hb)
        replace H5 := As (H5.1.be hb)
        replace H9 := As (H9.1.be hb)
        replace H10 := As (H10.1.be hb)
        replace H16 := As (H16.1.be hb)
        replace H34 := As (H34.1.be hb)
        replace B5 := Bb B5 hb
        replace B9 := Bb B9 hb
        replace B11 := Bb B11 hb
        replace HB := Ob HB hb
        clear hb
        refine hK.out _ _ ⟨Cl0 B5, Cl1 B5, Cl2 B5⟩ (fun hHeld => ?_)
        clear hK K
        refine norm_ (a' := ?_) ?_ ?_
        rotate_left
        ·
         show Act.put _ (some 61) _ = _
         simp only [Nrm, Option.some.injEq, List.setIfInBounds_toArray, List.set_cons_zero, List.set_cons_succ, i64_w, i32_w]
         rfl
        refine one_ (i := 6) (N := some 64) (Bt 8 127) rfl rfl (by kernel_rfl) (by decide) (fun K hK => ?_)
        refine goes_ Tryz.func60 (by kernel_rfl) rfl #[.slice A116 k116 c116, .slice A15 k15 c15, .agg #[.bool s, .slice D m1 m2, .slice E p1 p2]] (by rfl) rfl rfl (by (try simp only [List.map_toArray, List.map_cons, List.map_nil]); first | done | rfl) ?_
        with_reducible refine (estimate_reaches.run _ _ _ _ s _ _ _ _ _ _ _ _ ((wn wss).take q).sum (wn wss).sum x y (L + 2 + wss.length) (L + 2 + wss.length) L3 L4 _ H117.1.na H16.1.na (H93.1.be HB.1) (H94.1.be HB.1) SP.out (by have := HL.out; have := HL3.out; omega)).mono ?_
        rintro e w131 ⟨rfl, hb⟩
        refine ⟨_, rfl, ?_⟩
        replace H4 := As (H4.1.be hb)
        replace H5 := As (H5.1.be hb)
        replace H9 := As (H9.1.be hb)
        replace H10 := As (H10.1.be hb)
        replace H16 := As (H16.1.be hb)
        replace H34 := As (H34.1.be hb)
        replace H117 := As (H117.1.be hb)
        replace B5 := Bb B5 hb
        replace B9 := Bb B9 hb
        replace B11 := Bb B11 hb
        replace HB := Ob HB hb
        clear hb
        refine hK.out _ _ ⟨Cl0 B5, Cl1 B5, Cl2 B5⟩ (fun hHeld => ?_)
        clear hK K
        refine norm_ (a' := ?_) ?_ ?_
        rotate_left
        ·
         show Act.put _ (some 64) _ = _
         simp only [Nrm, Option.some.injEq, List.setIfInBounds_toArray, List.set_cons_zero, List.set_cons_succ, i64_w, i32_w]
         rfl
        refine pure_ (i := 7) (N := some 57) (v := ?_) (a' := ?_) (Bt 8 255) rfl rfl (by kernel_rfl) (fun _ _ _ h => h) (Or.inl ⟨by rfl, ?_⟩) ?_ ?_
        rotate_left
        ·
         intro w'
         go_simp
         with_reducible rfl
        rotate_left
        ·
         simp only [Nrm, Option.some.injEq, List.setIfInBounds_toArray, List.set_cons_zero, List.set_cons_succ, i64_w, i32_w]
         rfl
        refine done_ (by kernel_rfl) ?_
        go_wp2
        go_ret2
        refine ⟨?_, HB.out⟩
        rw [show classV (wn wss) (q : Int) (pn s x y) (pd y) = (-1, 0) by
         unfold classV
         rw [if_neg (fun h => h DX1.out), if_neg (by have q1 := DQ.out; have q2 := DX2.out; have q3 := DX3.out; rw [wn_len]; omega), Int.toNat_natCast, R1.out, R2.out, if_neg (by decide), if_neg (by decide)]
         ]
        rfl
       ·
        have R1 := Aside0.mk r1
        have R2 := Aside0.mk r2
        go_enter Tryz.func37, Tryz.ntmps37
        go_wp2_with (first | (go_at_call 59; (with_reducible refine (SA.out _ HB.out).mono ?_); rintro e w15 ⟨A15, k15, c15, rfl, hr15, hb⟩; have H16 := Aside0.mk hr15; clear hr15; replace H4 := As (H4.1.be hb); replace H5 := As (H5.1.be hb); replace H9 := As (H9.1.be hb); replace H10 := As (H10.1.be hb); replace B5 := Bb B5 hb; replace B9 := Bb B9 hb; replace B11 := Bb B11 hb; replace HB := Ob HB hb; clear hb) | (go_at_call 19; (with_reducible refine (ratio_Cmp.run s s3 _ _ _ _ _ _ _ _ _ _ _ _ x y n3 m3 L3 L4 4 4 _ (H93.1.be HB.1) (H94.1.be HB.1) H4.1.na H5.1.na (by have := HL.out; have := HL3.out; omega)).mono ?_); rintro e w14 ⟨rfl, hb⟩; replace H4 := As (H4.1.be hb); replace H5 := As (H5.1.be hb); replace H9 := As (H9.1.be hb); replace H10 := As (H10.1.be hb); replace B5 := Bb B5 hb; replace B9 := Bb B9 hb; replace B11 := Bb B11 hb; replace HB := Ob HB hb; have kc14 : decide (0 < (cmpZ (pn s x y * pd m3) (pn s3 n3 m3 * pd y))) = false := decide_eq_false (by have q := F3.out; rw [cmpZ_pos, pn_of q.1, pd_of q.1, one_cmp q.2 (by have := q.1; omega)]; exact Int.not_lt.2 DX2.out); clear hb) | (go_at_call 19; (with_reducible refine (ratio_Cmp.run s s8 _ _ _ _ _ _ _ _ _ _ _ _ x y n8 m8 L3 L4 4 4 _ (H93.1.be HB.1) (H94.1.be HB.1) H9.1.na H10.1.na (by have := HL.out; have := HL3.out; omega)).mono ?_); rintro e w13 ⟨rfl, hb⟩; replace H4 := As (H4.1.be hb); replace H5 := As (H5.1.be hb); replace H9 := As (H9.1.be hb); replace H10 := As (H10.1.be hb); replace B5 := Bb B5 hb; replace B9 := Bb B9 hb; replace B11 := Bb B11 hb; replace HB := Ob HB hb; have kc13 : decide ((cmpZ (pn s x y * pd m8) (pn s8 n8 m8 * pd y)) ≤ 0) = false := decide_eq_false (by have q := F8.out; rw [cmpZ_nonpos, pn_of q.1, pd_of q.1, half_cmp q.2 (by have := q.1; omega)]; exact Int.not_le.2 DX3.out); clear hb; (try clear cb5_0); have cb5_0 := Cl0 B5; (try clear cb5_1); have cb5_1 := Cl1 B5; (try clear cb5_2); have cb5_2 := Cl2 B5; (try clear cb9_0); have cb9_0 := Cl0 B9; (try clear cb9_1); have cb9_1 := Cl1 B9; (try clear cb9_2); have cb9_2 := Cl2 B9) | ((with_reducible refine gate_store (t := 34) (p := 11) rfl ?_); refine Sto (t := 34) (p := 11) (by rfl) (.tmp 25) (by rfl) (by rfl) g11 #[.bool s8, .slice A8 k8 c8, .slice D8 l8 d8] (by rfl) (by first | rfl | (go_simp; done) | (go_simp; rfl)) B11 (by kernel_rfl) rfl (by kernel_rfl) ?_; intro w12 ho hB2; replace H4 := As (H4.1.o3 ho B11); replace H5 := As (H5.1.o3 ho B11); replace H9 := As (H9.1.o3 ho B11); replace H10 := As (H10.1.o3 ho B11); replace B5 := Oo B5 ho NE5_11; replace B9 := Oo B9 ho NE9_11; replace HB := Lo HB ho G11; replace B11 := hB2; clear ho hB2; (try clear cb5_0); have cb5_0 := Cl0 B5; (try clear cb5_1); have cb5_1 := Cl1 B5; (try clear cb5_2); have cb5_2 := Cl2 B5; (try clear cb11_0); have cb11_0 := Cl0 B11; (try clear cb11_1); have cb11_1 := Cl1 B11; (try clear cb11_2); have cb11_2 := Cl2 B11) | ((with_reducible refine gate_dst (N := 11) rfl ?_); refine box_event (by rfl) (N := 11) (by rfl) (cs := #[.bool false, .slice none 0 0, .slice none 0 0]) (t := 34) ?hr ?_; (case hr => first | (go_simp; done) | (go_simp; rfl)); intro g11 hgx w11 hbx hb; have B11 := As hbx; have NE5_11 := Nn B5 hgx; have NE9_11 := Nn B9 hgx; have G11 := Gg HB hgx; replace H4 := As (H4.1.be hb); replace H5 := As (H5.1.be hb); replace H9 := As (H9.1.be hb); replace H10 := As (H10.1.be hb); replace B5 := Bb B5 hb; replace B9 := Bb B9 hb; replace HB := Ob HB hb; clear hbx hb hgx) | (go_at_call 23; (with_reducible refine (ratio_Of.run (1) (2) _ (by decide) (by decide) (by decide) (by decide)).mono ?_); rintro e w8 ⟨s8, A8, k8, c8, D8, l8, d8, n8, m8, rfl, hq8, hr8, hm8, hz8, hb⟩; have H9 := Aside0.mk hq8; have H10 := Aside0.mk hr8; have F8 := Aside0.mk (And.intro hm8 hz8); clear hq8 hr8 hm8 hz8; replace H4 := As (H4.1.be hb); replace H5 := As (H5.1.be hb); replace B5 := Bb B5 hb; replace B9 := Bb B9 hb; replace HB := Ob HB hb; clear hb) | ((with_reducible refine gate_store (t := 34) (p := 9) rfl ?_); refine Sto (t := 34) (p := 9) (by rfl) (.tmp 21) (by rfl) (by rfl) g9 #[.bool s3, .slice A3 k3 c3, .slice D3 l3 d3] (by rfl) (by first | rfl | (go_simp; done) | (go_simp; rfl)) B9 (by kernel_rfl) rfl (by kernel_rfl) ?_; intro w7 ho hB2; replace H4 := As (H4.1.o3 ho B9); replace H5 := As (H5.1.o3 ho B9); replace B5 := Oo B5 ho NE5_9; replace HB := Lo HB ho G9; replace B9 := hB2; clear ho hB2) | ((with_reducible refine gate_dst (N := 9) rfl ?_); refine box_event (by rfl) (N := 9) (by rfl) (cs := #[.bool false, .slice none 0 0, .slice none 0 0]) (t := 34) ?hr ?_; (case hr => first | (go_simp; done) | (go_simp; rfl)); intro g9 hgx w6 hbx hb; have B9 := As hbx; have NE5_9 := Nn B5 hgx; have G9 := Gg HB hgx; replace H4 := As (H4.1.be hb); replace H5 := As (H5.1.be hb); replace B5 := Bb B5 hb; replace HB := Ob HB hb; clear hbx hb hgx) | (go_at_call 23; (with_reducible refine (ratio_Of.run (1) (1) _ (by decide) (by decide) (by decide) (by decide)).mono ?_); rintro e w3 ⟨s3, A3, k3, c3, D3, l3, d3, n3, m3, rfl, hq3, hr3, hm3, hz3, hb⟩; have H4 := Aside0.mk hq3; have H5 := Aside0.mk hr3; have F3 := Aside0.mk (And.intro hm3 hz3); clear hq3 hr3 hm3 hz3; replace B5 := Bb B5 hb; replace HB := Ob HB hb; clear hb) | (go_at_call 58; (with_reducible refine (estimate_check.run _ _ wss L _ (HW.out.below HB.out) HL.out.1 HL.out.2.1).mono ?_); rintro e w2 ⟨rfl, hb⟩; replace B5 := Bb B5 hb; replace HB := Ob HB hb; rw [HE.out]; clear hb) | ((with_reducible refine gate_dst (N := 5) rfl ?_); refine box_event (by rfl) (N := 5) (by rfl) (cs := #[.bool s, .slice D m1 m2, .slice E p1 p2]) (t := 34) ?hr ?_; (case hr => first | (go_simp; done) | (go_simp; rfl)); intro g5 hgx w1 hbx hb; have B5 := As hbx; have G5 := Gg HB hgx; replace HB := Ob HB hb; clear hbx hb hgx))
        replace H4 := As (H4.1.drew)
        replace H5 := As (H5.1.drew)
        replace H9 := As (H9.1.drew)
        replace H10 := As (H10.1.drew)
        replace H16 := As (H16.1.drew)
        replace B5 := Bd B5
        replace B9 := Bd B9
        replace B11 := Bd B11
        replace HB := Od HB
        refine start_ (n := 8) (S := fun w' => w'.cell? ⟨g5, 0, none⟩ = some (.bool s) ∧ w'.cell? ⟨g5, 1, none⟩ = some (.slice D m1 m2) ∧ w'.cell? ⟨g5, 2, none⟩ = some (.slice E p1 p2)) (ds := []) (Bt 8 0) (by kernel_rfl) rfl (by kernel_rfl) ⟨Cl0 B5, Cl1 B5, Cl2 B5⟩ (fun hHeld => ?_)
        generalize w15.drew = w17 at hHeld H4 H5 H9 H10 H16 B5 B9 B11 HB ⊢
        refine pure_ (i := 0) (N := some 50) (v := ?_) (a' := ?_) (Bt 8 1) rfl rfl (by kernel_rfl) (fun _ _ _ h => h) (Or.inl ⟨by rfl, ?_⟩) ?_ ?_
        rotate_left
        ·
         intro w'
         go_simp
         with_reducible rfl
        rotate_left
        ·
         simp only [Nrm, Option.some.injEq, List.setIfInBounds_toArray, List.set_cons_zero, List.set_cons_succ, i64_w, i32_w]
         rfl
        refine pure_ (i := 1) (N := some 51) (v := ?_) (a' := ?_) (Bt 8 3) rfl rfl (by kernel_rfl) (fun _ _ _ h => h) (Or.inl ⟨by rfl, ?_⟩) ?_ ?_
        rotate_left
        ·
         intro w'
         go_simp
         with_reducible rfl
        rotate_left
        ·
         simp only [Nrm, Option.some.injEq, List.setIfInBounds_toArray, List.set_cons_zero, List.set_cons_succ, i64_w, i32_w]
         rfl
        refine pure_ (i := 2) (N := some 52) (v := ?_) (a' := ?_) (Bt 8 7) rfl rfl (by kernel_rfl) (fun _ _ _ h => h) (Or.inl ⟨by rfl, ?_⟩) ?_ ?_
        rotate_left
        ·
         intro w'
         go_simp
         with_reducible rfl
        rotate_left
        ·
         simp only [Nrm, Option.some.injEq, List.setIfInBounds_toArray, List.set_cons_zero, List.set_cons_succ, i64_w, i32_w]
         rfl
        refine pure_ (i := 4) (N := some 54) (v := ?_) (a' := ?_) (Bt 8 23) rfl rfl (by kernel_rfl) (fun _ _ _ h => h) (Or.inl ⟨by rfl, ?_⟩) ?_ ?_
        rotate_left
        ·
         intro w'
         go_simp
         with_reducible rfl
        rotate_left
        ·
         simp only [Nrm, Option.some.injEq, List.setIfInBounds_toArray, List.set_cons_zero, List.set_cons_succ, i64_w, i32_w]
         rfl
        refine take_ (i := 5) (N := some 55) (v := ?_) (a' := ?_) (Bt 8 55) rfl rfl (by kernel_rfl) (fun _ _ _ h => h) (Or.inl ⟨by rfl, ?_⟩) hHeld ?_ ?_
        rotate_left
        ·
         rintro w' ⟨s0, s1, s2⟩
         go_simp
         with_reducible rfl
        rotate_left
        ·
         simp only [Nrm, Option.some.injEq, List.setIfInBounds_toArray, List.set_cons_zero, List.set_cons_succ, i64_w, i32_w]
         rfl
        refine one_ (i := 3) (N := some 53) (Bt 8 63) rfl rfl (by kernel_rfl) (by decide) (fun K hK => ?_)
        refine goes_ Tryz.func59 (by kernel_rfl) rfl #[.slice (if cap = q then some ad else some (ad.add q)) (wss.length - q) (cap - q)] (by rfl) rfl rfl (by (try simp only [List.map_toArray, List.map_cons, List.map_nil]); first | done | rfl) ?_
        with_reducible refine (SD.out _ HB.out).mono ?_
        rintro e w33 ⟨A33, k33, c33, rfl, hr33, hb⟩
        refine ⟨_, rfl, ?_⟩
        have H34 := Aside0.mk hr33
        clear hr33
        replace H4 := As (H4.1.be hb)
        replace H5 := As (H5.1.be hb)
        replace H9 := As (H9.1.be hb)
        replace H10 := As (H10.1.be hb)
        replace H16 := As (H16.1.be hb)
        replace B5 := Bb B5 hb
        replace B9 := Bb B9 hb
        replace B11 := Bb B11 hb
        replace HB := Ob HB hb
        clear hb
        refine hK.out _ _ ⟨Cl0 B5, Cl1 B5, Cl2 B5⟩ (fun hHeld => ?_)
        clear hK K
        refine norm_ (a' := ?_) ?_ ?_
        rotate_left
        ·
         show Act.put _ (some 53) _ = _
         simp only [Nrm, Option.some.injEq, List.setIfInBounds_toArray, List.set_cons_zero, List.set_cons_succ, i64_w, i32_w]
         rfl
        refine one_ (i := 6) (N := some 56) (Bt 8 127) rfl rfl (by kernel_rfl) (by decide) (fun K hK => ?_)
        refine goes_ Tryz.func60 (by kernel_rfl) rfl #[.slice A33 k33 c33, .slice A15 k15 c15, .agg #[.bool s, .slice D m1 m2, .slice E p1 p2]] (by rfl) rfl rfl (by (try simp only [List.map_toArray, List.map_cons, List.map_nil]); first | done | rfl) ?_
        with_reducible refine (estimate_reaches.run _ _ _ _ s _ _ _ _ _ _ _ _ ((wn wss).drop q).sum (wn wss).sum x y (L + 2 + wss.length) (L + 2 + wss.length) L3 L4 _ H34.1.na H16.1.na (H93.1.be HB.1) (H94.1.be HB.1) SP.out (by have := HL.out; have := HL3.out; omega)).mono ?_
        rintro e w48 ⟨rfl, hb⟩
        refine ⟨_, rfl, ?_⟩
        replace H4 := As (H4.1.be hb)
        replace H5 := As (H5.1.be hb)
        replace H9 := As (H9.1.be hb)
        replace H10 := As (H10.1.be hb)
        replace H16 := As (H16.1.be hb)
        replace H34 := As (H34.1.be hb)
        replace B5 := Bb B5 hb
        replace B9 := Bb B9 hb
        replace B11 := Bb B11 hb
        replace HB := Ob HB hb
        clear hb
        refine hK.out _ _ ⟨Cl0 B5, Cl1 B5, Cl2 B5⟩ (fun hHeld => ?_)
        clear hK K
        refine norm_ (a' := ?_) ?_ ?_
        rotate_left
        ·
         show Act.put _ (some 56) _ = _
         simp only [Nrm, Option.some.injEq, List.setIfInBounds_toArray, List.set_cons_zero, List.set_cons_succ, i64_w, i32_w]
         rfl
        refine pure_ (i := 7) (N := some 49) (v := ?_) (a' := ?_) (Bt 8 255) rfl rfl (by kernel_rfl) (fun _ _ _ h => h) (Or.inl ⟨by rfl, ?_⟩) ?_ ?_
        rotate_left
        ·
         intro w'
         go_simp
         with_reducible rfl
        rotate_left
        ·
         simp only [Nrm, Option.some.injEq, List.setIfInBounds_toArray, List.set_cons_zero, List.set_cons_succ, i64_w, i32_w]
         rfl
        refine done_ (by kernel_rfl) ?_
        generalize (if cap = q then some ad else some (ad.add q)) = Zq
        go_wp2
        replace H4 := As (H4.1.drew)
        replace H5 := As (H5.1.drew)
        replace H9 := As (H9.1.drew)
        replace H10 := As (H10.1.drew)
        replace H16 := As (H16.1.drew)
        replace H34 := As (H34.1.drew)
        replace B5 := Bd B5
        replace B9 := Bd B9
        replace B11 := Bd B11
        replace HB := Od HB
        refine start_ (n := 8) (S := fun w' => w'.cell? ⟨g5, 0, none⟩ = some (.bool s) ∧ w'.cell? ⟨g5, 1, none⟩ = some (.slice D m1 m2) ∧ w'.cell? ⟨g5, 2, none⟩ = some (.slice E p1 p2)) (ds := []) (Bt 8 0) (by kernel_rfl) rfl (by kernel_rfl) ⟨Cl0 B5, Cl1 B5, Cl2 B5⟩ (fun hHeld => ?_)
        generalize w48.drew = w58 at hHeld H4 H5 H9 H10 H16 H34 B5 B9 B11 HB ⊢
        refine pure_ (i := 0) (N := some 58) (v := ?_) (a' := ?_) (Bt 8 1) rfl rfl (by kernel_rfl) (fun _ _ _ h => h) (Or.inl ⟨by rfl, ?_⟩) ?_ ?_
        rotate_left
        ·
         intro w'
         go_simp
         with_reducible rfl
        rotate_left
        ·
         simp only [Nrm, Option.some.injEq, List.setIfInBounds_toArray, List.set_cons_zero, List.set_cons_succ, i64_w, i32_w]
         rfl
        refine pure_ (i := 1) (N := some 59) (v := ?_) (a' := ?_) (Bt 8 3) rfl rfl (by kernel_rfl) (fun _ _ _ h => h) (Or.inl ⟨by rfl, ?_⟩) ?_ ?_
        rotate_left
        ·
         intro w'
         go_simp
         with_reducible rfl
        rotate_left
        ·
         simp only [Nrm, Option.some.injEq, List.setIfInBounds_toArray, List.set_cons_zero, List.set_cons_succ, i64_w, i32_w]
         rfl
        refine pure_ (i := 2) (N := some 60) (v := ?_) (a' := ?_) (Bt 8 7) rfl rfl (by kernel_rfl) (fun _ _ _ h => h) (Or.inl ⟨by rfl, ?_⟩) ?_ ?_
        rotate_left
        ·
         intro w'
         go_simp
         with_reducible rfl
        rotate_left
        ·
         simp only [Nrm, Option.some.injEq, List.setIfInBounds_toArray, List.set_cons_zero, List.set_cons_succ, i64_w, i32_w]
         rfl
        refine pure_ (i := 4) (N := some 62) (v := ?_) (a' := ?_) (Bt 8 23) rfl rfl (by kernel_rfl) (fun _ _ _ h => h) (Or.inl ⟨by rfl, ?_⟩) ?_ ?_
        rotate_left
        ·
         intro w'
         go_simp
         with_reducible rfl
        rotate_left
        ·
         simp only [Nrm, Option.some.injEq, List.setIfInBounds_toArray, List.set_cons_zero, List.set_cons_succ, i64_w, i32_w]
         rfl
        refine take_ (i := 5) (N := some 63) (v := ?_) (a' := ?_) (Bt 8 55) rfl rfl (by kernel_rfl) (fun _ _ _ h => h) (Or.inl ⟨by rfl, ?_⟩) hHeld ?_ ?_
        rotate_left
        ·
         rintro w' ⟨s0, s1, s2⟩
         go_simp
         with_reducible rfl
        rotate_left
        ·
         simp only [Nrm, Option.some.injEq, List.setIfInBounds_toArray, List.set_cons_zero, List.set_cons_succ, i64_w, i32_w]
         rfl
        refine one_ (i := 3) (N := some 61) (Bt 8 63) rfl rfl (by kernel_rfl) (by decide) (fun K hK => ?_)
        refine goes_ Tryz.func59 (by kernel_rfl) rfl #[.slice (some ad) q cap] (by rfl) rfl rfl (by (try simp only [List.map_toArray, List.map_cons, List.map_nil]); first | done | rfl) ?_
        with_reducible refine (ST.out _ HB.out).mono ?_
        rintro e w116 ⟨A116, k116, c116, rfl, hr116, hb⟩
        refine ⟨_, rfl, ?_⟩
        have H117 := Aside0.mk hr116
        clear hr116
        replace H4 := As (H4.1.be hb)
        replace H5 := As (H5.1.be hb)
        replace H9 := As (H9.1.be hb)
        replace H10 := As (H10.1.be hb)
        replace H16 := As (H16.1.be hb)
        replace H34 := As (H34.1.be hb)
        replace B5 := Bb B5 hb
        replace B9 := Bb B9 hb
        replace B11 := Bb B11 hb
        replace HB := Ob HB hb
        clear hb
        refine hK.out _ _ ⟨Cl0 B5, Cl1 B5, Cl2 B5⟩ (fun hHeld => ?_)
        clear hK K
        refine norm_ (a' := ?_) ?_ ?_
        rotate_left
        ·
         show Act.put _ (some 61) _ = _
         simp only [Nrm, Option.some.injEq, List.setIfInBounds_toArray, List.set_cons_zero, List.set_cons_succ, i64_w, i32_w]
         rfl
        refine one_ (i := 6) (N := some 64) (Bt 8 127) rfl rfl (by kernel_rfl) (by decide) (fun K hK => ?_)
        refine goes_ Tryz.func60 (by kernel_rfl) rfl #[.slice A116 k116 c116, .slice A15 k15 c15, .agg #[.bool s, .slice D m1 m2, .slice E p1 p2]] (by rfl) rfl rfl (by (try simp only [List.map_toArray, List.map_cons, List.map_nil]); first | done | rfl) ?_
        with_reducible refine (estimate_reaches.run _ _ _ _ s _ _ _ _ _ _ _ _ ((wn wss).take q).sum (wn wss).sum x y (L + 2 + wss.length) (L + 2 + wss.length) L3 L4 _ H117.1.na H16.1.na (H93.1.be HB.1) (H94.1.be HB.1) SP.out (by have := HL.out; have := HL3.out; omega)).mono ?_
        rintro e w131 ⟨rfl, hb⟩
        refine ⟨_, rfl, ?_⟩
        replace H4 := As (H4.1.be hb)
        replace H5 := As (H5.1.be hb)
        replace H9 := As (H9.1.be hb)
        replace H10 := As (H10.1.be hb)
        replace H16 := As (H16.1.be hb)
        replace H34 := As (H34.1.be hb)
        replace H117 := As (H117.1.be hb)
        replace B5 := Bb B5 hb
        replace B9 := Bb B9 hb
        replace B11 := Bb B11 hb
        replace HB := Ob HB hb
        clear hb
        refine hK.out _ _ ⟨Cl0 B5, Cl1 B5, Cl2 B5⟩ (fun hHeld => ?_)
        clear hK K
        refine norm_ (a' := ?_) ?_ ?_
        rotate_left
        ·
         show Act.put _ (some 64) _ = _
         simp only [Nrm, Option.some.injEq, List.setIfInBounds_toArray, List.set_cons_zero, List.set_cons_succ, i64_w, i32_w]
         rfl
        refine pure_ (i := 7) (N := some 57) (v := ?_) (a' := ?_) (Bt 8 255) rfl rfl (by kernel_rfl) (fun _ _ _ h => h) (Or.inl ⟨by rfl, ?_⟩) ?_ ?_
        rotate_left
        ·
         intro w'
         go_simp
         with_reducible rfl
        rotate_left
        ·
         simp only [Nrm, Option.some.injEq, List.setIfInBounds_toArray, List.set_cons_zero, List.set_cons_succ, i64_w, i32_w]
         rfl
        refine done_ (by kernel_rfl) ?_
        go_wp2
        go_ret2
        refine ⟨?_, HB.out⟩
        rw [show classV (wn wss) (q : Int) (pn s x y) (pd y) = (0, 0) by
         unfold classV
         rw [if_neg (fun h => h DX1.out), if_neg (by have q1 := DQ.out; have q2 := DX2.out; have q3 := DX3.out; rw [wn_len]; omega), Int.toNat_natCast, R1.out, R2.out, if_neg (by decide), if_pos rfl]
         ]
        rfl
      ·
       have R1 := Aside0.mk r1
       go_enter Tryz.func37, Tryz.ntmps37
       go_wp2_with (first | (go_at_call 59; (with_reducible refine (SA.out _ HB.out).mono ?_); rintro e w15 ⟨A15, k15, c15, rfl, hr15, hb⟩; have H16 := Aside0.mk hr15; clear hr15; replace H4 := As (H4.1.be hb); replace H5 := As (H5.1.be hb); replace H9 := As (H9.1.be hb); replace H10 := As (H10.1.be hb); replace B5 := Bb B5 hb; replace B9 := Bb B9 hb; replace B11 := Bb B11 hb; replace HB := Ob HB hb; clear hb) | (go_at_call 19; (with_reducible refine (ratio_Cmp.run s s3 _ _ _ _ _ _ _ _ _ _ _ _ x y n3 m3 L3 L4 4 4 _ (H93.1.be HB.1) (H94.1.be HB.1) H4.1.na H5.1.na (by have := HL.out; have := HL3.out; omega)).mono ?_); rintro e w14 ⟨rfl, hb⟩; replace H4 := As (H4.1.be hb); replace H5 := As (H5.1.be hb); replace H9 := As (H9.1.be hb); replace H10 := As (H10.1.be hb); replace B5 := Bb B5 hb; replace B9 := Bb B9 hb; replace B11 := Bb B11 hb; replace HB := Ob HB hb; have kc14 : decide (0 < (cmpZ (pn s x y * pd m3) (pn s3 n3 m3 * pd y))) = false := decide_eq_false (by have q := F3.out; rw [cmpZ_pos, pn_of q.1, pd_of q.1, one_cmp q.2 (by have := q.1; omega)]; exact Int.not_lt.2 DX2.out); clear hb) | (go_at_call 19; (with_reducible refine (ratio_Cmp.run s s8 _ _ _ _ _ _ _ _ _ _ _ _ x y n8 m8 L3 L4 4 4 _ (H93.1.be HB.1) (H94.1.be HB.1) H9.1.na H10.1.na (by have := HL.out; have := HL3.out; omega)).mono ?_); rintro e w13 ⟨rfl, hb⟩; replace H4 := As (H4.1.be hb); replace H5 := As (H5.1.be hb); replace H9 := As (H9.1.be hb); replace H10 := As (H10.1.be hb); replace B5 := Bb B5 hb; replace B9 := Bb B9 hb; replace B11 := Bb B11 hb; replace HB := Ob HB hb; have kc13 : decide ((cmpZ (pn s x y * pd m8) (pn s8 n8 m8 * pd y)) ≤ 0) = false := decide_eq_false (by have q := F8.out; rw [cmpZ_nonpos, pn_of q.1, pd_of q.1, half_cmp q.2 (by have := q.1; omega)]; exact Int.not_le.2 DX3.out); clear hb; (try clear cb5_0); have cb5_0 := Cl0 B5; (try clear cb5_1); have cb5_1 := Cl1 B5; (try clear cb5_2); have cb5_2 := Cl2 B5; (try clear cb9_0); have cb9_0 := Cl0 B9; (try clear cb9_1); have cb9_1 := Cl1 B9; (try clear cb9_2); have cb9_2 := Cl2 B9) | ((with_reducible refine gate_store (t := 34) (p := 11) rfl ?_); refine Sto (t := 34) (p := 11) (by rfl) (.tmp 25) (by rfl) (by rfl) g11 #[.bool s8, .slice A8 k8 c8, .slice D8 l8 d8] (by rfl) (by first | rfl | (go_simp; done) | (go_simp; rfl)) B11 (by kernel_rfl) rfl (by kernel_rfl) ?_; intro w12 ho hB2; replace H4 := As (H4.1.o3 ho B11); replace H5 := As (H5.1.o3 ho B11); replace H9 := As (H9.1.o3 ho B11); replace H10 := As (H10.1.o3 ho B11); replace B5 := Oo B5 ho NE5_11; replace B9 := Oo B9 ho NE9_11; replace HB := Lo HB ho G11; replace B11 := hB2; clear ho hB2; (try clear cb5_0); have cb5_0 := Cl0 B5; (try clear cb5_1); have cb5_1 := Cl1 B5; (try clear cb5_2); have cb5_2 := Cl2 B5; (try clear cb11_0); have cb11_0 := Cl0 B11; (try clear cb11_1); have cb11_1 := Cl1 B11; (try clear cb11_2); have cb11_2 := Cl2 B11) | ((with_reducible refine gate_dst (N := 11) rfl ?_); refine box_event (by rfl) (N := 11) (by rfl) (cs := #[.bool false, .slice none 0 0, .slice none 0 0]) (t := 34) ?hr ?_; (case hr => first | (go_simp; done) | (go_simp; rfl)); intro g11 hgx w11 hbx hb; have B11 := As hbx; have NE5_11 := Nn B5 hgx; have NE9_11 := Nn B9 hgx; have G11 := Gg HB hgx; replace H4 := As (H4.1.be hb); replace H5 := As (H5.1.be hb); replace H9 := As (H9.1.be hb); replace H10 := As (H10.1.be hb); replace B5 := Bb B5 hb; replace B9 := Bb B9 hb; replace HB := Ob HB hb; clear hbx hb hgx) | (go_at_call 23; (with_reducible refine (ratio_Of.run (1) (2) _ (by decide) (by decide) (by decide) (by decide)).mono ?_); rintro e w8 ⟨s8, A8, k8, c8, D8, l8, d8, n8, m8, rfl, hq8, hr8, hm8, hz8, hb⟩; have H9 := Aside0.mk hq8; have H10 := Aside0.mk hr8; have F8 := Aside0.mk (And.intro hm8 hz8); clear hq8 hr8 hm8 hz8; replace H4 := As (H4.1.be hb); replace H5 := As (H5.1.be hb); replace B5 := Bb B5 hb; replace B9 := Bb B9 hb; replace HB := Ob HB hb; clear hb) | ((with_reducible refine gate_store (t := 34) (p := 9) rfl ?_); refine Sto (t := 34) (p := 9) (by rfl) (.tmp 21) (by rfl) (by rfl) g9 #[.bool s3, .slice A3 k3 c3, .slice D3 l3 d3] (by rfl) (by first | rfl | (go_simp; done) | (go_simp; rfl)) B9 (by kernel_rfl) rfl (by kernel_rfl) ?_; intro w7 ho hB2; replace H4 := As (H4.1.o3 ho B9); replace H5 := As (H5.1.o3 ho B9); replace B5 := Oo B5 ho NE5_9; replace HB := Lo HB ho G9; replace B9 := hB2; clear ho hB2) | ((with_reducible refine gate_dst (N := 9) rfl ?_); refine box_event (by rfl) (N := 9) (by rfl) (cs := #[.bool false, .slice none 0 0, .slice none 0 0]) (t := 34) ?hr ?_; (case hr => first | (go_simp; done) | (go_simp; rfl)); intro g9 hgx w6 hbx hb; have B9 := As hbx; have NE5_9 := Nn B5 hgx; have G9 := Gg HB hgx; replace H4 := As (H4.1.be hb); replace H5 := As (H5.1.be hb); replace B5 := Bb B5 hb; replace HB := Ob HB hb; clear hbx hb hgx) | (go_at_call 23; (with_reducible refine (ratio_Of.run (1) (1) _ (by decide) (by decide) (by decide) (by decide)).mono ?_); rintro e w3 ⟨s3, A3, k3, c3, D3, l3, d3, n3, m3, rfl, hq3, hr3, hm3, hz3, hb⟩; have H4 := Aside0.mk hq3; have H5 := Aside0.mk hr3; have F3 := Aside0.mk (And.intro hm3 hz3); clear hq3 hr3 hm3 hz3; replace B5 := Bb B5 hb; replace HB := Ob HB hb; clear hb) | (go_at_call 58; (with_reducible refine (estimate_check.run _ _ wss L _ (HW.out.below HB.out) HL.out.1 HL.out.2.1).mono ?_); rintro e w2 ⟨rfl, hb⟩; replace B5 := Bb B5 hb; replace HB := Ob HB hb; rw [HE.out]; clear hb) | ((with_reducible refine gate_dst (N := 5) rfl ?_); refine box_event (by rfl) (N := 5) (by rfl) (cs := #[.bool s, .slice D m1 m2, .slice E p1 p2]) (t := 34) ?hr ?_; (case hr => first | (go_simp; done) | (go_simp; rfl)); intro g5 hgx w1 hbx hb; have B5 := As hbx; have G5 := Gg HB hgx; replace HB := Ob HB hb; clear hbx hb hgx))
       replace H4 := As (H4.1.drew)
       replace H5 := As (H5.1.drew)
       replace H9 := As (H9.1.drew)
       replace H10 := As (H10.1.drew)
       replace H16 := As (H16.1.drew)
       replace B5 := Bd B5
       replace B9 := Bd B9
       replace B11 := Bd B11
       replace HB := Od HB
       refine start_ (n := 8) (S := fun w' => w'.cell? ⟨g5, 0, none⟩ = some (.bool s) ∧ w'.cell? ⟨g5, 1, none⟩ = some (.slice D m1 m2) ∧ w'.cell? ⟨g5, 2, none⟩ = some (.slice E p1 p2)) (ds := []) (Bt 8 0) (by kernel_rfl) rfl (by kernel_rfl) ⟨Cl0 B5, Cl1 B5, Cl2 B5⟩ (fun hHeld => ?_)
       generalize w15.drew = w17 at hHeld H4 H5 H9 H10 H16 B5 B9 B11 HB ⊢
       refine pure_ (i := 0) (N := some 50) (v := ?_) (a' := ?_) (Bt 8 1) rfl rfl (by kernel_rfl) (fun _ _ _ h => h) (Or.inl ⟨by rfl, ?_⟩) ?_ ?_
       rotate_left
       ·
        intro w'
        go_simp
        with_reducible rfl
       rotate_left
       ·
        simp only [Nrm, Option.some.injEq, List.setIfInBounds_toArray, List.set_cons_zero, List.set_cons_succ, i64_w, i32_w]
        rfl
       refine pure_ (i := 1) (N := some 51) (v := ?_) (a' := ?_) (Bt 8 3) rfl rfl (by kernel_rfl) (fun _ _ _ h => h) (Or.inl ⟨by rfl, ?_⟩) ?_ ?_
       rotate_left
       ·
        intro w'
        go_simp
        with_reducible rfl
       rotate_left
       ·
        simp only [Nrm, Option.some.injEq, List.setIfInBounds_toArray, List.set_cons_zero, List.set_cons_succ, i64_w, i32_w]
        rfl
       refine pure_ (i := 2) (N := some 52) (v := ?_) (a' := ?_) (Bt 8 7) rfl rfl (by kernel_rfl) (fun _ _ _ h => h) (Or.inl ⟨by rfl, ?_⟩) ?_ ?_
       rotate_left
       ·
        intro w'
        go_simp
        with_reducible rfl
       rotate_left
       ·
        simp only [Nrm, Option.some.injEq, List.setIfInBounds_toArray, List.set_cons_zero, List.set_cons_succ, i64_w, i32_w]
        rfl
       refine pure_ (i := 4) (N := some 54) (v := ?_) (a' := ?_) (Bt 8 23) rfl rfl (by kernel_rfl) (fun _ _ _ h => h) (Or.inl ⟨by rfl, ?_⟩) ?_ ?_
       rotate_left
       ·
        intro w'
        go_simp
        with_reducible rfl
       rotate_left
       ·
        simp only [Nrm, Option.some.injEq, List.setIfInBounds_toArray, List.set_cons_zero, List.set_cons_succ, i64_w, i32_w]
        rfl
       refine take_ (i := 5) (N := some 55) (v := ?_) (a' := ?_) (Bt 8 55) rfl rfl (by kernel_rfl) (fun _ _ _ h => h) (Or.inl ⟨by rfl, ?_⟩) hHeld ?_ ?_
       rotate_left
       ·
        rintro w' ⟨s0, s1, s2⟩
        go_simp
        with_reducible rfl
       rotate_left
       ·
        simp only [Nrm, Option.some.injEq, List.setIfInBounds_toArray, List.set_cons_zero, List.set_cons_succ, i64_w, i32_w]
        rfl
       refine one_ (i := 3) (N := some 53) (Bt 8 63) rfl rfl (by kernel_rfl) (by decide) (fun K hK => ?_)
       refine goes_ Tryz.func59 (by kernel_rfl) rfl #[.slice (if cap = q then some ad else some (ad.add q)) (wss.length - q) (cap - q)] (by rfl) rfl rfl (by (try simp only [List.map_toArray, List.map_cons, List.map_nil]); first | done | rfl) ?_
       with_reducible refine (SD.out _ HB.out).mono ?_
       rintro e w33 ⟨A33, k33, c33, rfl, hr33, hb⟩
       refine ⟨_, rfl, ?_⟩
       have H34 := Aside0.mk hr33
       clear hr33
       replace H4 := As (H4.1.be hb)
       replace H5 := As (H5.1.be hb)
       replace H9 := As (H9.1.be hb)
       replace H10 := As (H10.1.be hb)
       replace H16 := As (H16.1.be hb)
       replace B5 := Bb B5 hb
       replace B9 := Bb B9 hb
       replace B11 := Bb B11 hb
       replace HB := Ob HB hb
       clear hb
       refine hK.out _ _ ⟨Cl0 B5, Cl1 B5, Cl2 B5⟩ (fun hHeld => ?_)
       clear hK K
       refine norm_ (a' := ?_) ?_ ?_
       rotate_left
       ·
        show Act.put _ (some 53) _ = _
        simp only [Nrm, Option.some.injEq, List.setIfInBounds_toArray, List.set_cons_zero, List.set_cons_succ, i64_w, i32_w]
        rfl
       refine one_ (i := 6) (N := some 56) (Bt 8 127) rfl rfl (by kernel_rfl) (by decide) (fun K hK => ?_)
       refine goes_ Tryz.func60 (by kernel_rfl) rfl #[.slice A33 k33 c33, .slice A15 k15 c15, .agg #[.bool s, .slice D m1 m2, .slice E p1 p2]] (by rfl) rfl rfl (by (try simp only [List.map_toArray, List.map_cons, List.map_nil]); first | done | rfl) ?_
       with_reducible refine (estimate_reaches.run _ _ _ _ s _ _ _ _ _ _ _ _ ((wn wss).drop q).sum (wn wss).sum x y (L + 2 + wss.length) (L + 2 + wss.length) L3 L4 _ H34.1.na H16.1.na (H93.1.be HB.1) (H94.1.be HB.1) SP.out (by have := HL.out; have := HL3.out; omega)).mono ?_
       rintro e w48 ⟨rfl, hb⟩
       refine ⟨_, rfl, ?_⟩
       replace H4 := As (H4.1.be hb)
       replace H5 := As (H5.1.be hb)
       replace H9 := As (H9.1.be hb)
       replace H10 := As (H10.1.be hb)
       replace H16 := As (H16.1.be hb)
       replace H34 := As (H34.1.be hb)
       replace B5 := Bb B5 hb
       replace B9 := Bb B9 hb
       replace B11 := Bb B11 hb
       replace HB := Ob HB hb
       clear hb
       refine hK.out _ _ ⟨Cl0 B5, Cl1 B5, Cl2 B5⟩ (fun hHeld => ?_)
       clear hK K
       refine norm_ (a' := ?_) ?_ ?_
       rotate_left
       ·
        show Act.put _ (some 56) _ = _
        simp only [Nrm, Option.some.injEq, List.setIfInBounds_toArray, List.set_cons_zero, List.set_cons_succ, i64_w, i32_w]
        rfl
       refine pure_ (i := 7) (N := some 49) (v := ?_) (a' := ?_) (Bt 8 255) rfl rfl (by kernel_rfl) (fun _ _ _ h => h) (Or.inl ⟨by rfl, ?_⟩) ?_ ?_
       rotate_left
       ·
        intro w'
        go_simp
        with_reducible rfl
       rotate_left
       ·
        simp only [Nrm, Option.some.injEq, List.setIfInBounds_toArray, List.set_cons_zero, List.set_cons_succ, i64_w, i32_w]
        rfl
       refine done_ (by kernel_rfl) ?_
       generalize (if cap = q then some ad else some (ad.add q)) = Zq
       go_wp2
       go_ret2
       refine ⟨?_, HB.out⟩
       rw [show classV (wn wss) (q : Int) (pn s x y) (pd y) = (1, 0) by
        unfold classV
        rw [if_neg (fun h => h DX1.out), if_neg (by have q1 := DQ.out; have q2 := DX2.out; have q3 := DX3.out; rw [wn_len]; omega), Int.toNat_natCast, R1.out, if_pos rfl]
        ]
       rfl
 ·
  have kg : (ev == 0) = false := by rw [beq_eq_false_iff_ne]; exact cg
  have kgn : (ev != 0) = true := by rw [bne, kg]; rfl
  have DX1 := Aside0.mk cg
  clear cg
  go_enter Tryz.func37, Tryz.ntmps37
  go_wp2_with (first | (go_at_call 58; (with_reducible refine (estimate_check.run _ _ wss L _ (HW.out.below HB.out) HL.out.1 HL.out.2.1).mono ?_); rintro e w2 ⟨rfl, hb⟩; replace B5 := Bb B5 hb; replace HB := Ob HB hb; rw [HE.out]; clear hb) | ((with_reducible refine gate_dst (N := 5) rfl ?_); refine box_event (by rfl) (N := 5) (by rfl) (cs := #[.bool s, .slice D m1 m2, .slice E p1 p2]) (t := 34) ?hr ?_; (case hr => first | (go_simp; done) | (go_simp; rfl)); intro g5 hgx w1 hbx hb; have B5 := As hbx; have G5 := Gg HB hgx; replace HB := Ob HB hb; clear hbx hb hgx))
  go_ret2
  refine ⟨?_, HB.out⟩
  rw [show classV (wn wss) cut (pn s x y) (pd y) = (0, ev) by
   unfold classV
   rw [HE.out, if_pos DX1.out]
   ]
  rfl
end Go.Proofs.YtnmfmiemkcaocaaGreat.Hand
namespace Go.Proofs.YtnmfmiemkcaocaaGreat.Hand
open Go.RowKit Go.Proofs.YtnmfmiemkcaocaaGreatW.PrintWords Go.Proofs.YtnmfmiemkcaocaaGreatW.PrintLast Go.Proofs.YtnmfmiemkcaocaaGreatW.PrintMore
set_option linter.unusedVariables false
set_option linter.unusedSimpArgs false
theorem index_byte (s : ByteArray) (c : Int) (w : World) :
  Calls Tryz.prog 156 #[.string s, .int .u8 c] w fun e w' => e = .returned (.int .i64 (Lib.indexByte s.data.toList c.toNat.toUInt8)) ∧ w' = w := by
 go_enter Tryz.func156, Tryz.ntmps156
 go_wp2
 rw [run_callFunc_extern Tryz.func160 (by kernel_rfl) (by kernel_rfl) (by kernel_rfl) (e := Extern.BytealgIndexByte.indexByte) (by kernel_rfl), Lib.run_indexByteString]
 simp only [Result.andThen]
 rw [Oper.upon_value]
 go_wp2
 go_ret
 exact ⟨rfl, rfl⟩
def stringslite_Index.f (a0 : ByteArray) (a1 : ByteArray) : Option (Int) := if a1.toList = ([46] : List UInt8) then some (Lib.indexByte a0.data.toList 46) else none
theorem stringslite_Index.calls (a0 : ByteArray) (a1 : ByteArray) (r : Int) (w : World) (h : stringslite_Index.f a0 a1 = some r) :
  Calls Tryz.prog 155 #[.string a0, .string a1] w fun e w' => e = .returned (.int .i64 r) ∧ Drawn0 w w' := by
 unfold stringslite_Index.f at h
 split at h
 ·
  rename_i h1
  obtain rfl : a1 = ⟨#[46]⟩ := by
   rw [Lib.toList_data] at h1
   exact ByteArray.ext (Array.toList_inj.1 h1)
  obtain rfl := Option.some.inj h
  clear h h1
  go_enter Tryz.func155, Tryz.ntmps155
  go_wp2_with (first | ((with_reducible refine gate_callee (f := 156) rfl ?_); refine goesL_ (some 30) rfl rfl Tryz.func156 (by kernel_rfl) rfl #[.string a0, .int .u8 46] rfl (by (try simp only [List.map_toArray, List.map_cons, List.map_nil]); first | done | rfl) ?_; (with_reducible refine (index_byte a0 46 _).mono ?_); rintro e w' ⟨rfl, rfl⟩; refine ⟨_, rfl, ?_⟩))
  ·
   have h : ([(46 : UInt8)] == a0.toList) = true := by assumption
   go_ret
   refine ⟨?_, Drawn0.refl _⟩
   have e : a0.data.toList = [46] := by rw [← Lib.toList_data]; exact (beq_iff_eq.1 h).symm
   rw [e]
   simp [Lib.indexByte]
  ·
   go_ret
   exact ⟨rfl, Drawn0.refl _⟩
 ·
  cases h
end Go.Proofs.YtnmfmiemkcaocaaGreat.Hand
namespace Go.Proofs.YtnmfmiemkcaocaaGreat.QCutA
open Go.RowKit Go.Proofs.YtnmfmiemkcaocaaGreatW.PrintWords Go.Proofs.YtnmfmiemkcaocaaGreatW.PrintLast Go.Proofs.YtnmfmiemkcaocaaGreatW.PrintMore
attribute [local go_sem] max2_int min2_int max_two min_two max_three min_three max_four min_four   -- for this text's walks alone
set_option linter.unusedVariables false
set_option linter.unusedSimpArgs false
def stringslite_Cut.f (a0 : ByteArray) (a1 : ByteArray) : Option (ByteArray × ByteArray × Bool) := (Hand.stringslite_Index.f a0 a1).bind fun t101 => (if t101 ≥ 0 then (if 0 ≤ t101 then (if t101 ≤ (a0.size : Int) then (if 0 ≤ (wrap64 (t101 + (a1.size : Int))) then (if (wrap64 (t101 + (a1.size : Int))) ≤ (a0.size : Int) then (some (a0.extract 0 (t101 : Int).toNat, a0.extract ((wrap64 (t101 + (a1.size : Int))) : Int).toNat a0.size, true)) else (none)) else (none)) else (none)) else (none)) else (some (a0, (⟨#[]⟩ : ByteArray), false)))
theorem stringslite_Cut.calls (a0 : ByteArray) (a1 : ByteArray) (r1 : ByteArray) (r2 : ByteArray) (r3 : Bool) (w : World) (h : stringslite_Cut.f a0 a1 = some (r1, r2, r3)) :
  Calls Tryz.prog 154 #[.string a0, .string a1] w fun e w' => e = .returned (.tuple #[.string r1, .string r2, .bool r3]) ∧ Drawn0 w w' := by
 have H : ((Hand.stringslite_Index.f a0 a1).bind fun t101 => (if t101 ≥ 0 then (if 0 ≤ t101 then (if t101 ≤ (a0.size : Int) then (if 0 ≤ (wrap64 (t101 + (a1.size : Int))) then (if (wrap64 (t101 + (a1.size : Int))) ≤ (a0.size : Int) then (some (a0.extract 0 (t101 : Int).toNat, a0.extract ((wrap64 (t101 + (a1.size : Int))) : Int).toNat a0.size, true)) else (none)) else (none)) else (none)) else (none)) else (some (a0, (⟨#[]⟩ : ByteArray), false)))) = some (r1, r2, r3) := h
 clear h
 replace H := Option.bind_eq_some_iff.mp H
 obtain ⟨t101, A30, H⟩ := H
 replace H : (if t101 ≥ 0 then (if 0 ≤ t101 then (if t101 ≤ (a0.size : Int) then (if 0 ≤ (wrap64 (t101 + (a1.size : Int))) then (if (wrap64 (t101 + (a1.size : Int))) ≤ (a0.size : Int) then (some (a0.extract 0 (t101 : Int).toNat, a0.extract ((wrap64 (t101 + (a1.size : Int))) : Int).toNat a0.size, true)) else (none)) else (none)) else (none)) else (none)) else (some (a0, (⟨#[]⟩ : ByteArray), false))) = some (r1, r2, r3) := H
 have A3 := Aside0.mk A30
 clear A30
 by_cases c4 : t101 ≥ 0
 ·
  rw [if_pos c4] at H
  have c4b0 : decide (0 ≤ t101) = true := decide_eq_true c4
  clear c4
  by_cases c5 : 0 ≤ t101
  ·
   rw [if_pos c5] at H
   have c5b0 := eq_true c5
   have c5b1 : decide (0 ≤ t101) = true := decide_eq_true c5
   clear c5
   by_cases c6 : t101 ≤ (a0.size : Int)
   ·
    rw [if_pos c6] at H
    have c6b0 := eq_true c6
    have c6b1 : decide (t101 ≤ (a0.size : Int)) = true := decide_eq_true c6
    clear c6
    obtain ⟨ji7, hji7⟩ : ∃ j_ : Int, (wrap64 (t101 + (a1.size : Int))) = j_ := ⟨_, rfl⟩
    replace H : (if 0 ≤ (ji7) then (if (ji7) ≤ (a0.size : Int) then (some (a0.extract 0 (t101 : Int).toNat, a0.extract ((ji7) : Int).toNat a0.size, true)) else (none)) else (none)) = some (r1, r2, r3) := by first | (rw [hji7] at H; exact H) | (simp only [hji7] at H ⊢; exact H)
    (try rw [hji7] at A3)
    have hji7w : (IntKind.i64.wrap (t101 + (a1.size : Int))) = ji7 := (i64_w _).trans hji7
    by_cases c8 : 0 ≤ (ji7)
    ·
     rw [if_pos c8] at H
     have c8b0 := eq_true c8
     have c8b1 : decide (0 ≤ (ji7)) = true := decide_eq_true c8
     clear c8
     by_cases c9 : (ji7) ≤ (a0.size : Int)
     ·
      rw [if_pos c9] at H
      have c9b0 := eq_true c9
      have c9b1 : decide ((ji7) ≤ (a0.size : Int)) = true := decide_eq_true c9
      clear c9
      simp only [Option.some.injEq, Prod.mk.injEq] at H
      obtain ⟨rfl, rfl, rfl⟩ := H
      go_enter Tryz.func154, Tryz.ntmps154
      go_wp2_with (first | (go_at_call 155; (with_reducible refine (Hand.stringslite_Index.calls a0 a1 t101 _ A3.out).mono ?_); rintro e w' ⟨rfl, ⟨nd, rfl⟩⟩; (try first | exact ⟨rfl, _, World.drewN_drewN _ _ _⟩ | exact ⟨rfl, _, Eq.trans (World.drewN_drewN _ _ _) (congrArg (World.drewN _) (Nat.add_assoc _ _ _))⟩)))
      repeat (go_quiet (first | (go_at_call 155; (with_reducible refine (Hand.stringslite_Index.calls a0 a1 t101 _ A3.out).mono ?_); rintro e w' ⟨rfl, ⟨nd, rfl⟩⟩; (try first | exact ⟨rfl, _, World.drewN_drewN _ _ _⟩ | exact ⟨rfl, _, Eq.trans (World.drewN_drewN _ _ _) (congrArg (World.drewN _) (Nat.add_assoc _ _ _))⟩))); try go_wp2_with (first | (go_at_call 155; (with_reducible refine (Hand.stringslite_Index.calls a0 a1 t101 _ A3.out).mono ?_); rintro e w' ⟨rfl, ⟨nd, rfl⟩⟩; (try first | exact ⟨rfl, _, World.drewN_drewN _ _ _⟩ | exact ⟨rfl, _, Eq.trans (World.drewN_drewN _ _ _) (congrArg (World.drewN _) (Nat.add_assoc _ _ _))⟩))))
      go_ret3
      exact ⟨by first | rfl | (simp; done) | (simp only [← hji7] <;> (first | rfl | simp)) | (simp [*]; done), by repeat (first | exact Drawn0.refl _ | apply Drawn0.step)⟩
     ·
      rw [if_neg c9] at H
      exact absurd H (by simp)
    ·
     rw [if_neg c8] at H
     exact absurd H (by simp)
   ·
    rw [if_neg c6] at H
    exact absurd H (by simp)
  ·
   rw [if_neg c5] at H
   exact absurd H (by simp)
 ·
  rw [if_neg c4] at H
  have c4b0 : decide (0 ≤ t101) = false := decide_eq_false c4
  clear c4
  simp only [Option.some.injEq, Prod.mk.injEq] at H
  obtain ⟨rfl, rfl, rfl⟩ := H
  go_enter Tryz.func154, Tryz.ntmps154
  go_wp2_with (first | (go_at_call 155; (with_reducible refine (Hand.stringslite_Index.calls a0 a1 t101 _ A3.out).mono ?_); rintro e w' ⟨rfl, ⟨nd, rfl⟩⟩; (try first | exact ⟨rfl, _, World.drewN_drewN _ _ _⟩ | exact ⟨rfl, _, Eq.trans (World.drewN_drewN _ _ _) (congrArg (World.drewN _) (Nat.add_assoc _ _ _))⟩)))
  repeat (go_quiet (first | (go_at_call 155; (with_reducible refine (Hand.stringslite_Index.calls a0 a1 t101 _ A3.out).mono ?_); rintro e w' ⟨rfl, ⟨nd, rfl⟩⟩; (try first | exact ⟨rfl, _, World.drewN_drewN _ _ _⟩ | exact ⟨rfl, _, Eq.trans (World.drewN_drewN _ _ _) (congrArg (World.drewN _) (Nat.add_assoc _ _ _))⟩))); try go_wp2_with (first | (go_at_call 155; (with_reducible refine (Hand.stringslite_Index.calls a0 a1 t101 _ A3.out).mono ?_); rintro e w' ⟨rfl, ⟨nd, rfl⟩⟩; (try first | exact ⟨rfl, _, World.drewN_drewN _ _ _⟩ | exact ⟨rfl, _, Eq.trans (World.drewN_drewN _ _ _) (congrArg (World.drewN _) (Nat.add_assoc _ _ _))⟩))))
  go_ret3
  exact ⟨by first | rfl | (simp; done) | (simp [*]; done), by repeat (first | exact Drawn0.refl _ | apply Drawn0.step)⟩
def strings_Cut.f (a0 : ByteArray) (a1 : ByteArray) : Option (ByteArray × ByteArray × Bool) := (stringslite_Cut.f a0 a1).bind fun bt102 => (some (bt102.1, bt102.2.1, bt102.2.2))
theorem strings_Cut.calls (a0 : ByteArray) (a1 : ByteArray) (r1 : ByteArray) (r2 : ByteArray) (r3 : Bool) (w : World) (h : strings_Cut.f a0 a1 = some (r1, r2, r3)) :
  Calls Tryz.prog 153 #[.string a0, .string a1] w fun e w' => e = .returned (.tuple #[.string r1, .string r2, .bool r3]) ∧ Drawn0 w w' := by
 have H : ((stringslite_Cut.f a0 a1).bind fun bt102 => (some (bt102.1, bt102.2.1, bt102.2.2))) = some (r1, r2, r3) := h
 clear h
 replace H := Option.bind_eq_some_iff.mp H
 obtain ⟨⟨t102, t103, t104⟩, A30, H⟩ := H
 replace H : (some (t102, t103, t104)) = some (r1, r2, r3) := H
 have A3 := Aside0.mk A30
 clear A30
 simp only [Option.some.injEq, Prod.mk.injEq] at H
 obtain ⟨rfl, rfl, rfl⟩ := H
 go_enter Tryz.func153, Tryz.ntmps153
 go_wp2_with (first | ((with_reducible refine gate_callee (f := 154) rfl ?_); refine goesL_ (some 9) rfl rfl Tryz.func154 (by kernel_rfl) rfl #[.string a0, .string a1] rfl (by (try simp only [List.map_toArray, List.map_cons, List.map_nil]); first | done | rfl | (simp only [List.length_drop, List.length_take]; rfl)) ?_; (with_reducible refine (stringslite_Cut.calls a0 a1 t102 t103 t104 _ A3.out).mono ?_); rintro e w' ⟨rfl, ⟨nd, rfl⟩⟩; refine ⟨_, rfl, ?_⟩))
 go_ret3
 exact ⟨by first | rfl | (simp; done) | (simp [*]; done), by repeat (first | exact Drawn0.refl _ | apply Drawn0.step)⟩
mutual
def content_word.j0 : Nat → ByteArray → Bool → Option (Bool)
 | 0, _, _ => none
 | k + 1, x0, x11 => if x11 = true then (some false) else (content_word.l0 k x0 (x0.size : Int) 0)
def content_word.l0 : Nat → ByteArray → Int → Int → Option (Bool)
 | 0, _, _, _ => none
 | k + 1, x0, x13, x14 => if x14 < x13 then (if 0 ≤ x14 then (if x14 < (x0.size : Int) then (if (bt x0 x14) < 65 then (if (bt x0 x14) < 48 then (some false) else (if (bt x0 x14) > 57 then (some false) else (content_word.l0 k x0 x13 (wrap64 (x14 + 1))))) else (if (bt x0 x14) > 90 then (if (bt x0 x14) < 48 then (some false) else (if (bt x0 x14) > 57 then (some false) else (content_word.l0 k x0 x13 (wrap64 (x14 + 1))))) else (content_word.l0 k x0 x13 (wrap64 (x14 + 1))))) else (none)) else (none)) else (some true)
end
def content_word.f (k : Nat) (a0 : ByteArray) : Option (Bool) := if (a0.size : Int) < 1 then (content_word.j0 k a0 true) else (content_word.j0 k a0 (decide ((a0.size : Int) > 8)))
theorem content_word.mono_l : ∀ k, (∀ y0 y1, LeO (content_word.j0 k y0 y1) (content_word.j0 (k + 1) y0 y1)) ∧ (∀ y0 y1 y2, LeO (content_word.l0 k y0 y1 y2) (content_word.l0 (k + 1) y0 y1 y2))
 | 0 => ⟨fun _ _ r h => by simp [content_word.j0] at h, fun _ _ _ r h => by simp [content_word.l0] at h⟩
 | k + 1 => by
  obtain ⟨ih0, ih1⟩ := content_word.mono_l k
  refine ⟨?_, ?_⟩
  ·
   intro y0 y1
   unfold content_word.j0
   repeat' first
   | (with_reducible exact ih0 _ _)
   | (with_reducible exact ih1 _ _ _)
   | (with_reducible exact LeO.refl _)
   | (with_reducible exact LeO.none _)
   | (with_reducible refine LeO.ite ?_ ?_)
   | (with_reducible refine LeO.bind ?_ (fun _ => ?_))
   | exact ih0 _ _
   | exact ih1 _ _ _
   | exact LeO.none _
   | refine LeO.ite ?_ ?_
   | refine LeO.bind ?_ (fun _ => ?_)
  ·
   intro y0 y1 y2
   unfold content_word.l0
   repeat' first
   | (with_reducible exact ih0 _ _)
   | (with_reducible exact ih1 _ _ _)
   | (with_reducible exact LeO.refl _)
   | (with_reducible exact LeO.none _)
   | (with_reducible refine LeO.ite ?_ ?_)
   | (with_reducible refine LeO.bind ?_ (fun _ => ?_))
   | exact ih0 _ _
   | exact ih1 _ _ _
   | exact LeO.none _
   | refine LeO.ite ?_ ?_
   | refine LeO.bind ?_ (fun _ => ?_)
theorem content_word.mono : ∀ a0 k, LeO (content_word.f k a0) (content_word.f (k + 1) a0) := by
 intro a0 k
 obtain ⟨ih0, ih1⟩ := content_word.mono_l k
 unfold content_word.f
 repeat' first
  | (with_reducible exact ih0 _ _)
  | (with_reducible exact ih1 _ _ _)
  | (with_reducible exact LeO.refl _)
  | (with_reducible exact LeO.none _)
  | (with_reducible refine LeO.ite ?_ ?_)
  | (with_reducible refine LeO.bind ?_ (fun _ => ?_))
  | exact ih0 _ _
  | exact ih1 _ _ _
  | exact LeO.none _
  | refine LeO.ite ?_ ?_
  | refine LeO.bind ?_ (fun _ => ?_)
theorem content_word.calls (k : Nat) (a0 : ByteArray) (r : Bool) (w : World) (h : content_word.f k a0 = some r) :
  Calls Tryz.prog 152 #[.string a0] w fun e w' => e = .returned (.bool r) ∧ Drawn0 w w' := by
 have H : (if (a0.size : Int) < 1 then (content_word.j0 k a0 true) else (content_word.j0 k a0 (decide ((a0.size : Int) > 8)))) = some r := h
 clear h
 have HC2 := Aside0.mk H
 clear H
 go_enter Tryz.func152, Tryz.ntmps152
 go_upto_region 1 with (fail)
 go_cut [11] (fun v11 wc => ∃ (kq : Nat) (x11_1 : Bool), v11 = .bool x11_1 ∧ Aside0 (content_word.j0 kq a0 x11_1 = some r) ∧ Aside0 (kq ≤ k) ∧ Drawn0 w wc)
 case first =>
  have H := HC2.out
  clear HC2
  by_cases c3 : (a0.size : Int) < 1
  ·
   rw [if_pos c3] at H
   have c3b0 : decide ((a0.size : Int) < 1) = true := decide_eq_true c3
   have c3b1 : decide (a0.size < 1) = true := decide_eq_true (by omega)
   clear c3
   (first | rw [c3b0] | (simp only [i64_w, i32_w]; rw [c3b0]) | skip)
   have H' := Aside0.mk H
   clear H
   go_wp2
   go_meet
   case rel => exact ⟨_, (true), (by first | rfl | (simp; done) | (simp [*]; done)), H', ⟨by first | omega | exact Nat.le_refl _⟩, by repeat (first | exact Drawn0.refl _ | apply Drawn0.step)⟩
  ·
   rw [if_neg c3] at H
   have c3b0 : decide ((a0.size : Int) < 1) = false := decide_eq_false c3
   have c3b1 : decide (a0.size < 1) = false := decide_eq_false (by omega)
   clear c3
   (first | rw [c3b0] | (simp only [i64_w, i32_w]; rw [c3b0]) | skip)
   have H' := Aside0.mk H
   clear H
   go_wp2
   go_meet
   case rel => exact ⟨_, (decide ((a0.size : Int) > 8)), (by first | rfl | (simp; done) | (simp [*]; done)), H', ⟨by first | omega | exact Nat.le_refl _⟩, by repeat (first | exact Drawn0.refl _ | apply Drawn0.step)⟩
 case rest =>
  clear HC2
  try clear c1
  try clear p2
  try clear c3
  try clear c3b0
  try clear c3b1
  obtain ⟨kq, x11_1, rfl, HA, HJ1, ⟨mc1, rfl⟩⟩ := hcut
  cases kq with
  | zero => exact absurd HA.out (by simp [content_word.j0])
  | succ kj1 =>
   have H := HA.out
   clear HA
   simp only [content_word.j0] at H
   by_cases c4 : x11_1 = true
   ·
    subst c4
    have H1 : (some false) = some r := by rw [if_pos rfl] at H; exact H
    clear H
    have H := H1
    clear H1
    obtain rfl := Option.some.inj H
    go_wp2
    go_ret
    exact ⟨by first | rfl | (simp; done) | (simp [*]; done), by repeat (first | exact Drawn0.refl _ | apply Drawn0.step)⟩
   ·
    replace c4 := Bool.eq_false_iff.mpr c4
    subst c4
    have H1 : (content_word.l0 kj1 a0 (a0.size : Int) 0) = some r := by rw [if_neg (show ¬ (false = true) by decide)] at H; exact H
    clear H
    have H := H1
    clear H1
    have H' := Aside0.mk H
    clear H
    go_wp2
    go_loopg [14] kj1 (fun kq v14 w' => ∃ (x14_2 : Int), v14 = .int .i64 x14_2 ∧ Aside0 (content_word.l0 kq a0 (a0.size : Int) x14_2 = some r) ∧ Aside0 (kq ≤ kj1) ∧ Drawn0 w w')
    case atStart => exact ⟨(0), (by first | rfl | (simp; done) | (simp [*]; done)), H', ⟨Nat.le_refl _⟩, by repeat (first | exact Drawn0.refl _ | apply Drawn0.step)⟩
    case round =>
     clear H'
     try clear c1
     try clear p2
     try clear c3
     try clear c3b0
     try clear c3b1
     try clear c4
     try clear p2
     obtain ⟨x14_2, rfl, HA, HK2, ⟨m2, rfl⟩⟩ := hrel
     cases gk with
     | zero => exact absurd HA.out (by simp [content_word.l0])
     | succ k2 =>
      have H := HA.out
      clear HA
      simp only [content_word.l0] at H
      by_cases c5 : x14_2 < (a0.size : Int)
      ·
       rw [if_pos c5] at H
       have c5b0 : decide (x14_2 < (a0.size : Int)) = true := decide_eq_true c5
       clear c5
       by_cases c6 : 0 ≤ x14_2
       ·
        rw [if_pos c6] at H
        have c6b0 : decide (0 ≤ x14_2) = true := decide_eq_true c6
        clear c6
        by_cases c7 : x14_2 < (a0.size : Int)
        ·
         rw [if_pos c7] at H
         have c7b0 : decide (x14_2 < (a0.size : Int)) = true := decide_eq_true c7
         clear c7
         by_cases c9 : (bt a0 x14_2) < 65
         ·
          rw [if_pos c9] at H
          have c9b0 : decide ((bt a0 x14_2) < 65) = true := decide_eq_true c9
          clear c9
          by_cases c11 : (bt a0 x14_2) < 48
          ·
           rw [if_pos c11] at H
           have c11b0 : decide ((bt a0 x14_2) < 48) = true := decide_eq_true c11
           clear c11
           obtain rfl := Option.some.inj H
           have p8 : 0 ≤ (x14_2 : Int) := of_decide_eq_true (by first | (with_reducible assumption) | assumption)
           have q8 : x14_2 < (a0.size : Int) := of_decide_eq_true (by first | (with_reducible assumption) | assumption)
           have hx8 := bt_at a0 x14_2
           replace p8 := eq_true p8
           replace q8 := eq_true q8
           have p10 : 0 ≤ (x14_2 : Int) := of_decide_eq_true (by first | (with_reducible assumption) | assumption)
           have q10 : x14_2 < (a0.size : Int) := of_decide_eq_true (by first | (with_reducible assumption) | assumption)
           have hx10 := bt_at a0 x14_2
           replace p10 := eq_true p10
           replace q10 := eq_true q10
           go_wp2
           go_ret
           exact ⟨by first | rfl | (simp; done) | (simp [*]; done), by repeat (first | exact Drawn0.refl _ | apply Drawn0.step)⟩
          ·
           rw [if_neg c11] at H
           have c11b0 : decide ((bt a0 x14_2) < 48) = false := decide_eq_false c11
           clear c11
           by_cases c13 : (bt a0 x14_2) > 57
           ·
            rw [if_pos c13] at H
            have c13b0 : decide (57 < (bt a0 x14_2)) = true := decide_eq_true c13
            clear c13
            obtain rfl := Option.some.inj H
            have p8 : 0 ≤ (x14_2 : Int) := of_decide_eq_true (by first | (with_reducible assumption) | assumption)
            have q8 : x14_2 < (a0.size : Int) := of_decide_eq_true (by first | (with_reducible assumption) | assumption)
            have hx8 := bt_at a0 x14_2
            replace p8 := eq_true p8
            replace q8 := eq_true q8
            have p10 : 0 ≤ (x14_2 : Int) := of_decide_eq_true (by first | (with_reducible assumption) | assumption)
            have q10 : x14_2 < (a0.size : Int) := of_decide_eq_true (by first | (with_reducible assumption) | assumption)
            have hx10 := bt_at a0 x14_2
            replace p10 := eq_true p10
            replace q10 := eq_true q10
            have p12 : 0 ≤ (x14_2 : Int) := of_decide_eq_true (by first | (with_reducible assumption) | assumption)
            have q12 : x14_2 < (a0.size : Int) := of_decide_eq_true (by first | (with_reducible assumption) | assumption)
            have hx12 := bt_at a0 x14_2
            replace p12 := eq_true p12
            replace q12 := eq_true q12
            go_wp2
            go_ret
            exact ⟨by first | rfl | (simp; done) | (simp [*]; done), by repeat (first | exact Drawn0.refl _ | apply Drawn0.step)⟩
           ·
            rw [if_neg c13] at H
            have c13b0 : decide (57 < (bt a0 x14_2)) = false := decide_eq_false c13
            clear c13
            have H' := Aside0.mk H
            clear H
            have p8 : 0 ≤ (x14_2 : Int) := of_decide_eq_true (by first | (with_reducible assumption) | assumption)
            have q8 : x14_2 < (a0.size : Int) := of_decide_eq_true (by first | (with_reducible assumption) | assumption)
            have hx8 := bt_at a0 x14_2
            replace p8 := eq_true p8
            replace q8 := eq_true q8
            have p10 : 0 ≤ (x14_2 : Int) := of_decide_eq_true (by first | (with_reducible assumption) | assumption)
            have q10 : x14_2 < (a0.size : Int) := of_decide_eq_true (by first | (with_reducible assumption) | assumption)
            have hx10 := bt_at a0 x14_2
            replace p10 := eq_true p10
            replace q10 := eq_true q10
            have p12 : 0 ≤ (x14_2 : Int) := of_decide_eq_true (by first | (with_reducible assumption) | assumption)
            have q12 : x14_2 < (a0.size : Int) := of_decide_eq_true (by first | (with_reducible assumption) | assumption)
            have hx12 := bt_at a0 x14_2
            replace p12 := eq_true p12
            replace q12 := eq_true q12
            go_wp2
            go_roundg k2
            case measure => have := HJ1.out; have := HK2.out; omega
            case rel => exact ⟨(wrap64 (x14_2 + 1)), (by first | rfl | (simp; done) | (simp [*]; done)), H', ⟨by have := HJ1.out; have := HK2.out; omega⟩, by repeat (first | exact Drawn0.refl _ | apply Drawn0.step)⟩
         ·
          rw [if_neg c9] at H
          have c9b0 : decide ((bt a0 x14_2) < 65) = false := decide_eq_false c9
          clear c9
          by_cases c15 : (bt a0 x14_2) > 90
          ·
           rw [if_pos c15] at H
           have c15b0 : decide (90 < (bt a0 x14_2)) = true := decide_eq_true c15
           clear c15
           by_cases c17 : (bt a0 x14_2) < 48
           ·
            rw [if_pos c17] at H
            have c17b0 : decide ((bt a0 x14_2) < 48) = true := decide_eq_true c17
            clear c17
            obtain rfl := Option.some.inj H
            have p8 : 0 ≤ (x14_2 : Int) := of_decide_eq_true (by first | (with_reducible assumption) | assumption)
            have q8 : x14_2 < (a0.size : Int) := of_decide_eq_true (by first | (with_reducible assumption) | assumption)
            have hx8 := bt_at a0 x14_2
            replace p8 := eq_true p8
            replace q8 := eq_true q8
            have p14 : 0 ≤ (x14_2 : Int) := of_decide_eq_true (by first | (with_reducible assumption) | assumption)
            have q14 : x14_2 < (a0.size : Int) := of_decide_eq_true (by first | (with_reducible assumption) | assumption)
            have hx14 := bt_at a0 x14_2
            replace p14 := eq_true p14
            replace q14 := eq_true q14
            have p16 : 0 ≤ (x14_2 : Int) := of_decide_eq_true (by first | (with_reducible assumption) | assumption)
            have q16 : x14_2 < (a0.size : Int) := of_decide_eq_true (by first | (with_reducible assumption) | assumption)
            have hx16 := bt_at a0 x14_2
            replace p16 := eq_true p16
            replace q16 := eq_true q16
            go_wp2
            go_ret
            exact ⟨by first | rfl | (simp; done) | (simp [*]; done), by repeat (first | exact Drawn0.refl _ | apply Drawn0.step)⟩
           ·
            rw [if_neg c17] at H
            have c17b0 : decide ((bt a0 x14_2) < 48) = false := decide_eq_false c17
            clear c17
            by_cases c19 : (bt a0 x14_2) > 57
            ·
             rw [if_pos c19] at H
             have c19b0 : decide (57 < (bt a0 x14_2)) = true := decide_eq_true c19
             clear c19
             obtain rfl := Option.some.inj H
             have p8 : 0 ≤ (x14_2 : Int) := of_decide_eq_true (by first | (with_reducible assumption) | assumption)
             have q8 : x14_2 < (a0.size : Int) := of_decide_eq_true (by first | (with_reducible assumption) | assumption)
             have hx8 := bt_at a0 x14_2
             replace p8 := eq_true p8
             replace q8 := eq_true q8
             have p14 : 0 ≤ (x14_2 : Int) := of_decide_eq_true (by first | (with_reducible assumption) | assumption)
             have q14 : x14_2 < (a0.size : Int) := of_decide_eq_true (by first | (with_reducible assumption) | assumption)
             have hx14 := bt_at a0 x14_2
             replace p14 := eq_true p14
             replace q14 := eq_true q14
             have p16 : 0 ≤ (x14_2 : Int) := of_decide_eq_true (by first | (with_reducible assumption) | assumption)
             have q16 : x14_2 < (a0.size : Int) := of_decide_eq_true (by first | (with_reducible assumption) | assumption)
             have hx16 := bt_at a0 x14_2
             replace p16 := eq_true p16
             replace q16 := eq_true q16
             have p18 : 0 ≤ (x14_2 : Int) := of_decide_eq_true (by first | (with_reducible assumption) | assumption)
             have q18 : x14_2 < (a0.size : Int) := of_decide_eq_true (by first | (with_reducible assumption) | assumption)
             have hx18 := bt_at a0 x14_2
             replace p18 := eq_true p18
             replace q18 := eq_true q18
             go_wp2
             go_ret
             exact ⟨by first | rfl | (simp; done) | (simp [*]; done), by repeat (first | exact Drawn0.refl _ | apply Drawn0.step)⟩
            ·
             rw [if_neg c19] at H
             have c19b0 : decide (57 < (bt a0 x14_2)) = false := decide_eq_false c19
             clear c19
             have H' := Aside0.mk H
             clear H
             have p8 : 0 ≤ (x14_2 : Int) := of_decide_eq_true (by first | (with_reducible assumption) | assumption)
             have q8 : x14_2 < (a0.size : Int) := of_decide_eq_true (by first | (with_reducible assumption) | assumption)
             have hx8 := bt_at a0 x14_2
             replace p8 := eq_true p8
             replace q8 := eq_true q8
             have p14 : 0 ≤ (x14_2 : Int) := of_decide_eq_true (by first | (with_reducible assumption) | assumption)
             have q14 : x14_2 < (a0.size : Int) := of_decide_eq_true (by first | (with_reducible assumption) | assumption)
             have hx14 := bt_at a0 x14_2
             replace p14 := eq_true p14
             replace q14 := eq_true q14
             have p16 : 0 ≤ (x14_2 : Int) := of_decide_eq_true (by first | (with_reducible assumption) | assumption)
             have q16 : x14_2 < (a0.size : Int) := of_decide_eq_true (by first | (with_reducible assumption) | assumption)
             have hx16 := bt_at a0 x14_2
             replace p16 := eq_true p16
             replace q16 := eq_true q16
             have p18 : 0 ≤ (x14_2 : Int) := of_decide_eq_true (by first | (with_reducible assumption) | assumption)
             have q18 : x14_2 < (a0.size : Int) := of_decide_eq_true (by first | (with_reducible assumption) | assumption)
             have hx18 := bt_at a0 x14_2
             replace p18 := eq_true p18
             replace q18 := eq_true q18
             go_wp2
             go_roundg k2
             case measure => have := HJ1.out; have := HK2.out; omega
             case rel => exact ⟨(wrap64 (x14_2 + 1)), (by first | rfl | (simp; done) | (simp [*]; done)), H', ⟨by have := HJ1.out; have := HK2.out; omega⟩, by repeat (first | exact Drawn0.refl _ | apply Drawn0.step)⟩
          ·
           rw [if_neg c15] at H
           have c15b0 : decide (90 < (bt a0 x14_2)) = false := decide_eq_false c15
           clear c15
           have H' := Aside0.mk H
           clear H
           have p8 : 0 ≤ (x14_2 : Int) := of_decide_eq_true (by first | (with_reducible assumption) | assumption)
           have q8 : x14_2 < (a0.size : Int) := of_decide_eq_true (by first | (with_reducible assumption) | assumption)
           have hx8 := bt_at a0 x14_2
           replace p8 := eq_true p8
           replace q8 := eq_true q8
           have p14 : 0 ≤ (x14_2 : Int) := of_decide_eq_true (by first | (with_reducible assumption) | assumption)
           have q14 : x14_2 < (a0.size : Int) := of_decide_eq_true (by first | (with_reducible assumption) | assumption)
           have hx14 := bt_at a0 x14_2
           replace p14 := eq_true p14
           replace q14 := eq_true q14
           go_wp2
           go_roundg k2
           case measure => have := HJ1.out; have := HK2.out; omega
           case rel => exact ⟨(wrap64 (x14_2 + 1)), (by first | rfl | (simp; done) | (simp [*]; done)), H', ⟨by have := HJ1.out; have := HK2.out; omega⟩, by repeat (first | exact Drawn0.refl _ | apply Drawn0.step)⟩
        ·
         rw [if_neg c7] at H
         exact absurd H (by simp)
       ·
        rw [if_neg c6] at H
        exact absurd H (by simp)
      ·
       rw [if_neg c5] at H
       have c5b0 : decide (x14_2 < (a0.size : Int)) = false := decide_eq_false c5
       clear c5
       obtain rfl := Option.some.inj H
       go_wp2
       go_ret
       exact ⟨by first | rfl | (simp; done) | (simp [*]; done), by repeat (first | exact Drawn0.refl _ | apply Drawn0.step)⟩
end Go.Proofs.YtnmfmiemkcaocaaGreat.QCutA
namespace Go.Proofs.YtnmfmiemkcaocaaGreat.Hand
open Go.RowKit Go.Proofs.YtnmfmiemkcaocaaGreatW.PrintWords Go.Proofs.YtnmfmiemkcaocaaGreatW.PrintLast Go.Proofs.YtnmfmiemkcaocaaGreatW.PrintMore Go.Proofs.YtnmfmiemkcaocaaGreat.QCutA
set_option linter.unusedVariables false
set_option linter.unusedSimpArgs false
abbrev pt : ByteArray := ⟨#[46]⟩
def segments.l0 : Nat → Int → List ByteArray → ByteArray → Bool → Option (List ByteArray × Int)
 | 0, _, _, _, _ => none
 | k + 1, n, L, rest, more => if more = true then (if n = 5 then some (L, 0) else (strings_Cut.f rest pt).bind fun b => if 0 ≤ n then (if n < 5 then segments.l0 k (n + 1) (L.set n.toNat b.1) b.2.1 b.2.2 else none) else none) else some (L, n)
def noStr : ByteArray := ⟨#[]⟩
def segments.f (k : Nat) (s : ByteArray) : Option (List ByteArray × Int) := segments.l0 k 0 [noStr, noStr, noStr, noStr, noStr] s true
def Arr (w : World) (g : Nat) (a0 a1 a2 a3 a4 : ByteArray) : Prop := w.heap[g]? = some (.cells #[.string a0, .string a1, .string a2, .string a3, .string a4] 160 (0, 0))
section
variable {w : World} {g : Nat} {a0 a1 a2 a3 a4 : ByteArray} (h : Arr w g a0 a1 a2 a3 a4)
include h
theorem Arr.c0 : w.cell? ⟨g, 0, none⟩ = some (.string a0) := by unfold Arr at h; simp [World.cell?, h]
theorem Arr.c1 : w.cell? ⟨g, 1, none⟩ = some (.string a1) := by unfold Arr at h; simp [World.cell?, h]
theorem Arr.c2 : w.cell? ⟨g, 2, none⟩ = some (.string a2) := by unfold Arr at h; simp [World.cell?, h]
theorem Arr.c3 : w.cell? ⟨g, 3, none⟩ = some (.string a3) := by unfold Arr at h; simp [World.cell?, h]
theorem Arr.c4 : w.cell? ⟨g, 4, none⟩ = some (.string a4) := by unfold Arr at h; simp [World.cell?, h]
theorem Arr.fz (j : Nat) : w.frozen? ⟨g, j, none⟩ = false := by unfold Arr at h; simp [World.frozen?, h]
theorem Arr.far (g' j : Nat) (v : Value) (hne : g' ≠ g) : Arr (w.setCell ⟨g', j, none⟩ v) g a0 a1 a2 a3 a4 := by
 unfold Arr at h ⊢
 rw [Below.heap_setCell _ _ _ _ (fun e => hne e.symm)]
 exact h
theorem Arr.at_ (j : Nat) (v : Value) : (w.setCell ⟨g, j, none⟩ v).heap[g]? = some (.cells (#[.string a0, .string a1, .string a2, .string a3, .string a4].setIfInBounds j v) 160 (0, 0)) := by
 unfold Arr at h
 simp only [World.setCell, Array.getElem?_modify, if_true, h]
 rfl
theorem Arr.s0 (v : ByteArray) : Arr (w.setCell ⟨g, 0, none⟩ (.string v)) g v a1 a2 a3 a4 := h.at_ 0 _
theorem Arr.s1 (v : ByteArray) : Arr (w.setCell ⟨g, 1, none⟩ (.string v)) g a0 v a2 a3 a4 := h.at_ 1 _
theorem Arr.s2 (v : ByteArray) : Arr (w.setCell ⟨g, 2, none⟩ (.string v)) g a0 a1 v a3 a4 := h.at_ 2 _
theorem Arr.s3 (v : ByteArray) : Arr (w.setCell ⟨g, 3, none⟩ (.string v)) g a0 a1 a2 v a4 := h.at_ 3 _
theorem Arr.s4 (v : ByteArray) : Arr (w.setCell ⟨g, 4, none⟩ (.string v)) g a0 a1 a2 a3 v := h.at_ 4 _
theorem Arr.alloc (o : Obj) : Arr (w.alloc o) g a0 a1 a2 a3 a4 := by
 have hlt : g < w.heap.size := (Array.getElem?_eq_some_iff.1 h).1
 unfold Arr at h ⊢
 rw [Below.heap_alloc _ _ _ hlt]
 exact h
theorem Arr.drewN (n : Nat) : Arr (w.drewN n) g a0 a1 a2 a3 a4 := h
end
theorem Arr.new (w : World) (a0 a1 a2 a3 a4 : ByteArray) : Arr (w.alloc (.cells #[.string a0, .string a1, .string a2, .string a3, .string a4] 160)) w.heap.size a0 a1 a2 a3 a4 := heap_alloc_new w _
theorem alloc_size (w : World) (o : Obj) : (w.alloc o).heap.size = w.heap.size + 1 := by simp [World.alloc, -World.alloc_eq]
theorem five_set (L : List ByteArray) (a0 a1 a2 a3 a4 b : ByteArray) (m : Int) (h0 : 0 ≤ m) (h5 : m < 5) (hL : L = [a0, a1, a2, a3, a4]) : (m = 0 ∧ L.set m.toNat b = [b, a1, a2, a3, a4]) ∨ (m = 1 ∧ L.set m.toNat b = [a0, b, a2, a3, a4]) ∨ (m = 2 ∧ L.set m.toNat b = [a0, a1, b, a3, a4]) ∨ (m = 3 ∧ L.set m.toNat b = [a0, a1, a2, b, a4]) ∨ (m = 4 ∧ L.set m.toNat b = [a0, a1, a2, a3, b]) := by
 subst hL
 have : m = 0 ∨ m = 1 ∨ m = 2 ∨ m = 3 ∨ m = 4 := by omega
 rcases this with rfl | rfl | rfl | rfl | rfl
 ·
  exact Or.inl ⟨rfl, rfl⟩
 ·
  exact Or.inr (Or.inl ⟨rfl, rfl⟩)
 ·
  exact Or.inr (Or.inr (Or.inl ⟨rfl, rfl⟩))
 ·
  exact Or.inr (Or.inr (Or.inr (Or.inl ⟨rfl, rfl⟩)))
 ·
  exact Or.inr (Or.inr (Or.inr (Or.inr ⟨rfl, rfl⟩)))
theorem segments.calls (k : Nat) (s s0 s1 s2 s3 s4 : ByteArray) (n : Int) (w : World) (h : segments.f k s = some ([s0, s1, s2, s3, s4], n)) :
  Calls Tryz.prog 151 #[.string s] w fun e w' => e = .returned (.tuple #[.agg #[.string s0, .string s1, .string s2, .string s3, .string s4], .int .i64 n]) ∧ Below w.heap.size w w' := by
 unfold segments.f at h
 have H' := Aside0.mk h
 clear h
 have HB := Aside0.mk (Below.refl w.heap.size w)
 go_enter Tryz.func151, Tryz.ntmps151
 go_wp2
 have e0 : (⟨#[]⟩ : ByteArray) = noStr := rfl
 simp only [e0] at *
 clear e0
 go_loopg [5, 6, 7] k (fun kq v5 v6 v7 w' => ∃ (m : Int) (a0 a1 a2 a3 a4 rest : ByteArray) (more : Bool), v5 = .int .i64 m ∧ v6 = .string rest ∧ v7 = .bool more ∧ Aside0 (segments.l0 kq m [a0, a1, a2, a3, a4] rest more = some ([s0, s1, s2, s3, s4], n)) ∧ Aside0 (kq ≤ k) ∧
  Aside0 (Arr w' w.heap.size noStr noStr noStr noStr noStr) ∧ Aside0 (Arr w' (w.heap.size + 1) a0 a1 a2 a3 a4) ∧ Aside0 (Below w.heap.size w w'))
 case atStart =>
  refine ⟨0, noStr, noStr, noStr, noStr, noStr, s, true, rfl, rfl, rfl, H', ⟨Nat.le_refl _⟩, ⟨(Arr.new _ _ _ _ _ _).alloc _⟩, ⟨by rw [← alloc_size w (.cells #[.string noStr, .string noStr, .string noStr, .string noStr, .string noStr] 160)]; exact Arr.new _ _ _ _ _ _⟩, ⟨by repeat (first | exact HB.out | apply below_alloc)⟩⟩
 case round =>
  clear H' HB
  obtain ⟨m, a0, a1, a2, a3, a4, rest, more, rfl, rfl, rfl, HA, HK1, HC1, HC2, HB⟩ := hrel
  cases gk with
  | zero => exact absurd HA.out (by simp [segments.l0])
  | succ k1 =>
   have H := HA.out
   clear HA
   simp only [segments.l0] at H
   cases more with
   | false =>
    rw [if_neg (by decide)] at H
    simp only [Option.some.injEq, Prod.mk.injEq, List.cons.injEq, and_true] at H
    obtain ⟨⟨rfl, rfl, rfl, rfl, rfl⟩, rfl⟩ := H
    have x0 := HC2.out.c0
    have x1 := HC2.out.c1
    have x2 := HC2.out.c2
    have x3 := HC2.out.c3
    have x4 := HC2.out.c4
    have y0 := HC1.out.c0
    have y1 := HC1.out.c1
    have y2 := HC1.out.c2
    have y3 := HC1.out.c3
    have y4 := HC1.out.c4
    have z0 := HC1.out.fz 0
    have z1 := HC1.out.fz 1
    have z2 := HC1.out.fz 2
    have z3 := HC1.out.fz 3
    have z4 := HC1.out.fz 4
    go_wp2
    refine bodyPost_ret (results_ct rfl _ _ w.heap.size 160 #[.string a0, .string a1, .string a2, .string a3, .string a4] (0, 0) _ rfl (((((HC1.out.s0 a0).s1 a1).s2 a2).s3 a3).s4 a4) Tryz.underlying160 rfl (by kernel_rfl)) rfl ⟨rfl, ?_⟩
    exact below_set (below_set (below_set (below_set (below_set HB.out (Nat.le_refl _)) (Nat.le_refl _)) (Nat.le_refl _)) (Nat.le_refl _)) (Nat.le_refl _)
   | true =>
    rw [if_pos rfl] at H
    by_cases c5 : m = 5
    ·
     rw [if_pos c5] at H
     have c5b : (m == 5) = true := by simpa using c5
     simp only [Option.some.injEq, Prod.mk.injEq, List.cons.injEq, and_true] at H
     obtain ⟨⟨rfl, rfl, rfl, rfl, rfl⟩, rfl⟩ := H
     clear c5
     have x0 := HC2.out.c0
     have x1 := HC2.out.c1
     have x2 := HC2.out.c2
     have x3 := HC2.out.c3
     have x4 := HC2.out.c4
     have y0 := HC1.out.c0
     have y1 := HC1.out.c1
     have y2 := HC1.out.c2
     have y3 := HC1.out.c3
     have y4 := HC1.out.c4
     have z0 := HC1.out.fz 0
     have z1 := HC1.out.fz 1
     have z2 := HC1.out.fz 2
     have z3 := HC1.out.fz 3
     have z4 := HC1.out.fz 4
     go_wp2
     refine bodyPost_ret (results_ct rfl _ _ w.heap.size 160 #[.string a0, .string a1, .string a2, .string a3, .string a4] (0, 0) _ rfl (((((HC1.out.s0 a0).s1 a1).s2 a2).s3 a3).s4 a4) Tryz.underlying160 rfl (by kernel_rfl)) rfl ⟨rfl, ?_⟩
     exact below_set (below_set (below_set (below_set (below_set HB.out (Nat.le_refl _)) (Nat.le_refl _)) (Nat.le_refl _)) (Nat.le_refl _)) (Nat.le_refl _)
    ·
     rw [if_neg c5] at H
     have c5b : (m == 5) = false := by simpa using c5
     replace H := Option.bind_eq_some_iff.mp H
     obtain ⟨⟨b1, b2, b3⟩, hcut, H⟩ := H
     replace H : (if 0 ≤ m then (if m < 5 then segments.l0 k1 (m + 1) ([a0, a1, a2, a3, a4].set m.toNat b1) b2 b3 else none) else none) = some ([s0, s1, s2, s3, s4], n) := H
     have A3 := Aside0.mk hcut
     clear hcut
     by_cases h0 : 0 ≤ m
     ·
      rw [if_pos h0] at H
      by_cases h5 : m < 5
      ·
       rw [if_pos h5] at H
       rcases five_set _ a0 a1 a2 a3 a4 b1 m h0 h5 rfl with ⟨rfl, hs⟩ | ⟨rfl, hs⟩ | ⟨rfl, hs⟩ | ⟨rfl, hs⟩ | ⟨rfl, hs⟩
       ·
        rw [hs] at H
        have H' := Aside0.mk H
        have x0 := HC2.out.c0
        have z0 := HC2.out.fz 0
        clear H hs h0 h5 c5 c5b
        go_wp2_with (first | ((with_reducible refine gate_callee (f := 153) rfl ?_); refine goesL_ (some 16) rfl rfl Tryz.func153 (by kernel_rfl) rfl #[.string rest, .string pt] rfl (by (try simp only [List.map_toArray, List.map_cons, List.map_nil]); first | done | rfl) ?_; (with_reducible refine (strings_Cut.calls rest pt b1 b2 b3 _ A3.out).mono ?_); rintro e w' ⟨rfl, ⟨nd, rfl⟩⟩; refine ⟨_, rfl, ?_⟩))
        go_roundg k1
        case measure => have := HK1.out; omega
        case rel => exact ⟨_, _, _, _, _, _, _, _, rfl, rfl, rfl, H', ⟨by have := HK1.out; omega⟩, ⟨((HC1.out.drewN _).far _ _ _ (by omega))⟩, ⟨(HC2.out.drewN _).s0 _⟩, ⟨below_set (by repeat (first | exact HB.out | apply pw_below_drewN)) (by omega)⟩⟩
       ·
        rw [hs] at H
        have H' := Aside0.mk H
        have x0 := HC2.out.c1
        have z0 := HC2.out.fz 1
        clear H hs h0 h5 c5 c5b
        go_wp2_with (first | ((with_reducible refine gate_callee (f := 153) rfl ?_); refine goesL_ (some 16) rfl rfl Tryz.func153 (by kernel_rfl) rfl #[.string rest, .string pt] rfl (by (try simp only [List.map_toArray, List.map_cons, List.map_nil]); first | done | rfl) ?_; (with_reducible refine (strings_Cut.calls rest pt b1 b2 b3 _ A3.out).mono ?_); rintro e w' ⟨rfl, ⟨nd, rfl⟩⟩; refine ⟨_, rfl, ?_⟩))
        go_roundg k1
        case measure => have := HK1.out; omega
        case rel => exact ⟨_, _, _, _, _, _, _, _, rfl, rfl, rfl, H', ⟨by have := HK1.out; omega⟩, ⟨((HC1.out.drewN _).far _ _ _ (by omega))⟩, ⟨(HC2.out.drewN _).s1 _⟩, ⟨below_set (by repeat (first | exact HB.out | apply pw_below_drewN)) (by omega)⟩⟩
       ·
        rw [hs] at H
        have H' := Aside0.mk H
        have x0 := HC2.out.c2
        have z0 := HC2.out.fz 2
        clear H hs h0 h5 c5 c5b
        go_wp2_with (first | ((with_reducible refine gate_callee (f := 153) rfl ?_); refine goesL_ (some 16) rfl rfl Tryz.func153 (by kernel_rfl) rfl #[.string rest, .string pt] rfl (by (try simp only [List.map_toArray, List.map_cons, List.map_nil]); first | done | rfl) ?_; (with_reducible refine (strings_Cut.calls rest pt b1 b2 b3 _ A3.out).mono ?_); rintro e w' ⟨rfl, ⟨nd, rfl⟩⟩; refine ⟨_, rfl, ?_⟩))
        go_roundg k1
        case measure => have := HK1.out; omega
        case rel => exact ⟨_, _, _, _, _, _, _, _, rfl, rfl, rfl, H', ⟨by have := HK1.out; omega⟩, ⟨((HC1.out.drewN _).far _ _ _ (by omega))⟩, ⟨(HC2.out.drewN _).s2 _⟩, ⟨below_set (by repeat (first | exact HB.out | apply pw_below_drewN)) (by omega)⟩⟩
       ·
        rw [hs] at H
        have H' := Aside0.mk H
        have x0 := HC2.out.c3
        have z0 := HC2.out.fz 3
        clear H hs h0 h5 c5 c5b
        go_wp2_with (first | ((with_reducible refine gate_callee (f := 153) rfl ?_); refine goesL_ (some 16) rfl rfl Tryz.func153 (by kernel_rfl) rfl #[.string rest, .string pt] rfl (by (try simp only [List.map_toArray, List.map_cons, List.map_nil]); first | done | rfl) ?_; (with_reducible refine (strings_Cut.calls rest pt b1 b2 b3 _ A3.out).mono ?_); rintro e w' ⟨rfl, ⟨nd, rfl⟩⟩; refine ⟨_, rfl, ?_⟩))
        go_roundg k1
        case measure => have := HK1.out; omega
        case rel => exact ⟨_, _, _, _, _, _, _, _, rfl, rfl, rfl, H', ⟨by have := HK1.out; omega⟩, ⟨((HC1.out.drewN _).far _ _ _ (by omega))⟩, ⟨(HC2.out.drewN _).s3 _⟩, ⟨below_set (by repeat (first | exact HB.out | apply pw_below_drewN)) (by omega)⟩⟩
       ·
        rw [hs] at H
        have H' := Aside0.mk H
        have x0 := HC2.out.c4
        have z0 := HC2.out.fz 4
        clear H hs h0 h5 c5 c5b
        go_wp2_with (first | ((with_reducible refine gate_callee (f := 153) rfl ?_); refine goesL_ (some 16) rfl rfl Tryz.func153 (by kernel_rfl) rfl #[.string rest, .string pt] rfl (by (try simp only [List.map_toArray, List.map_cons, List.map_nil]); first | done | rfl) ?_; (with_reducible refine (strings_Cut.calls rest pt b1 b2 b3 _ A3.out).mono ?_); rintro e w' ⟨rfl, ⟨nd, rfl⟩⟩; refine ⟨_, rfl, ?_⟩))
        go_roundg k1
        case measure => have := HK1.out; omega
        case rel => exact ⟨_, _, _, _, _, _, _, _, rfl, rfl, rfl, H', ⟨by have := HK1.out; omega⟩, ⟨((HC1.out.drewN _).far _ _ _ (by omega))⟩, ⟨(HC2.out.drewN _).s4 _⟩, ⟨below_set (by repeat (first | exact HB.out | apply pw_below_drewN)) (by omega)⟩⟩
      ·
       rw [if_neg h5] at H
       cases H
     ·
      rw [if_neg h0] at H
      cases H
def content_Valid.l0 : Nat → List ByteArray → Int → Int → Option Bool
 | 0, _, _, _ => none
 | k + 1, L, n, i => if i < n then (if 0 ≤ i then (if i < 5 then (content_word.f k (L.getD i.toNat noStr)).bind fun t => (if t = true then content_Valid.l0 k L n (i + 1) else some false) else none) else none) else some (decide (0 < n))
def five (L : List ByteArray) : Option (ByteArray × ByteArray × ByteArray × ByteArray × ByteArray) := match L with
 | [a0, a1, a2, a3, a4] => some (a0, a1, a2, a3, a4)
 | _ => none
def content_Valid.f (k : Nat) (s : ByteArray) : Option Bool := if (s.size : Int) > 24 then some false else (segments.f k s).bind fun b => (five b.1).bind fun _ => content_Valid.l0 k b.1 b.2 0
theorem five_some {L : List ByteArray} {x : ByteArray × ByteArray × ByteArray × ByteArray × ByteArray} (h : five L = some x) : L = [x.1, x.2.1, x.2.2.1, x.2.2.2.1, x.2.2.2.2] := by
 unfold five at h
 split at h
 ·
  injection h with h
  subst h
  rfl
 ·
  cases h
theorem segments.mono_l : ∀ k n L rest more, LeO (segments.l0 k n L rest more) (segments.l0 (k + 1) n L rest more)
 | 0, _, _, _, _ => fun r h => by simp [segments.l0] at h
 | k + 1, n, L, rest, more => by
  have ih := segments.mono_l k
  rw [segments.l0, segments.l0]
  refine LeO.ite (LeO.ite (LeO.refl _) (LeO.bind (LeO.refl _) (fun _ => LeO.ite (LeO.ite (ih _ _ _ _) (LeO.refl _)) (LeO.refl _)))) (LeO.refl _)
theorem content_Valid.mono_l : ∀ k L n i, LeO (content_Valid.l0 k L n i) (content_Valid.l0 (k + 1) L n i)
 | 0, _, _, _ => fun r h => by simp [content_Valid.l0] at h
 | k + 1, L, n, i => by
  have ih := content_Valid.mono_l k
  rw [content_Valid.l0, content_Valid.l0]
  refine LeO.ite (LeO.ite (LeO.ite (LeO.bind (content_word.mono _ _) (fun _ => LeO.ite (ih _ _ _) (LeO.refl _))) (LeO.refl _)) (LeO.refl _)) (LeO.refl _)
theorem content_Valid.mono : ∀ a0 k, LeO (content_Valid.f k a0) (content_Valid.f (k + 1) a0) := by
 intro a0 k
 unfold content_Valid.f segments.f
 exact LeO.ite (LeO.refl _) (LeO.bind (segments.mono_l _ _ _ _ _) (fun _ => LeO.bind (LeO.refl _) (fun _ => content_Valid.mono_l _ _ _ _)))
theorem content_Valid.calls (k : Nat) (a0 : ByteArray) (r : Bool) (w : World) (h : content_Valid.f k a0 = some r) :
  Calls Tryz.prog 150 #[.string a0] w fun e w' => e = .returned (.bool r) ∧ Below w.heap.size w w' := by
 have H : (if (a0.size : Int) > 24 then some false else (segments.f k a0).bind fun b => (five b.1).bind fun _ => content_Valid.l0 k b.1 b.2 0) = some r := h
 clear h
 have HB := Aside0.mk (Below.refl w.heap.size w)
 by_cases c3 : (a0.size : Int) > 24
 ·
  rw [if_pos c3] at H
  have c3b0 : decide (24 < (a0.size : Int)) = true := decide_eq_true c3
  have c3b1 : decide (24 < a0.size) = true := decide_eq_true (by omega)
  clear c3
  obtain rfl := Option.some.inj H
  go_enter Tryz.func150, Tryz.ntmps150
  go_wp2
  go_ret
  exact ⟨rfl, HB.out⟩
 ·
  rw [if_neg c3] at H
  have c3b0 : decide (24 < (a0.size : Int)) = false := decide_eq_false c3
  have c3b1 : decide (24 < a0.size) = false := decide_eq_false (by omega)
  clear c3
  replace H := Option.bind_eq_some_iff.mp H
  obtain ⟨⟨L, n⟩, A30, H⟩ := H
  replace H := Option.bind_eq_some_iff.mp H
  obtain ⟨⟨b0, b1, b2, b3, b4⟩, hf, H⟩ := H
  replace H : content_Valid.l0 k L n 0 = some r := H
  have hL := five_some hf
  simp only at hL A30
  clear hf
  subst hL
  have A3 := Aside0.mk A30
  have H' := Aside0.mk H
  clear A30 H
  go_enter Tryz.func150, Tryz.ntmps150
  go_wp2_with (first | ((with_reducible refine gate_callee (f := 151) rfl ?_); refine goesL_ (some 11) rfl rfl Tryz.func151 (by kernel_rfl) rfl #[.string a0] rfl (by (try simp only [List.map_toArray, List.map_cons, List.map_nil]); first | done | rfl) ?_; (with_reducible refine (segments.calls k a0 b0 b1 b2 b3 b4 n _ A3.out).mono ?_); rintro e w1 ⟨rfl, hb⟩; refine ⟨_, rfl, ?_⟩; have n0_ := Aside0.mk (below_step (by repeat (first | exact HB.out | apply below_alloc | apply pw_below_drewN | apply below_drew1)) hb); clear HB; have HB := n0_; clear n0_ hb))
  go_loopg [15] k (fun kq v15 w' => ∃ (i : Int), v15 = .int .i64 i ∧ Aside0 (content_Valid.l0 kq [b0, b1, b2, b3, b4] n i = some r) ∧ Aside0 (kq ≤ k) ∧ Aside0 (Arr w' w1.heap.size b0 b1 b2 b3 b4) ∧ Aside0 (Below w.heap.size w w') ∧ Aside0 (w.heap.size ≤ w1.heap.size))
  case atStart => exact ⟨0, rfl, H', ⟨Nat.le_refl _⟩, ⟨Arr.new _ _ _ _ _ _⟩, ⟨by repeat (first | exact HB.out | apply below_alloc)⟩, ⟨HB.out.size⟩⟩
  case round =>
   clear H' HB
   obtain ⟨i, rfl, HA, HK1, HC, HB, HW⟩ := hrel
   cases gk with
   | zero => exact absurd HA.out (by simp [content_Valid.l0])
   | succ k1 =>
    have H := HA.out
    clear HA
    simp only [content_Valid.l0] at H
    by_cases c1 : i < n
    ·
     rw [if_pos c1] at H
     have c1b : decide (i < n) = true := decide_eq_true c1
     by_cases h0 : 0 ≤ i
     ·
      rw [if_pos h0] at H
      by_cases h5 : i < 5
      ·
       rw [if_pos h5] at H
       replace H := Option.bind_eq_some_iff.mp H
       obtain ⟨t, hw, H⟩ := H
       have hi : i = 0 ∨ i = 1 ∨ i = 2 ∨ i = 3 ∨ i = 4 := by omega
       clear c1 h0 h5
       rcases hi with rfl | rfl | rfl | rfl | rfl
       ·
        replace hw : content_word.f k1 b0 = some t := hw
        have A5 := Aside0.mk hw
        have x0 := HC.out.c0
        clear hw
        cases t with
        | true =>
         replace H : content_Valid.l0 k1 [b0, b1, b2, b3, b4] n 1 = some r := H
         have H' := Aside0.mk H
         clear H
         go_wp2_with (first | ((with_reducible refine gate_callee (f := 152) rfl ?_); refine goesL_ (some 21) rfl rfl Tryz.func152 (by kernel_rfl) rfl #[.string b0] rfl (by (try simp only [List.map_toArray, List.map_cons, List.map_nil]); first | done | rfl) ?_; (with_reducible refine (content_word.calls k1 b0 true _ A5.out).mono ?_); rintro e w' ⟨rfl, ⟨nd, rfl⟩⟩; refine ⟨_, rfl, ?_⟩))
         go_roundg k1
         case measure => have := HK1.out; omega
         case rel => exact ⟨_, rfl, H', ⟨by have := HK1.out; omega⟩, ⟨HC.out.drewN _⟩, ⟨by repeat (first | exact HB.out | apply pw_below_drewN)⟩, HW⟩
        | false =>
         replace H : some false = some r := H
         obtain rfl := Option.some.inj H
         go_wp2_with (first | ((with_reducible refine gate_callee (f := 152) rfl ?_); refine goesL_ (some 21) rfl rfl Tryz.func152 (by kernel_rfl) rfl #[.string b0] rfl (by (try simp only [List.map_toArray, List.map_cons, List.map_nil]); first | done | rfl) ?_; (with_reducible refine (content_word.calls k1 b0 false _ A5.out).mono ?_); rintro e w' ⟨rfl, ⟨nd, rfl⟩⟩; refine ⟨_, rfl, ?_⟩))
         go_ret
         exact ⟨rfl, by repeat (first | exact HB.out | apply pw_below_drewN)⟩
       ·
        replace hw : content_word.f k1 b1 = some t := hw
        have A5 := Aside0.mk hw
        have x0 := HC.out.c1
        clear hw
        cases t with
        | true =>
         replace H : content_Valid.l0 k1 [b0, b1, b2, b3, b4] n 2 = some r := H
         have H' := Aside0.mk H
         clear H
         go_wp2_with (first | ((with_reducible refine gate_callee (f := 152) rfl ?_); refine goesL_ (some 21) rfl rfl Tryz.func152 (by kernel_rfl) rfl #[.string b1] rfl (by (try simp only [List.map_toArray, List.map_cons, List.map_nil]); first | done | rfl) ?_; (with_reducible refine (content_word.calls k1 b1 true _ A5.out).mono ?_); rintro e w' ⟨rfl, ⟨nd, rfl⟩⟩; refine ⟨_, rfl, ?_⟩))
         go_roundg k1
         case measure => have := HK1.out; omega
         case rel => exact ⟨_, rfl, H', ⟨by have := HK1.out; omega⟩, ⟨HC.out.drewN _⟩, ⟨by repeat (first | exact HB.out | apply pw_below_drewN)⟩, HW⟩
        | false =>
         replace H : some false = some r := H
         obtain rfl := Option.some.inj H
         go_wp2_with (first | ((with_reducible refine gate_callee (f := 152) rfl ?_); refine goesL_ (some 21) rfl rfl Tryz.func152 (by kernel_rfl) rfl #[.string b1] rfl (by (try simp only [List.map_toArray, List.map_cons, List.map_nil]); first | done | rfl) ?_; (with_reducible refine (content_word.calls k1 b1 false _ A5.out).mono ?_); rintro e w' ⟨rfl, ⟨nd, rfl⟩⟩; refine ⟨_, rfl, ?_⟩))
         go_ret
         exact ⟨rfl, by repeat (first | exact HB.out | apply pw_below_drewN)⟩
       ·
        replace hw : content_word.f k1 b2 = some t := hw
        have A5 := Aside0.mk hw
        have x0 := HC.out.c2
        clear hw
        cases t with
        | true =>
         replace H : content_Valid.l0 k1 [b0, b1, b2, b3, b4] n 3 = some r := H
         have H' := Aside0.mk H
         clear H
         go_wp2_with (first | ((with_reducible refine gate_callee (f := 152) rfl ?_); refine goesL_ (some 21) rfl rfl Tryz.func152 (by kernel_rfl) rfl #[.string b2] rfl (by (try simp only [List.map_toArray, List.map_cons, List.map_nil]); first | done | rfl) ?_; (with_reducible refine (content_word.calls k1 b2 true _ A5.out).mono ?_); rintro e w' ⟨rfl, ⟨nd, rfl⟩⟩; refine ⟨_, rfl, ?_⟩))
         go_roundg k1
         case measure => have := HK1.out; omega
         case rel => exact ⟨_, rfl, H', ⟨by have := HK1.out; omega⟩, ⟨HC.out.drewN _⟩, ⟨by repeat (first | exact HB.out | apply pw_below_drewN)⟩, HW⟩
        | false =>
         replace H : some false = some r := H
         obtain rfl := Option.some.inj H
         go_wp2_with (first | ((with_reducible refine gate_callee (f := 152) rfl ?_); refine goesL_ (some 21) rfl rfl Tryz.func152 (by kernel_rfl) rfl #[.string b2] rfl (by (try simp only [List.map_toArray, List.map_cons, List.map_nil]); first | done | rfl) ?_; (with_reducible refine (content_word.calls k1 b2 false _ A5.out).mono ?_); rintro e w' ⟨rfl, ⟨nd, rfl⟩⟩; refine ⟨_, rfl, ?_⟩))
         go_ret
         exact ⟨rfl, by repeat (first | exact HB.out | apply pw_below_drewN)⟩
       ·
        replace hw : content_word.f k1 b3 = some t := hw
        have A5 := Aside0.mk hw
        have x0 := HC.out.c3
        clear hw
        cases t with
        | true =>
         replace H : content_Valid.l0 k1 [b0, b1, b2, b3, b4] n 4 = some r := H
         have H' := Aside0.mk H
         clear H
         go_wp2_with (first | ((with_reducible refine gate_callee (f := 152) rfl ?_); refine goesL_ (some 21) rfl rfl Tryz.func152 (by kernel_rfl) rfl #[.string b3] rfl (by (try simp only [List.map_toArray, List.map_cons, List.map_nil]); first | done | rfl) ?_; (with_reducible refine (content_word.calls k1 b3 true _ A5.out).mono ?_); rintro e w' ⟨rfl, ⟨nd, rfl⟩⟩; refine ⟨_, rfl, ?_⟩))
         go_roundg k1
         case measure => have := HK1.out; omega
         case rel => exact ⟨_, rfl, H', ⟨by have := HK1.out; omega⟩, ⟨HC.out.drewN _⟩, ⟨by repeat (first | exact HB.out | apply pw_below_drewN)⟩, HW⟩
        | false =>
         replace H : some false = some r := H
         obtain rfl := Option.some.inj H
         go_wp2_with (first | ((with_reducible refine gate_callee (f := 152) rfl ?_); refine goesL_ (some 21) rfl rfl Tryz.func152 (by kernel_rfl) rfl #[.string b3] rfl (by (try simp only [List.map_toArray, List.map_cons, List.map_nil]); first | done | rfl) ?_; (with_reducible refine (content_word.calls k1 b3 false _ A5.out).mono ?_); rintro e w' ⟨rfl, ⟨nd, rfl⟩⟩; refine ⟨_, rfl, ?_⟩))
         go_ret
         exact ⟨rfl, by repeat (first | exact HB.out | apply pw_below_drewN)⟩
       ·
        replace hw : content_word.f k1 b4 = some t := hw
        have A5 := Aside0.mk hw
        have x0 := HC.out.c4
        clear hw
        cases t with
        | true =>
         replace H : content_Valid.l0 k1 [b0, b1, b2, b3, b4] n 5 = some r := H
         have H' := Aside0.mk H
         clear H
         go_wp2_with (first | ((with_reducible refine gate_callee (f := 152) rfl ?_); refine goesL_ (some 21) rfl rfl Tryz.func152 (by kernel_rfl) rfl #[.string b4] rfl (by (try simp only [List.map_toArray, List.map_cons, List.map_nil]); first | done | rfl) ?_; (with_reducible refine (content_word.calls k1 b4 true _ A5.out).mono ?_); rintro e w' ⟨rfl, ⟨nd, rfl⟩⟩; refine ⟨_, rfl, ?_⟩))
         go_roundg k1
         case measure => have := HK1.out; omega
         case rel => exact ⟨_, rfl, H', ⟨by have := HK1.out; omega⟩, ⟨HC.out.drewN _⟩, ⟨by repeat (first | exact HB.out | apply pw_below_drewN)⟩, HW⟩
        | false =>
         replace H : some false = some r := H
         obtain rfl := Option.some.inj H
         go_wp2_with (first | ((with_reducible refine gate_callee (f := 152) rfl ?_); refine goesL_ (some 21) rfl rfl Tryz.func152 (by kernel_rfl) rfl #[.string b4] rfl (by (try simp only [List.map_toArray, List.map_cons, List.map_nil]); first | done | rfl) ?_; (with_reducible refine (content_word.calls k1 b4 false _ A5.out).mono ?_); rintro e w' ⟨rfl, ⟨nd, rfl⟩⟩; refine ⟨_, rfl, ?_⟩))
         go_ret
         exact ⟨rfl, by repeat (first | exact HB.out | apply pw_below_drewN)⟩
      ·
       rw [if_neg h5] at H
       cases H
     ·
      rw [if_neg h0] at H
      cases H
    ·
     rw [if_neg c1] at H
     have c1b : decide (i < n) = false := decide_eq_false c1
     clear c1
     obtain rfl := Option.some.inj H
     go_wp2
     go_ret
     exact ⟨by first | rfl | (simp; done), by repeat (first | exact HB.out | apply pw_below_drewN)⟩
end Go.Proofs.YtnmfmiemkcaocaaGreat.Hand
