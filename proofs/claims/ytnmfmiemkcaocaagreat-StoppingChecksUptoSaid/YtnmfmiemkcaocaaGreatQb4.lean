/- Parts of the proof, joined: RatB, GrA, GrB. No condition. -/
import Derived.Test.YtnmfmiemkcaocaaGreatQb3
set_option maxHeartbeats 8000000
set_option maxRecDepth 100000
namespace Go.Proofs.YtnmfmiemkcaocaaGreat.Hand
open Go.RowKit Go.Proofs.YtnmfmiemkcaocaaGreatW.PrintWords Go.Proofs.YtnmfmiemkcaocaaGreatW.PrintLast Go.Proofs.YtnmfmiemkcaocaaGreatW.PrintMore
set_option linter.unusedVariables false
set_option linter.unusedSimpArgs false
theorem ratio_Sign.run (s : Bool) (A B : Option Addr) (k c l d a b L1 L2 : Nat) (w : World) (hv : NA w (.slice A k c) a L1) (hu : NA w (.slice B l d) b L2) (hL : L1 + L2 ≤ 100000000) :
  Calls Tryz.prog 20 #[.agg #[.bool s, .slice A k c, .slice B l d]] w fun e w' => e = .returned (.int .i64 (cmpZ (pn s a b) 0)) ∧ Below w.heap.size w w' := by
 have H91 := Aside0.mk hv
 have H92 := Aside0.mk hu
 have HL := Aside0.mk hL
 have HB := Aside0.mk (Below.refl w.heap.size w)
 clear hv hu hL
 go_enter Tryz.func20, Tryz.ntmps20
 go_wp2_with (first | (go_at_call 42; (with_reducible refine (integer_Sign.run s2 _ _ _ n2 L1 _ H3.1.na (by have := HL.out; omega)).mono ?_); rintro e w9 ⟨rfl, hb⟩; replace H3 := As (H3.1.be hb); replace H4 := As (H4.1.be hb); replace B1 := Bb B1 hb; replace B3 := Bb B3 hb; replace B4 := Bb B4 hb; replace HB := Ob HB hb; clear hb) | ((with_reducible refine gate_store (t := 32) (p := 4) rfl ?_); refine Sto (t := 32) (p := 4) (by rfl) (.tmp 9) (by rfl) (by rfl) g4 #[.bool t2, .slice D2 l2 d2] (by rfl) (by first | rfl | (go_simp; done) | (go_simp; rfl)) B4 (by kernel_rfl) rfl (by kernel_rfl) ?_; intro w8 ho hB2; replace H3 := As (H3.1.o2 ho B4); replace H4 := As (H4.1.o2 ho B4); replace B1 := Oo B1 ho NE1_4; replace B3 := Oo B3 ho NE3_4; replace HB := Lo HB ho G4; replace B4 := hB2; clear ho hB2; (try clear cb3_0); have cb3_0 := Cl0 B3; (try clear cb3_1); have cb3_1 := Cl1 B3) | ((with_reducible refine gate_store (t := 32) (p := 3) rfl ?_); refine Sto (t := 32) (p := 3) (by rfl) (.tmp 8) (by rfl) (by rfl) g3 #[.bool s2, .slice A2 k2 c2] (by rfl) (by first | rfl | (go_simp; done) | (go_simp; rfl)) B3 (by kernel_rfl) rfl (by kernel_rfl) ?_; intro w7 ho hB2; replace H3 := As (H3.1.o2 ho B3); replace H4 := As (H4.1.o2 ho B3); replace B1 := Oo B1 ho NE1_3; replace B4 := Ou B4 ho NE3_4; replace HB := Lo HB ho G3; replace B3 := hB2; clear ho hB2) | ((with_reducible refine gate_dst (N := 4) rfl ?_); refine box_event (by rfl) (N := 4) (by rfl) (cs := #[.bool false, .slice none 0 0]) (t := 32) ?hr ?_; (case hr => first | (go_simp; done) | (go_simp; rfl)); intro g4 hgx w6 hbx hb; have B4 := As hbx; have NE1_4 := Nn B1 hgx; have NE3_4 := Nn B3 hgx; have G4 := Gg HB hgx; replace H3 := As (H3.1.be hb); replace H4 := As (H4.1.be hb); replace B1 := Bb B1 hb; replace B3 := Bb B3 hb; replace HB := Ob HB hb; clear hbx hb hgx) | ((with_reducible refine gate_dst (N := 3) rfl ?_); refine box_event (by rfl) (N := 3) (by rfl) (cs := #[.bool false, .slice none 0 0]) (t := 32) ?hr ?_; (case hr => first | (go_simp; done) | (go_simp; rfl)); intro g3 hgx w5 hbx hb; have B3 := As hbx; have NE1_3 := Nn B1 hgx; have G3 := Gg HB hgx; replace H3 := As (H3.1.be hb); replace H4 := As (H4.1.be hb); replace B1 := Bb B1 hb; replace HB := Ob HB hb; clear hbx hb hgx) | (go_at_call 39; (with_reducible refine (ratio_parts.run s _ _ _ _ _ _ a b L1 L2 _ (H91.1.be HB.1) (H92.1.be HB.1) (by have := HL.out; omega)).mono ?_); rintro e w2 ⟨s2, A2, k2, c2, t2, D2, l2, d2, n2, m2, rfl, hq2, hr2, hz2, hy2, hm2, hb⟩; have H3 := Aside0.mk hq2; have H4 := Aside0.mk hr2; have P2 := Aside0.mk (And.intro hz2 (And.intro hy2 hm2)); clear hq2 hr2 hz2 hy2 hm2; replace B1 := Bb B1 hb; replace HB := Ob HB hb; clear hb) | ((with_reducible refine gate_dst (N := 1) rfl ?_); refine box_event (by rfl) (N := 1) (by rfl) (cs := #[.bool s, .slice A k c, .slice B l d]) (t := 34) ?hr ?_; (case hr => first | (go_simp; done) | (go_simp; rfl)); intro g1 hgx w1 hbx hb; have B1 := As hbx; have G1 := Gg HB hgx; replace HB := Ob HB hb; clear hbx hb hgx; (try clear cb1_0); have cb1_0 := Cl0 B1; (try clear cb1_1); have cb1_1 := Cl1 B1; (try clear cb1_2); have cb1_2 := Cl2 B1))
 go_ret
 refine ⟨?_, HB.out⟩
 rw [← P2.out.1]
 rfl
theorem ratio_Cmp.run (s t : Bool) (A B D E : Option Addr) (k c l d m1 m2 p1 p2 a b x y L1 L2 L3 L4 : Nat) (w : World) (hv : NA w (.slice A k c) a L1) (hu : NA w (.slice B l d) b L2) (hx : NA w (.slice D m1 m2) x L3) (hy : NA w (.slice E p1 p2) y L4) (hL : L1 + L2 + L3 + L4 ≤ 40000000) :
  Calls Tryz.prog 19 #[.agg #[.bool s, .slice A k c, .slice B l d], .agg #[.bool t, .slice D m1 m2, .slice E p1 p2]] w fun e w' => e = .returned (.int .i64 (cmpZ (pn s a b * pd y) (pn t x y * pd b))) ∧ Below w.heap.size w w' := by
 have H91 := Aside0.mk hv
 have H92 := Aside0.mk hu
 have H93 := Aside0.mk hx
 have H94 := Aside0.mk hy
 have HL := Aside0.mk hL
 have HB := Aside0.mk (Below.refl w.heap.size w)
 clear hv hu hx hy hL
 go_enter Tryz.func19, Tryz.ntmps19
 go_wp2_with (first | ((with_reducible refine gate_store (t := 32) (p := 8) rfl ?_); refine Sto (t := 32) (p := 8) (by rfl) (.tmp 18) (by rfl) (by rfl) g8 #[.bool t10, .slice D10 l10 d10] (by rfl) (by first | rfl | (go_simp; done) | (go_simp; rfl)) B8 (by kernel_rfl) rfl (by kernel_rfl) ?_; intro w16 ho hB2; replace H4 := As (H4.1.o2 ho B8); replace H5 := As (H5.1.o2 ho B8); replace H11 := As (H11.1.o2 ho B8); replace H12 := As (H12.1.o2 ho B8); replace B2 := Oo B2 ho NE2_8; replace B3 := Oo B3 ho NE3_8; replace B5 := Oo B5 ho NE5_8; replace B6 := Oo B6 ho NE6_8; replace B7 := Oo B7 ho NE7_8; replace HB := Lo HB ho G8; replace B8 := hB2; clear ho hB2) | ((with_reducible refine gate_store (t := 32) (p := 7) rfl ?_); refine Sto (t := 32) (p := 7) (by rfl) (.tmp 17) (by rfl) (by rfl) g7 #[.bool s10, .slice A10 k10 c10] (by rfl) (by first | rfl | (go_simp; done) | (go_simp; rfl)) B7 (by kernel_rfl) rfl (by kernel_rfl) ?_; intro w15 ho hB2; replace H4 := As (H4.1.o2 ho B7); replace H5 := As (H5.1.o2 ho B7); replace H11 := As (H11.1.o2 ho B7); replace H12 := As (H12.1.o2 ho B7); replace B2 := Oo B2 ho NE2_7; replace B3 := Oo B3 ho NE3_7; replace B5 := Oo B5 ho NE5_7; replace B6 := Oo B6 ho NE6_7; replace B8 := Ou B8 ho NE7_8; replace HB := Lo HB ho G7; replace B7 := hB2; clear ho hB2) | ((with_reducible refine gate_dst (N := 8) rfl ?_); refine box_event (by rfl) (N := 8) (by rfl) (cs := #[.bool false, .slice none 0 0]) (t := 32) ?hr ?_; (case hr => first | (go_simp; done) | (go_simp; rfl)); intro g8 hgx w14 hbx hb; have B8 := As hbx; have NE2_8 := Nn B2 hgx; have NE3_8 := Nn B3 hgx; have NE5_8 := Nn B5 hgx; have NE6_8 := Nn B6 hgx; have NE7_8 := Nn B7 hgx; have G8 := Gg HB hgx; replace H4 := As (H4.1.be hb); replace H5 := As (H5.1.be hb); replace H11 := As (H11.1.be hb); replace H12 := As (H12.1.be hb); replace B2 := Bb B2 hb; replace B3 := Bb B3 hb; replace B5 := Bb B5 hb; replace B6 := Bb B6 hb; replace B7 := Bb B7 hb; replace HB := Ob HB hb; clear hbx hb hgx) | ((with_reducible refine gate_dst (N := 7) rfl ?_); refine box_event (by rfl) (N := 7) (by rfl) (cs := #[.bool false, .slice none 0 0]) (t := 32) ?hr ?_; (case hr => first | (go_simp; done) | (go_simp; rfl)); intro g7 hgx w13 hbx hb; have B7 := As hbx; have NE2_7 := Nn B2 hgx; have NE3_7 := Nn B3 hgx; have NE5_7 := Nn B5 hgx; have NE6_7 := Nn B6 hgx; have G7 := Gg HB hgx; replace H4 := As (H4.1.be hb); replace H5 := As (H5.1.be hb); replace H11 := As (H11.1.be hb); replace H12 := As (H12.1.be hb); replace B2 := Bb B2 hb; replace B3 := Bb B3 hb; replace B5 := Bb B5 hb; replace B6 := Bb B6 hb; replace HB := Ob HB hb; clear hbx hb hgx) | (go_at_call 39; (with_reducible refine (ratio_parts.run t _ _ _ _ _ _ x y L3 L4 _ (H93.1.be HB.1) (H94.1.be HB.1) (by have := HL.out; omega)).mono ?_); rintro e w10 ⟨s10, A10, k10, c10, t10, D10, l10, d10, n10, m10, rfl, hq10, hr10, hz10, hy10, hm10, hb⟩; have H11 := Aside0.mk hq10; have H12 := Aside0.mk hr10; have P10 := Aside0.mk (And.intro hz10 (And.intro hy10 hm10)); clear hq10 hr10 hz10 hy10 hm10; replace H4 := As (H4.1.be hb); replace H5 := As (H5.1.be hb); replace B2 := Bb B2 hb; replace B3 := Bb B3 hb; replace B5 := Bb B5 hb; replace B6 := Bb B6 hb; replace HB := Ob HB hb; clear hb) | ((with_reducible refine gate_store (t := 32) (p := 6) rfl ?_); refine Sto (t := 32) (p := 6) (by rfl) (.tmp 13) (by rfl) (by rfl) g6 #[.bool t3, .slice D3 l3 d3] (by rfl) (by first | rfl | (go_simp; done) | (go_simp; rfl)) B6 (by kernel_rfl) rfl (by kernel_rfl) ?_; intro w9 ho hB2; replace H4 := As (H4.1.o2 ho B6); replace H5 := As (H5.1.o2 ho B6); replace B2 := Oo B2 ho NE2_6; replace B3 := Oo B3 ho NE3_6; replace B5 := Oo B5 ho NE5_6; replace HB := Lo HB ho G6; replace B6 := hB2; clear ho hB2; (try clear cb3_0); have cb3_0 := Cl0 B3; (try clear cb3_1); have cb3_1 := Cl1 B3; (try clear cb3_2); have cb3_2 := Cl2 B3) | ((with_reducible refine gate_store (t := 32) (p := 5) rfl ?_); refine Sto (t := 32) (p := 5) (by rfl) (.tmp 12) (by rfl) (by rfl) g5 #[.bool s3, .slice A3 k3 c3] (by rfl) (by first | rfl | (go_simp; done) | (go_simp; rfl)) B5 (by kernel_rfl) rfl (by kernel_rfl) ?_; intro w8 ho hB2; replace H4 := As (H4.1.o2 ho B5); replace H5 := As (H5.1.o2 ho B5); replace B2 := Oo B2 ho NE2_5; replace B3 := Oo B3 ho NE3_5; replace B6 := Ou B6 ho NE5_6; replace HB := Lo HB ho G5; replace B5 := hB2; clear ho hB2) | ((with_reducible refine gate_dst (N := 6) rfl ?_); refine box_event (by rfl) (N := 6) (by rfl) (cs := #[.bool false, .slice none 0 0]) (t := 32) ?hr ?_; (case hr => first | (go_simp; done) | (go_simp; rfl)); intro g6 hgx w7 hbx hb; have B6 := As hbx; have NE2_6 := Nn B2 hgx; have NE3_6 := Nn B3 hgx; have NE5_6 := Nn B5 hgx; have G6 := Gg HB hgx; replace H4 := As (H4.1.be hb); replace H5 := As (H5.1.be hb); replace B2 := Bb B2 hb; replace B3 := Bb B3 hb; replace B5 := Bb B5 hb; replace HB := Ob HB hb; clear hbx hb hgx) | ((with_reducible refine gate_dst (N := 5) rfl ?_); refine box_event (by rfl) (N := 5) (by rfl) (cs := #[.bool false, .slice none 0 0]) (t := 32) ?hr ?_; (case hr => first | (go_simp; done) | (go_simp; rfl)); intro g5 hgx w6 hbx hb; have B5 := As hbx; have NE2_5 := Nn B2 hgx; have NE3_5 := Nn B3 hgx; have G5 := Gg HB hgx; replace H4 := As (H4.1.be hb); replace H5 := As (H5.1.be hb); replace B2 := Bb B2 hb; replace B3 := Bb B3 hb; replace HB := Ob HB hb; clear hbx hb hgx) | (go_at_call 39; (with_reducible refine (ratio_parts.run s _ _ _ _ _ _ a b L1 L2 _ (H91.1.be HB.1) (H92.1.be HB.1) (by have := HL.out; omega)).mono ?_); rintro e w3 ⟨s3, A3, k3, c3, t3, D3, l3, d3, n3, m3, rfl, hq3, hr3, hz3, hy3, hm3, hb⟩; have H4 := Aside0.mk hq3; have H5 := Aside0.mk hr3; have P3 := Aside0.mk (And.intro hz3 (And.intro hy3 hm3)); clear hq3 hr3 hz3 hy3 hm3; replace B2 := Bb B2 hb; replace B3 := Bb B3 hb; replace HB := Ob HB hb; clear hb) | ((with_reducible refine gate_dst (N := 3) rfl ?_); refine box_event (by rfl) (N := 3) (by rfl) (cs := #[.bool t, .slice D m1 m2, .slice E p1 p2]) (t := 34) ?hr ?_; (case hr => first | (go_simp; done) | (go_simp; rfl)); intro g3 hgx w2 hbx hb; have B3 := As hbx; have NE2_3 := Nn B2 hgx; have G3 := Gg HB hgx; replace B2 := Bb B2 hb; replace HB := Ob HB hb; clear hbx hb hgx; (try clear cb2_0); have cb2_0 := Cl0 B2; (try clear cb2_1); have cb2_1 := Cl1 B2; (try clear cb2_2); have cb2_2 := Cl2 B2) | ((with_reducible refine gate_dst (N := 2) rfl ?_); refine box_event (by rfl) (N := 2) (by rfl) (cs := #[.bool s, .slice A k c, .slice B l d]) (t := 34) ?hr ?_; (case hr => first | (go_simp; done) | (go_simp; rfl)); intro g2 hgx w1 hbx hb; have B2 := As hbx; have G2 := Gg HB hgx; replace HB := Ob HB hb; clear hbx hb hgx))
 replace H4 := As (H4.1.drew)
 replace H5 := As (H5.1.drew)
 replace H11 := As (H11.1.drew)
 replace H12 := As (H12.1.drew)
 replace B2 := Bd B2
 replace B3 := Bd B3
 replace B5 := Bd B5
 replace B6 := Bd B6
 replace B7 := Bd B7
 replace B8 := Bd B8
 replace HB := Od HB
 refine start_ (n := 8) (S := fun w' => w'.cell? ⟨g5, 0, none⟩ = some (.bool s3) ∧ w'.cell? ⟨g5, 1, none⟩ = some (.slice A3 k3 c3) ∧ w'.cell? ⟨g8, 0, none⟩ = some (.bool t10) ∧ w'.cell? ⟨g8, 1, none⟩ = some (.slice D10 l10 d10) ∧ w'.cell? ⟨g7, 0, none⟩ = some (.bool s10) ∧ w'.cell? ⟨g7, 1, none⟩ = some (.slice A10 k10 c10) ∧ w'.cell? ⟨g6, 0, none⟩ = some (.bool t3) ∧ w'.cell? ⟨g6, 1, none⟩ = some (.slice D3 l3 d3)) (ds := []) (Bt 8 0) (by kernel_rfl) rfl (by kernel_rfl) ⟨Cl0 B5, Cl1 B5, Cl0 B8, Cl1 B8, Cl0 B7, Cl1 B7, Cl0 B6, Cl1 B6⟩ (fun hHeld => ?_)
 generalize w16.drew = w17 at hHeld H4 H5 H11 H12 B2 B3 B5 B6 B7 B8 HB ⊢
 refine take_ (i := 0) (N := some 19) (v := ?_) (a' := ?_) (Bt 8 1) rfl rfl (by kernel_rfl) (fun _ _ _ h => h) (Or.inl ⟨by rfl, ?_⟩) hHeld ?_ ?_
 rotate_left
 ·
  rintro w' ⟨s0, s1, s2, s3, s4, s5, s6, s7⟩
  go_simp
  with_reducible rfl
 rotate_left
 ·
  simp only [Nrm, Option.some.injEq, List.setIfInBounds_toArray, List.set_cons_zero, List.set_cons_succ, i64_w, i32_w]
  rfl
 refine take_ (i := 1) (N := some 20) (v := ?_) (a' := ?_) (Bt 8 3) rfl rfl (by kernel_rfl) (fun _ _ _ h => h) (Or.inl ⟨by rfl, ?_⟩) hHeld ?_ ?_
 rotate_left
 ·
  rintro w' ⟨s0, s1, s2, s3, s4, s5, s6, s7⟩
  go_simp
  with_reducible rfl
 rotate_left
 ·
  simp only [Nrm, Option.some.injEq, List.setIfInBounds_toArray, List.set_cons_zero, List.set_cons_succ, i64_w, i32_w]
  rfl
 refine take_ (i := 3) (N := some 22) (v := ?_) (a' := ?_) (Bt 8 11) rfl rfl (by kernel_rfl) (fun _ _ _ h => h) (Or.inl ⟨by rfl, ?_⟩) hHeld ?_ ?_
 rotate_left
 ·
  rintro w' ⟨s0, s1, s2, s3, s4, s5, s6, s7⟩
  go_simp
  with_reducible rfl
 rotate_left
 ·
  simp only [Nrm, Option.some.injEq, List.setIfInBounds_toArray, List.set_cons_zero, List.set_cons_succ, i64_w, i32_w]
  rfl
 refine take_ (i := 4) (N := some 23) (v := ?_) (a' := ?_) (Bt 8 27) rfl rfl (by kernel_rfl) (fun _ _ _ h => h) (Or.inl ⟨by rfl, ?_⟩) hHeld ?_ ?_
 rotate_left
 ·
  rintro w' ⟨s0, s1, s2, s3, s4, s5, s6, s7⟩
  go_simp
  with_reducible rfl
 rotate_left
 ·
  simp only [Nrm, Option.some.injEq, List.setIfInBounds_toArray, List.set_cons_zero, List.set_cons_succ, i64_w, i32_w]
  rfl
 refine one_ (i := 2) (N := some 21) (Bt 8 31) rfl rfl (by kernel_rfl) (by decide) (fun K hK => ?_)
 refine goes_ Tryz.func41 (by kernel_rfl) rfl #[.agg #[.bool s3, .slice A3 k3 c3], .agg #[.bool t10, .slice D10 l10 d10]] (by rfl) rfl rfl (by (try simp only [List.map_toArray, List.map_cons, List.map_nil]); first | done | rfl) ?_
 with_reducible refine (integer_Mul.run s3 t10 _ _ _ _ _ _ n3 m10 L1 (L4 + 2) _ H4.1.na H12.1.na (by have := HL.out; omega)).mono ?_
 rintro e w42 ⟨s42, A42, k42, c42, rfl, hr42, hz42, hu42, hb⟩
 refine ⟨_, rfl, ?_⟩
 have H43 := Aside0.mk hr42
 have Z42 := Aside0.mk (And.intro hz42 hu42)
 clear hr42 hz42 hu42
 replace H4 := As (H4.1.be hb)
 replace H5 := As (H5.1.be hb)
 replace H11 := As (H11.1.be hb)
 replace H12 := As (H12.1.be hb)
 replace B2 := Bb B2 hb
 replace B3 := Bb B3 hb
 replace B5 := Bb B5 hb
 replace B6 := Bb B6 hb
 replace B7 := Bb B7 hb
 replace B8 := Bb B8 hb
 replace HB := Ob HB hb
 clear hb
 refine hK.out _ _ ⟨Cl0 B5, Cl1 B5, Cl0 B8, Cl1 B8, Cl0 B7, Cl1 B7, Cl0 B6, Cl1 B6⟩ (fun hHeld => ?_)
 clear hK K
 refine norm_ (a' := ?_) ?_ ?_
 rotate_left
 ·
  show Act.put _ (some 21) _ = _
  simp only [Nrm, Option.some.injEq, List.setIfInBounds_toArray, List.set_cons_zero, List.set_cons_succ, i64_w, i32_w]
  rfl
 refine one_ (i := 5) (N := some 24) (Bt 8 63) rfl rfl (by kernel_rfl) (by decide) (fun K hK => ?_)
 refine goes_ Tryz.func41 (by kernel_rfl) rfl #[.agg #[.bool s10, .slice A10 k10 c10], .agg #[.bool t3, .slice D3 l3 d3]] (by rfl) rfl rfl (by (try simp only [List.map_toArray, List.map_cons, List.map_nil]); first | done | rfl) ?_
 with_reducible refine (integer_Mul.run s10 t3 _ _ _ _ _ _ n10 m3 L3 (L2 + 2) _ H11.1.na H5.1.na (by have := HL.out; omega)).mono ?_
 rintro e w78 ⟨s78, A78, k78, c78, rfl, hr78, hz78, hu78, hb⟩
 refine ⟨_, rfl, ?_⟩
 have H79 := Aside0.mk hr78
 have Z78 := Aside0.mk (And.intro hz78 hu78)
 clear hr78 hz78 hu78
 replace H4 := As (H4.1.be hb)
 replace H5 := As (H5.1.be hb)
 replace H11 := As (H11.1.be hb)
 replace H12 := As (H12.1.be hb)
 replace H43 := As (H43.1.be hb)
 replace B2 := Bb B2 hb
 replace B3 := Bb B3 hb
 replace B5 := Bb B5 hb
 replace B6 := Bb B6 hb
 replace B7 := Bb B7 hb
 replace B8 := Bb B8 hb
 replace HB := Ob HB hb
 clear hb
 refine hK.out _ _ ⟨Cl0 B5, Cl1 B5, Cl0 B8, Cl1 B8, Cl0 B7, Cl1 B7, Cl0 B6, Cl1 B6⟩ (fun hHeld => ?_)
 clear hK K
 refine norm_ (a' := ?_) ?_ ?_
 rotate_left
 ·
  show Act.put _ (some 24) _ = _
  simp only [Nrm, Option.some.injEq, List.setIfInBounds_toArray, List.set_cons_zero, List.set_cons_succ, i64_w, i32_w]
  rfl
 refine one_ (i := 6) (N := some 25) (Bt 8 127) rfl rfl (by kernel_rfl) (by decide) (fun K hK => ?_)
 refine goes_ Tryz.func40 (by kernel_rfl) rfl #[.agg #[.bool s42, .slice A42 k42 c42], .agg #[.bool s78, .slice A78 k78 c78]] (by rfl) rfl rfl (by (try simp only [List.map_toArray, List.map_cons, List.map_nil]); first | done | rfl) ?_
 with_reducible refine (integer_Cmp.run s42 s78 _ _ _ _ _ _ (n3 * m10) (n10 * m3) (L1 + (L4 + 2)) (L3 + (L2 + 2)) _ H43.1.na H79.1.na (by have := HL.out; omega)).mono ?_
 rintro e w100 ⟨rfl, hb⟩
 refine ⟨_, rfl, ?_⟩
 replace H4 := As (H4.1.be hb)
 replace H5 := As (H5.1.be hb)
 replace H11 := As (H11.1.be hb)
 replace H12 := As (H12.1.be hb)
 replace H43 := As (H43.1.be hb)
 replace H79 := As (H79.1.be hb)
 replace B2 := Bb B2 hb
 replace B3 := Bb B3 hb
 replace B5 := Bb B5 hb
 replace B6 := Bb B6 hb
 replace B7 := Bb B7 hb
 replace B8 := Bb B8 hb
 replace HB := Ob HB hb
 clear hb
 refine hK.out _ _ ⟨Cl0 B5, Cl1 B5, Cl0 B8, Cl1 B8, Cl0 B7, Cl1 B7, Cl0 B6, Cl1 B6⟩ (fun hHeld => ?_)
 clear hK K
 refine norm_ (a' := ?_) ?_ ?_
 rotate_left
 ·
  show Act.put _ (some 25) _ = _
  simp only [Nrm, Option.some.injEq, List.setIfInBounds_toArray, List.set_cons_zero, List.set_cons_succ, i64_w, i32_w]
  rfl
 refine pure_ (i := 7) (N := some 4) (v := ?_) (a' := ?_) (Bt 8 255) rfl rfl (by kernel_rfl) (fun _ _ _ h => h) (Or.inl ⟨by rfl, ?_⟩) ?_ ?_
 rotate_left
 ·
  intro w'
  go_simp
  with_reducible rfl
 rotate_left
 ·
  simp only [Nrm, Option.some.injEq, List.setIfInBounds_toArray, List.set_cons_zero, List.set_cons_succ, i64_w, i32_w]
  rfl
 refine done_ (by kernel_rfl) ?_
 go_wp2
 go_ret
 refine ⟨?_, HB.out⟩
 have e1 := Z42.out.1
 have e2 := Z78.out.1
 rw [P3.out.1, P10.out.2.1] at e1
 rw [P10.out.1, P3.out.2.1] at e2
 rw [← e1, ← e2]
 rfl
theorem ratio_Sub.run (s t : Bool) (A B D E : Option Addr) (k c l d m1 m2 p1 p2 a b x y L1 L2 L3 L4 : Nat) (w : World) (hv : NA w (.slice A k c) a L1) (hu : NA w (.slice B l d) b L2) (hx : NA w (.slice D m1 m2) x L3) (hy : NA w (.slice E p1 p2) y L4) (hL : L1 + L2 + L3 + L4 ≤ 40000000) :
  Calls Tryz.prog 81 #[.agg #[.bool s, .slice A k c, .slice B l d], .agg #[.bool t, .slice D m1 m2, .slice E p1 p2]] w fun e w' => ∃ u A k c B l d n m, e = .returned (.agg #[.bool u, .slice A k c, .slice B l d]) ∧ NC w' (.slice A k c) n (L1 + L2 + L3 + L4 + 7) ∧ NC w' (.slice B l d) m (L2 + L4 + 6) ∧ 0 < m ∧ zi u n * ((pd b * pd y : Nat) : Int) = (pn s a b * pd y - pn t x y * pd b) * m ∧ Below w.heap.size w w' := by
 have H91 := Aside0.mk hv
 have H92 := Aside0.mk hu
 have H93 := Aside0.mk hx
 have H94 := Aside0.mk hy
 have HL := Aside0.mk hL
 have HB := Aside0.mk (Below.refl w.heap.size w)
 clear hv hu hx hy hL
 go_enter Tryz.func81, Tryz.ntmps81
 go_wp2_with (first | ((with_reducible refine gate_store (t := 32) (p := 8) rfl ?_); refine Sto (t := 32) (p := 8) (by rfl) (.tmp 18) (by rfl) (by rfl) g8 #[.bool t11, .slice D11 l11 d11] (by rfl) (by first | rfl | (go_simp; done) | (go_simp; rfl)) B8 (by kernel_rfl) rfl (by kernel_rfl) ?_; intro w17 ho hB2; replace H5 := As (H5.1.o2 ho B8); replace H6 := As (H6.1.o2 ho B8); replace H12 := As (H12.1.o2 ho B8); replace H13 := As (H13.1.o2 ho B8); replace B2 := Oo B2 ho NE2_8; replace B3 := Oo B3 ho NE3_8; replace B4 := Oo B4 ho NE4_8; replace B5 := Oo B5 ho NE5_8; replace B6 := Oo B6 ho NE6_8; replace B7 := Oo B7 ho NE7_8; replace HB := Lo HB ho G8; replace B8 := hB2; clear ho hB2) | ((with_reducible refine gate_store (t := 32) (p := 7) rfl ?_); refine Sto (t := 32) (p := 7) (by rfl) (.tmp 17) (by rfl) (by rfl) g7 #[.bool s11, .slice A11 k11 c11] (by rfl) (by first | rfl | (go_simp; done) | (go_simp; rfl)) B7 (by kernel_rfl) rfl (by kernel_rfl) ?_; intro w16 ho hB2; replace H5 := As (H5.1.o2 ho B7); replace H6 := As (H6.1.o2 ho B7); replace H12 := As (H12.1.o2 ho B7); replace H13 := As (H13.1.o2 ho B7); replace B2 := Oo B2 ho NE2_7; replace B3 := Oo B3 ho NE3_7; replace B4 := Oo B4 ho NE4_7; replace B5 := Oo B5 ho NE5_7; replace B6 := Oo B6 ho NE6_7; replace B8 := Ou B8 ho NE7_8; replace HB := Lo HB ho G7; replace B7 := hB2; clear ho hB2) | ((with_reducible refine gate_dst (N := 8) rfl ?_); refine box_event (by rfl) (N := 8) (by rfl) (cs := #[.bool false, .slice none 0 0]) (t := 32) ?hr ?_; (case hr => first | (go_simp; done) | (go_simp; rfl)); intro g8 hgx w15 hbx hb; have B8 := As hbx; have NE2_8 := Nn B2 hgx; have NE3_8 := Nn B3 hgx; have NE4_8 := Nn B4 hgx; have NE5_8 := Nn B5 hgx; have NE6_8 := Nn B6 hgx; have NE7_8 := Nn B7 hgx; have G8 := Gg HB hgx; replace H5 := As (H5.1.be hb); replace H6 := As (H6.1.be hb); replace H12 := As (H12.1.be hb); replace H13 := As (H13.1.be hb); replace B2 := Bb B2 hb; replace B3 := Bb B3 hb; replace B4 := Bb B4 hb; replace B5 := Bb B5 hb; replace B6 := Bb B6 hb; replace B7 := Bb B7 hb; replace HB := Ob HB hb; clear hbx hb hgx) | ((with_reducible refine gate_dst (N := 7) rfl ?_); refine box_event (by rfl) (N := 7) (by rfl) (cs := #[.bool false, .slice none 0 0]) (t := 32) ?hr ?_; (case hr => first | (go_simp; done) | (go_simp; rfl)); intro g7 hgx w14 hbx hb; have B7 := As hbx; have NE2_7 := Nn B2 hgx; have NE3_7 := Nn B3 hgx; have NE4_7 := Nn B4 hgx; have NE5_7 := Nn B5 hgx; have NE6_7 := Nn B6 hgx; have G7 := Gg HB hgx; replace H5 := As (H5.1.be hb); replace H6 := As (H6.1.be hb); replace H12 := As (H12.1.be hb); replace H13 := As (H13.1.be hb); replace B2 := Bb B2 hb; replace B3 := Bb B3 hb; replace B4 := Bb B4 hb; replace B5 := Bb B5 hb; replace B6 := Bb B6 hb; replace HB := Ob HB hb; clear hbx hb hgx) | (go_at_call 39; (with_reducible refine (ratio_parts.run t _ _ _ _ _ _ x y L3 L4 _ (H93.1.be HB.1) (H94.1.be HB.1) (by have := HL.out; omega)).mono ?_); rintro e w11 ⟨s11, A11, k11, c11, t11, D11, l11, d11, n11, m11, rfl, hq11, hr11, hz11, hy11, hm11, hb⟩; have H12 := Aside0.mk hq11; have H13 := Aside0.mk hr11; have P11 := Aside0.mk (And.intro hz11 (And.intro hy11 hm11)); clear hq11 hr11 hz11 hy11 hm11; replace H5 := As (H5.1.be hb); replace H6 := As (H6.1.be hb); replace B2 := Bb B2 hb; replace B3 := Bb B3 hb; replace B4 := Bb B4 hb; replace B5 := Bb B5 hb; replace B6 := Bb B6 hb; replace HB := Ob HB hb; clear hb) | ((with_reducible refine gate_store (t := 32) (p := 6) rfl ?_); refine Sto (t := 32) (p := 6) (by rfl) (.tmp 13) (by rfl) (by rfl) g6 #[.bool t4, .slice D4 l4 d4] (by rfl) (by first | rfl | (go_simp; done) | (go_simp; rfl)) B6 (by kernel_rfl) rfl (by kernel_rfl) ?_; intro w10 ho hB2; replace H5 := As (H5.1.o2 ho B6); replace H6 := As (H6.1.o2 ho B6); replace B2 := Oo B2 ho NE2_6; replace B3 := Oo B3 ho NE3_6; replace B4 := Oo B4 ho NE4_6; replace B5 := Oo B5 ho NE5_6; replace HB := Lo HB ho G6; replace B6 := hB2; clear ho hB2; (try clear cb3_0); have cb3_0 := Cl0 B3; (try clear cb3_1); have cb3_1 := Cl1 B3; (try clear cb3_2); have cb3_2 := Cl2 B3) | ((with_reducible refine gate_store (t := 32) (p := 5) rfl ?_); refine Sto (t := 32) (p := 5) (by rfl) (.tmp 12) (by rfl) (by rfl) g5 #[.bool s4, .slice A4 k4 c4] (by rfl) (by first | rfl | (go_simp; done) | (go_simp; rfl)) B5 (by kernel_rfl) rfl (by kernel_rfl) ?_; intro w9 ho hB2; replace H5 := As (H5.1.o2 ho B5); replace H6 := As (H6.1.o2 ho B5); replace B2 := Oo B2 ho NE2_5; replace B3 := Oo B3 ho NE3_5; replace B4 := Oo B4 ho NE4_5; replace B6 := Ou B6 ho NE5_6; replace HB := Lo HB ho G5; replace B5 := hB2; clear ho hB2) | ((with_reducible refine gate_dst (N := 6) rfl ?_); refine box_event (by rfl) (N := 6) (by rfl) (cs := #[.bool false, .slice none 0 0]) (t := 32) ?hr ?_; (case hr => first | (go_simp; done) | (go_simp; rfl)); intro g6 hgx w8 hbx hb; have B6 := As hbx; have NE2_6 := Nn B2 hgx; have NE3_6 := Nn B3 hgx; have NE4_6 := Nn B4 hgx; have NE5_6 := Nn B5 hgx; have G6 := Gg HB hgx; replace H5 := As (H5.1.be hb); replace H6 := As (H6.1.be hb); replace B2 := Bb B2 hb; replace B3 := Bb B3 hb; replace B4 := Bb B4 hb; replace B5 := Bb B5 hb; replace HB := Ob HB hb; clear hbx hb hgx) | ((with_reducible refine gate_dst (N := 5) rfl ?_); refine box_event (by rfl) (N := 5) (by rfl) (cs := #[.bool false, .slice none 0 0]) (t := 32) ?hr ?_; (case hr => first | (go_simp; done) | (go_simp; rfl)); intro g5 hgx w7 hbx hb; have B5 := As hbx; have NE2_5 := Nn B2 hgx; have NE3_5 := Nn B3 hgx; have NE4_5 := Nn B4 hgx; have G5 := Gg HB hgx; replace H5 := As (H5.1.be hb); replace H6 := As (H6.1.be hb); replace B2 := Bb B2 hb; replace B3 := Bb B3 hb; replace B4 := Bb B4 hb; replace HB := Ob HB hb; clear hbx hb hgx) | (go_at_call 39; (with_reducible refine (ratio_parts.run s _ _ _ _ _ _ a b L1 L2 _ (H91.1.be HB.1) (H92.1.be HB.1) (by have := HL.out; omega)).mono ?_); rintro e w4 ⟨s4, A4, k4, c4, t4, D4, l4, d4, n4, m4, rfl, hq4, hr4, hz4, hy4, hm4, hb⟩; have H5 := Aside0.mk hq4; have H6 := Aside0.mk hr4; have P4 := Aside0.mk (And.intro hz4 (And.intro hy4 hm4)); clear hq4 hr4 hz4 hy4 hm4; replace B2 := Bb B2 hb; replace B3 := Bb B3 hb; replace B4 := Bb B4 hb; replace HB := Ob HB hb; clear hb) | ((with_reducible refine gate_dst (N := 4) rfl ?_); refine box_event (by rfl) (N := 4) (by rfl) (cs := #[.bool false, .slice none 0 0, .slice none 0 0]) (t := 34) ?hr ?_; (case hr => first | (go_simp; done) | (go_simp; rfl)); intro g4 hgx w3 hbx hb; have B4 := As hbx; have NE2_4 := Nn B2 hgx; have NE3_4 := Nn B3 hgx; have G4 := Gg HB hgx; replace B2 := Bb B2 hb; replace B3 := Bb B3 hb; replace HB := Ob HB hb; clear hbx hb hgx; (try clear cb2_0); have cb2_0 := Cl0 B2; (try clear cb2_1); have cb2_1 := Cl1 B2; (try clear cb2_2); have cb2_2 := Cl2 B2) | ((with_reducible refine gate_dst (N := 3) rfl ?_); refine box_event (by rfl) (N := 3) (by rfl) (cs := #[.bool t, .slice D m1 m2, .slice E p1 p2]) (t := 34) ?hr ?_; (case hr => first | (go_simp; done) | (go_simp; rfl)); intro g3 hgx w2 hbx hb; have B3 := As hbx; have NE2_3 := Nn B2 hgx; have G3 := Gg HB hgx; replace B2 := Bb B2 hb; replace HB := Ob HB hb; clear hbx hb hgx) | ((with_reducible refine gate_dst (N := 2) rfl ?_); refine box_event (by rfl) (N := 2) (by rfl) (cs := #[.bool s, .slice A k c, .slice B l d]) (t := 34) ?hr ?_; (case hr => first | (go_simp; done) | (go_simp; rfl)); intro g2 hgx w1 hbx hb; have B2 := As hbx; have G2 := Gg HB hgx; replace HB := Ob HB hb; clear hbx hb hgx))
 replace H5 := As (H5.1.drew)
 replace H6 := As (H6.1.drew)
 replace H12 := As (H12.1.drew)
 replace H13 := As (H13.1.drew)
 replace B2 := Bd B2
 replace B3 := Bd B3
 replace B4 := Bd B4
 replace B5 := Bd B5
 replace B6 := Bd B6
 replace B7 := Bd B7
 replace B8 := Bd B8
 replace HB := Od HB
 refine start_ (n := 14) (S := fun w' => w'.cell? ⟨g5, 0, none⟩ = some (.bool s4) ∧ w'.cell? ⟨g5, 1, none⟩ = some (.slice A4 k4 c4) ∧ w'.cell? ⟨g8, 0, none⟩ = some (.bool t11) ∧ w'.cell? ⟨g8, 1, none⟩ = some (.slice D11 l11 d11) ∧ w'.cell? ⟨g7, 0, none⟩ = some (.bool s11) ∧ w'.cell? ⟨g7, 1, none⟩ = some (.slice A11 k11 c11) ∧ w'.cell? ⟨g6, 0, none⟩ = some (.bool t4) ∧ w'.cell? ⟨g6, 1, none⟩ = some (.slice D4 l4 d4)) (ds := [13]) (Bt 14 0) (by kernel_rfl) rfl (by kernel_rfl) ⟨Cl0 B5, Cl1 B5, Cl0 B8, Cl1 B8, Cl0 B7, Cl1 B7, Cl0 B6, Cl1 B6⟩ (fun hHeld => ?_)
 generalize w17.drew = w18 at hHeld H5 H6 H12 H13 B2 B3 B4 B5 B6 B7 B8 HB ⊢
 refine pure_ (i := 7) (N := some 26) (v := ?_) (a' := ?_) (Bt 14 128) rfl rfl (by kernel_rfl) (fun _ _ _ h => h) (Or.inl ⟨by rfl, ?_⟩) ?_ ?_
 rotate_left
 ·
  intro w'
  go_simp
  with_reducible rfl
 rotate_left
 ·
  simp only [Nrm, Option.some.injEq, List.setIfInBounds_toArray, List.set_cons_zero, List.set_cons_succ, i64_w, i32_w]
  rfl
 refine pure_ (i := 9) (N := some 28) (v := ?_) (a' := ?_) (Bt 14 640) rfl rfl (by kernel_rfl) (fun _ _ _ h => h) (Or.inl ⟨by rfl, ?_⟩) ?_ ?_
 rotate_left
 ·
  intro w'
  go_simp
  with_reducible rfl
 rotate_left
 ·
  simp only [Nrm, Option.some.injEq, List.setIfInBounds_toArray, List.set_cons_zero, List.set_cons_succ, i64_w, i32_w]
  rfl
 refine take_ (i := 0) (N := some 19) (v := ?_) (a' := ?_) (Bt 14 641) rfl rfl (by kernel_rfl) (fun _ _ _ h => h) (Or.inl ⟨by rfl, ?_⟩) hHeld ?_ ?_
 rotate_left
 ·
  rintro w' ⟨s0, s1, s2, s3, s4, s5, s6, s7⟩
  go_simp
  with_reducible rfl
 rotate_left
 ·
  simp only [Nrm, Option.some.injEq, List.setIfInBounds_toArray, List.set_cons_zero, List.set_cons_succ, i64_w, i32_w]
  rfl
 refine take_ (i := 1) (N := some 20) (v := ?_) (a' := ?_) (Bt 14 643) rfl rfl (by kernel_rfl) (fun _ _ _ h => h) (Or.inl ⟨by rfl, ?_⟩) hHeld ?_ ?_
 rotate_left
 ·
  rintro w' ⟨s0, s1, s2, s3, s4, s5, s6, s7⟩
  go_simp
  with_reducible rfl
 rotate_left
 ·
  simp only [Nrm, Option.some.injEq, List.setIfInBounds_toArray, List.set_cons_zero, List.set_cons_succ, i64_w, i32_w]
  rfl
 refine take_ (i := 3) (N := some 22) (v := ?_) (a' := ?_) (Bt 14 651) rfl rfl (by kernel_rfl) (fun _ _ _ h => h) (Or.inl ⟨by rfl, ?_⟩) hHeld ?_ ?_
 rotate_left
 ·
  rintro w' ⟨s0, s1, s2, s3, s4, s5, s6, s7⟩
  go_simp
  with_reducible rfl
 rotate_left
 ·
  simp only [Nrm, Option.some.injEq, List.setIfInBounds_toArray, List.set_cons_zero, List.set_cons_succ, i64_w, i32_w]
  rfl
 refine take_ (i := 4) (N := some 23) (v := ?_) (a' := ?_) (Bt 14 667) rfl rfl (by kernel_rfl) (fun _ _ _ h => h) (Or.inl ⟨by rfl, ?_⟩) hHeld ?_ ?_
 rotate_left
 ·
  rintro w' ⟨s0, s1, s2, s3, s4, s5, s6, s7⟩
  go_simp
  with_reducible rfl
 rotate_left
 ·
  simp only [Nrm, Option.some.injEq, List.setIfInBounds_toArray, List.set_cons_zero, List.set_cons_succ, i64_w, i32_w]
  rfl
 refine take_ (i := 8) (N := some 27) (v := ?_) (a' := ?_) (Bt 14 923) rfl rfl (by kernel_rfl) (fun _ _ _ h => h) (Or.inl ⟨by rfl, ?_⟩) hHeld ?_ ?_
 rotate_left
 ·
  rintro w' ⟨s0, s1, s2, s3, s4, s5, s6, s7⟩
  go_simp
  with_reducible rfl
 rotate_left
 ·
  simp only [Nrm, Option.some.injEq, List.setIfInBounds_toArray, List.set_cons_zero, List.set_cons_succ, i64_w, i32_w]
  rfl
 refine take_ (i := 10) (N := some 29) (v := ?_) (a' := ?_) (Bt 14 1947) rfl rfl (by kernel_rfl) (fun _ _ _ h => h) (Or.inl ⟨by rfl, ?_⟩) hHeld ?_ ?_
 rotate_left
 ·
  rintro w' ⟨s0, s1, s2, s3, s4, s5, s6, s7⟩
  go_simp
  with_reducible rfl
 rotate_left
 ·
  simp only [Nrm, Option.some.injEq, List.setIfInBounds_toArray, List.set_cons_zero, List.set_cons_succ, i64_w, i32_w]
  rfl
 refine one_ (i := 2) (N := some 21) (Bt 14 1951) rfl rfl (by kernel_rfl) (by decide) (fun K hK => ?_)
 refine goes_ Tryz.func41 (by kernel_rfl) rfl #[.agg #[.bool s4, .slice A4 k4 c4], .agg #[.bool t11, .slice D11 l11 d11]] (by rfl) rfl rfl (by (try simp only [List.map_toArray, List.map_cons, List.map_nil]); first | done | rfl) ?_
 with_reducible refine (integer_Mul.run s4 t11 _ _ _ _ _ _ n4 m11 L1 (L4 + 2) _ H5.1.na H13.1.na (by have := HL.out; omega)).mono ?_
 rintro e w43 ⟨s43, A43, k43, c43, rfl, hr43, hz43, hu43, hb⟩
 refine ⟨_, rfl, ?_⟩
 have H44 := Aside0.mk hr43
 have Z43 := Aside0.mk (And.intro hz43 hu43)
 clear hr43 hz43 hu43
 replace H5 := As (H5.1.be hb)
 replace H6 := As (H6.1.be hb)
 replace H12 := As (H12.1.be hb)
 replace H13 := As (H13.1.be hb)
 replace B2 := Bb B2 hb
 replace B3 := Bb B3 hb
 replace B4 := Bb B4 hb
 replace B5 := Bb B5 hb
 replace B6 := Bb B6 hb
 replace B7 := Bb B7 hb
 replace B8 := Bb B8 hb
 replace HB := Ob HB hb
 clear hb
 refine hK.out _ _ ⟨Cl0 B5, Cl1 B5, Cl0 B8, Cl1 B8, Cl0 B7, Cl1 B7, Cl0 B6, Cl1 B6⟩ (fun hHeld => ?_)
 clear hK K
 refine norm_ (a' := ?_) ?_ ?_
 rotate_left
 ·
  show Act.put _ (some 21) _ = _
  simp only [Nrm, Option.some.injEq, List.setIfInBounds_toArray, List.set_cons_zero, List.set_cons_succ, i64_w, i32_w]
  rfl
 refine one_ (i := 5) (N := some 24) (Bt 14 1983) rfl rfl (by kernel_rfl) (by decide) (fun K hK => ?_)
 refine goes_ Tryz.func41 (by kernel_rfl) rfl #[.agg #[.bool s11, .slice A11 k11 c11], .agg #[.bool t4, .slice D4 l4 d4]] (by rfl) rfl rfl (by (try simp only [List.map_toArray, List.map_cons, List.map_nil]); first | done | rfl) ?_
 with_reducible refine (integer_Mul.run s11 t4 _ _ _ _ _ _ n11 m4 L3 (L2 + 2) _ H12.1.na H6.1.na (by have := HL.out; omega)).mono ?_
 rintro e w79 ⟨s79, A79, k79, c79, rfl, hr79, hz79, hu79, hb⟩
 refine ⟨_, rfl, ?_⟩
 have H100 := Aside0.mk hr79
 have Z79 := Aside0.mk (And.intro hz79 hu79)
 clear hr79 hz79 hu79
 replace H5 := As (H5.1.be hb)
 replace H6 := As (H6.1.be hb)
 replace H12 := As (H12.1.be hb)
 replace H13 := As (H13.1.be hb)
 replace H44 := As (H44.1.be hb)
 replace B2 := Bb B2 hb
 replace B3 := Bb B3 hb
 replace B4 := Bb B4 hb
 replace B5 := Bb B5 hb
 replace B6 := Bb B6 hb
 replace B7 := Bb B7 hb
 replace B8 := Bb B8 hb
 replace HB := Ob HB hb
 clear hb
 refine hK.out _ _ ⟨Cl0 B5, Cl1 B5, Cl0 B8, Cl1 B8, Cl0 B7, Cl1 B7, Cl0 B6, Cl1 B6⟩ (fun hHeld => ?_)
 clear hK K
 refine norm_ (a' := ?_) ?_ ?_
 rotate_left
 ·
  show Act.put _ (some 24) _ = _
  simp only [Nrm, Option.some.injEq, List.setIfInBounds_toArray, List.set_cons_zero, List.set_cons_succ, i64_w, i32_w]
  rfl
 refine one_ (i := 6) (N := some 25) (Bt 14 2047) rfl rfl (by kernel_rfl) (by decide) (fun K hK => ?_)
 refine goes_ Tryz.func102 (by kernel_rfl) rfl #[.agg #[.bool s43, .slice A43 k43 c43], .agg #[.bool s79, .slice A79 k79 c79]] (by rfl) rfl rfl (by (try simp only [List.map_toArray, List.map_cons, List.map_nil]); first | done | rfl) ?_
 with_reducible refine (integer_Sub.run s43 s79 _ _ _ _ _ _ (n4 * m11) (n11 * m4) (L1 + (L4 + 2)) (L3 + (L2 + 2)) _ H44.1.na H100.1.na (by have := HL.out; omega)).mono ?_
 rintro e w100 ⟨s100, A100, k100, c100, n100, rfl, hr100, hz100, hu100, hb⟩
 refine ⟨_, rfl, ?_⟩
 have H101 := Aside0.mk hr100
 have Z100 := Aside0.mk (And.intro hz100 hu100)
 clear hr100 hz100 hu100
 replace H5 := As (H5.1.be hb)
 replace H6 := As (H6.1.be hb)
 replace H12 := As (H12.1.be hb)
 replace H13 := As (H13.1.be hb)
 replace H44 := As (H44.1.be hb)
 replace H100 := As (H100.1.be hb)
 replace B2 := Bb B2 hb
 replace B3 := Bb B3 hb
 replace B4 := Bb B4 hb
 replace B5 := Bb B5 hb
 replace B6 := Bb B6 hb
 replace B7 := Bb B7 hb
 replace B8 := Bb B8 hb
 replace HB := Ob HB hb
 clear hb
 refine hK.out _ _ ⟨Cl0 B5, Cl1 B5, Cl0 B8, Cl1 B8, Cl0 B7, Cl1 B7, Cl0 B6, Cl1 B6⟩ (fun hHeld => ?_)
 clear hK K
 refine norm_ (a' := ?_) ?_ ?_
 rotate_left
 ·
  show Act.put _ (some 25) _ = _
  simp only [Nrm, Option.some.injEq, List.setIfInBounds_toArray, List.set_cons_zero, List.set_cons_succ, i64_w, i32_w]
  rfl
 refine one_ (i := 11) (N := some 30) (Bt 14 4095) rfl rfl (by kernel_rfl) (by decide) (fun K hK => ?_)
 refine goes_ Tryz.func70 (by kernel_rfl) rfl #[.slice D4 l4 d4, .slice D11 l11 d11] (by rfl) rfl rfl (by (try simp only [List.map_toArray, List.map_cons, List.map_nil]); first | done | rfl) ?_
 with_reducible refine (nat_Mul.run _ _ m4 m11 (L2 + 2) (L4 + 2) _ H6.1.na H13.1.na (by have := HL.out; omega)).mono ?_
 rintro e w151 ⟨r151, rfl, hr151, hb⟩
 refine ⟨_, rfl, ?_⟩
 obtain ⟨A151, k151, c151, rfl⟩ := hr151.sl
 have H152 := Aside0.mk hr151
 clear hr151
 replace H5 := As (H5.1.be hb)
 replace H6 := As (H6.1.be hb)
 replace H12 := As (H12.1.be hb)
 replace H13 := As (H13.1.be hb)
 replace H44 := As (H44.1.be hb)
 replace H100 := As (H100.1.be hb)
 replace H101 := As (H101.1.be hb)
 replace B2 := Bb B2 hb
 replace B3 := Bb B3 hb
 replace B4 := Bb B4 hb
 replace B5 := Bb B5 hb
 replace B6 := Bb B6 hb
 replace B7 := Bb B7 hb
 replace B8 := Bb B8 hb
 replace HB := Ob HB hb
 clear hb
 refine hK.out _ _ ⟨Cl0 B5, Cl1 B5, Cl0 B8, Cl1 B8, Cl0 B7, Cl1 B7, Cl0 B6, Cl1 B6⟩ (fun hHeld => ?_)
 clear hK K
 refine norm_ (a' := ?_) ?_ ?_
 rotate_left
 ·
  show Act.put _ (some 30) _ = _
  simp only [Nrm, Option.some.injEq, List.setIfInBounds_toArray, List.set_cons_zero, List.set_cons_succ, i64_w, i32_w]
  rfl
 refine one_ (i := 12) (N := some 31) (Bt 14 8191) rfl rfl (by kernel_rfl) (by decide) (fun K hK => ?_)
 refine goes_ Tryz.func72 (by kernel_rfl) rfl #[.agg #[.bool s100, .slice A100 k100 c100], .slice A151 k151 c151] (by rfl) rfl rfl (by (try simp only [List.map_toArray, List.map_cons, List.map_nil]); first | done | rfl) ?_
 with_reducible refine (ratio_lowest.run _ _ _ _ _ _ _ n100 (m4 * m11) ((L1 + (L4 + 2)) + (L3 + (L2 + 2)) + 1) ((L2 + 2) + (L4 + 2)) _ H101.1.na H152.1.na (by rw [P4.out.2.2, P11.out.2.2]; exact Nat.mul_pos (pd_pos _) (pd_pos _)) (by have := HL.out; omega)).mono ?_
 rintro e w163 ⟨s163, A163, k163, c163, D163, l163, d163, n163, m163, rfl, hq163, hr163, hm163, hz163, hb⟩
 refine ⟨_, rfl, ?_⟩
 have H164 := Aside0.mk hq163
 have H165 := Aside0.mk hr163
 have F163 := Aside0.mk (And.intro hm163 hz163)
 clear hq163 hr163 hm163 hz163
 replace H5 := As (H5.1.be hb)
 replace H6 := As (H6.1.be hb)
 replace H12 := As (H12.1.be hb)
 replace H13 := As (H13.1.be hb)
 replace H44 := As (H44.1.be hb)
 replace H100 := As (H100.1.be hb)
 replace H101 := As (H101.1.be hb)
 replace H152 := As (H152.1.be hb)
 replace B2 := Bb B2 hb
 replace B3 := Bb B3 hb
 replace B4 := Bb B4 hb
 replace B5 := Bb B5 hb
 replace B6 := Bb B6 hb
 replace B7 := Bb B7 hb
 replace B8 := Bb B8 hb
 replace HB := Ob HB hb
 clear hb
 refine hK.out _ _ ⟨Cl0 B5, Cl1 B5, Cl0 B8, Cl1 B8, Cl0 B7, Cl1 B7, Cl0 B6, Cl1 B6⟩ (fun hHeld => ?_)
 clear hK K
 refine norm_ (a' := ?_) ?_ ?_
 rotate_left
 ·
  show Act.put _ (some 31) _ = _
  simp only [Nrm, Option.some.injEq, List.setIfInBounds_toArray, List.set_cons_zero, List.set_cons_succ, i64_w, i32_w]
  rfl
 refine last_ (i := 13) (N := none) (Bt 14 16383) rfl rfl (by kernel_rfl) (by decide) (fun K hK => ?_)
 (try clear cb4_0)
 have cb4_0 := Cl0 B4
 (try clear fb4_0)
 have fb4_0 := Fz B4 0
 (try clear cb4_1)
 have cb4_1 := Cl1 B4
 (try clear fb4_1)
 have fb4_1 := Fz B4 1
 (try clear cb4_2)
 have cb4_2 := Cl2 B4
 (try clear fb4_2)
 have fb4_2 := Fz B4 2
 refine skip_ (w1 := ?_) (by rfl) rfl ?_ ?_
 rotate_left
 ·
  go_simp
  rfl
 generalize hw : (((w163.setCell ⟨g4, 0, none⟩ (.bool s163)).setCell ⟨g4, 1, none⟩ (.slice A163 k163 c163)).setCell ⟨g4, 2, none⟩ (.slice D163 l163 d163)) = w175
 replace hw := Eq.symm hw
 have ho : Only w163 w175 g4 := (by rw [hw]; exact Only.setg (Only.setg (Only.setg (Only.refl _ _) 0 _) 1 _) 2 _)
 have hB2 : w175.heap[g4]? = some (.cells #[.bool s163, .slice A163 k163 c163, .slice D163 l163 d163] 34 (0, 0)) := (by rw [hw]; exact (blk_put (blk_put (blk_put B4.out 0 _ rfl) 1 _ rfl) 2 _ rfl))
 replace H5 := As (H5.1.o3 ho B4)
 replace H6 := As (H6.1.o3 ho B4)
 replace H12 := As (H12.1.o3 ho B4)
 replace H13 := As (H13.1.o3 ho B4)
 replace H44 := As (H44.1.o3 ho B4)
 replace H100 := As (H100.1.o3 ho B4)
 replace H101 := As (H101.1.o3 ho B4)
 replace H152 := As (H152.1.o3 ho B4)
 replace H164 := As (H164.1.o3 ho B4)
 replace H165 := As (H165.1.o3 ho B4)
 replace B2 := Oo B2 ho NE2_4
 replace B3 := Oo B3 ho NE3_4
 replace B5 := Ou B5 ho NE4_5
 replace B6 := Ou B6 ho NE4_6
 replace B7 := Ou B7 ho NE4_7
 replace B8 := Ou B8 ho NE4_8
 replace HB := Lo HB ho G4
 replace B4 := As hB2
 clear hw ho hB2
 refine hK.out _ _ ?_
 clear hK K
 refine done_ (by kernel_rfl) ?_
 go_wp2
 try simp only [Exit.inBlock, Exit.then]
 refine bodyPost_ret (results_cell_row rfl _ _ g4 34 #[.bool s163, .slice A163 k163 c163, .slice D163 l163 d163] (0, 0) _ rfl B4.out Tryz.underlying34 rfl (by kernel_rfl)) rfl ?_
 refine ⟨_, _, _, _, _, _, _, _, _, rfl, (H164.1).mono (by omega), (H165.1).mono (by omega), F163.out.1, ?_, HB.out⟩
 have hz := F163.out.2
 rw [Z100.out.1, Z43.out.1, Z79.out.1, P4.out.1, P11.out.1, P4.out.2.1, P11.out.2.1, P4.out.2.2, P11.out.2.2] at hz
 exact hz
theorem ratio_Mul.run (s t : Bool) (A B D E : Option Addr) (k c l d m1 m2 p1 p2 a b x y L1 L2 L3 L4 : Nat) (w : World) (hv : NA w (.slice A k c) a L1) (hu : NA w (.slice B l d) b L2) (hx : NA w (.slice D m1 m2) x L3) (hy : NA w (.slice E p1 p2) y L4) (hL : L1 + L2 + L3 + L4 ≤ 40000000) :
  Calls Tryz.prog 82 #[.agg #[.bool s, .slice A k c, .slice B l d], .agg #[.bool t, .slice D m1 m2, .slice E p1 p2]] w fun e w' => ∃ u A k c B l d n m, e = .returned (.agg #[.bool u, .slice A k c, .slice B l d]) ∧ NC w' (.slice A k c) n (L1 + L3 + 2) ∧ NC w' (.slice B l d) m (L2 + L4 + 6) ∧ 0 < m ∧ zi u n * ((pd b * pd y : Nat) : Int) = (pn s a b * pn t x y) * m ∧ Below w.heap.size w w' := by
 have H91 := Aside0.mk hv
 have H92 := Aside0.mk hu
 have H93 := Aside0.mk hx
 have H94 := Aside0.mk hy
 have HL := Aside0.mk hL
 have HB := Aside0.mk (Below.refl w.heap.size w)
 clear hv hu hx hy hL
 go_enter Tryz.func82, Tryz.ntmps82
 go_wp2_with (first | ((with_reducible refine gate_store (t := 32) (p := 8) rfl ?_); refine Sto (t := 32) (p := 8) (by rfl) (.tmp 18) (by rfl) (by rfl) g8 #[.bool t11, .slice D11 l11 d11] (by rfl) (by first | rfl | (go_simp; done) | (go_simp; rfl)) B8 (by kernel_rfl) rfl (by kernel_rfl) ?_; intro w17 ho hB2; replace H5 := As (H5.1.o2 ho B8); replace H6 := As (H6.1.o2 ho B8); replace H12 := As (H12.1.o2 ho B8); replace H13 := As (H13.1.o2 ho B8); replace B2 := Oo B2 ho NE2_8; replace B3 := Oo B3 ho NE3_8; replace B4 := Oo B4 ho NE4_8; replace B5 := Oo B5 ho NE5_8; replace B6 := Oo B6 ho NE6_8; replace B7 := Oo B7 ho NE7_8; replace HB := Lo HB ho G8; replace B8 := hB2; clear ho hB2) | ((with_reducible refine gate_store (t := 32) (p := 7) rfl ?_); refine Sto (t := 32) (p := 7) (by rfl) (.tmp 17) (by rfl) (by rfl) g7 #[.bool s11, .slice A11 k11 c11] (by rfl) (by first | rfl | (go_simp; done) | (go_simp; rfl)) B7 (by kernel_rfl) rfl (by kernel_rfl) ?_; intro w16 ho hB2; replace H5 := As (H5.1.o2 ho B7); replace H6 := As (H6.1.o2 ho B7); replace H12 := As (H12.1.o2 ho B7); replace H13 := As (H13.1.o2 ho B7); replace B2 := Oo B2 ho NE2_7; replace B3 := Oo B3 ho NE3_7; replace B4 := Oo B4 ho NE4_7; replace B5 := Oo B5 ho NE5_7; replace B6 := Oo B6 ho NE6_7; replace B8 := Ou B8 ho NE7_8; replace HB := Lo HB ho G7; replace B7 := hB2; clear ho hB2) | ((with_reducible refine gate_dst (N := 8) rfl ?_); refine box_event (by rfl) (N := 8) (by rfl) (cs := #[.bool false, .slice none 0 0]) (t := 32) ?hr ?_; (case hr => first | (go_simp; done) | (go_simp; rfl)); intro g8 hgx w15 hbx hb; have B8 := As hbx; have NE2_8 := Nn B2 hgx; have NE3_8 := Nn B3 hgx; have NE4_8 := Nn B4 hgx; have NE5_8 := Nn B5 hgx; have NE6_8 := Nn B6 hgx; have NE7_8 := Nn B7 hgx; have G8 := Gg HB hgx; replace H5 := As (H5.1.be hb); replace H6 := As (H6.1.be hb); replace H12 := As (H12.1.be hb); replace H13 := As (H13.1.be hb); replace B2 := Bb B2 hb; replace B3 := Bb B3 hb; replace B4 := Bb B4 hb; replace B5 := Bb B5 hb; replace B6 := Bb B6 hb; replace B7 := Bb B7 hb; replace HB := Ob HB hb; clear hbx hb hgx) | ((with_reducible refine gate_dst (N := 7) rfl ?_); refine box_event (by rfl) (N := 7) (by rfl) (cs := #[.bool false, .slice none 0 0]) (t := 32) ?hr ?_; (case hr => first | (go_simp; done) | (go_simp; rfl)); intro g7 hgx w14 hbx hb; have B7 := As hbx; have NE2_7 := Nn B2 hgx; have NE3_7 := Nn B3 hgx; have NE4_7 := Nn B4 hgx; have NE5_7 := Nn B5 hgx; have NE6_7 := Nn B6 hgx; have G7 := Gg HB hgx; replace H5 := As (H5.1.be hb); replace H6 := As (H6.1.be hb); replace H12 := As (H12.1.be hb); replace H13 := As (H13.1.be hb); replace B2 := Bb B2 hb; replace B3 := Bb B3 hb; replace B4 := Bb B4 hb; replace B5 := Bb B5 hb; replace B6 := Bb B6 hb; replace HB := Ob HB hb; clear hbx hb hgx) | (go_at_call 39; (with_reducible refine (ratio_parts.run t _ _ _ _ _ _ x y L3 L4 _ (H93.1.be HB.1) (H94.1.be HB.1) (by have := HL.out; omega)).mono ?_); rintro e w11 ⟨s11, A11, k11, c11, t11, D11, l11, d11, n11, m11, rfl, hq11, hr11, hz11, hy11, hm11, hb⟩; have H12 := Aside0.mk hq11; have H13 := Aside0.mk hr11; have P11 := Aside0.mk (And.intro hz11 (And.intro hy11 hm11)); clear hq11 hr11 hz11 hy11 hm11; replace H5 := As (H5.1.be hb); replace H6 := As (H6.1.be hb); replace B2 := Bb B2 hb; replace B3 := Bb B3 hb; replace B4 := Bb B4 hb; replace B5 := Bb B5 hb; replace B6 := Bb B6 hb; replace HB := Ob HB hb; clear hb) | ((with_reducible refine gate_store (t := 32) (p := 6) rfl ?_); refine Sto (t := 32) (p := 6) (by rfl) (.tmp 13) (by rfl) (by rfl) g6 #[.bool t4, .slice D4 l4 d4] (by rfl) (by first | rfl | (go_simp; done) | (go_simp; rfl)) B6 (by kernel_rfl) rfl (by kernel_rfl) ?_; intro w10 ho hB2; replace H5 := As (H5.1.o2 ho B6); replace H6 := As (H6.1.o2 ho B6); replace B2 := Oo B2 ho NE2_6; replace B3 := Oo B3 ho NE3_6; replace B4 := Oo B4 ho NE4_6; replace B5 := Oo B5 ho NE5_6; replace HB := Lo HB ho G6; replace B6 := hB2; clear ho hB2; (try clear cb3_0); have cb3_0 := Cl0 B3; (try clear cb3_1); have cb3_1 := Cl1 B3; (try clear cb3_2); have cb3_2 := Cl2 B3) | ((with_reducible refine gate_store (t := 32) (p := 5) rfl ?_); refine Sto (t := 32) (p := 5) (by rfl) (.tmp 12) (by rfl) (by rfl) g5 #[.bool s4, .slice A4 k4 c4] (by rfl) (by first | rfl | (go_simp; done) | (go_simp; rfl)) B5 (by kernel_rfl) rfl (by kernel_rfl) ?_; intro w9 ho hB2; replace H5 := As (H5.1.o2 ho B5); replace H6 := As (H6.1.o2 ho B5); replace B2 := Oo B2 ho NE2_5; replace B3 := Oo B3 ho NE3_5; replace B4 := Oo B4 ho NE4_5; replace B6 := Ou B6 ho NE5_6; replace HB := Lo HB ho G5; replace B5 := hB2; clear ho hB2) | ((with_reducible refine gate_dst (N := 6) rfl ?_); refine box_event (by rfl) (N := 6) (by rfl) (cs := #[.bool false, .slice none 0 0]) (t := 32) ?hr ?_; (case hr => first | (go_simp; done) | (go_simp; rfl)); intro g6 hgx w8 hbx hb; have B6 := As hbx; have NE2_6 := Nn B2 hgx; have NE3_6 := Nn B3 hgx; have NE4_6 := Nn B4 hgx; have NE5_6 := Nn B5 hgx; have G6 := Gg HB hgx; replace H5 := As (H5.1.be hb); replace H6 := As (H6.1.be hb); replace B2 := Bb B2 hb; replace B3 := Bb B3 hb; replace B4 := Bb B4 hb; replace B5 := Bb B5 hb; replace HB := Ob HB hb; clear hbx hb hgx) | ((with_reducible refine gate_dst (N := 5) rfl ?_); refine box_event (by rfl) (N := 5) (by rfl) (cs := #[.bool false, .slice none 0 0]) (t := 32) ?hr ?_; (case hr => first | (go_simp; done) | (go_simp; rfl)); intro g5 hgx w7 hbx hb; have B5 := As hbx; have NE2_5 := Nn B2 hgx; have NE3_5 := Nn B3 hgx; have NE4_5 := Nn B4 hgx; have G5 := Gg HB hgx; replace H5 := As (H5.1.be hb); replace H6 := As (H6.1.be hb); replace B2 := Bb B2 hb; replace B3 := Bb B3 hb; replace B4 := Bb B4 hb; replace HB := Ob HB hb; clear hbx hb hgx) | (go_at_call 39; (with_reducible refine (ratio_parts.run s _ _ _ _ _ _ a b L1 L2 _ (H91.1.be HB.1) (H92.1.be HB.1) (by have := HL.out; omega)).mono ?_); rintro e w4 ⟨s4, A4, k4, c4, t4, D4, l4, d4, n4, m4, rfl, hq4, hr4, hz4, hy4, hm4, hb⟩; have H5 := Aside0.mk hq4; have H6 := Aside0.mk hr4; have P4 := Aside0.mk (And.intro hz4 (And.intro hy4 hm4)); clear hq4 hr4 hz4 hy4 hm4; replace B2 := Bb B2 hb; replace B3 := Bb B3 hb; replace B4 := Bb B4 hb; replace HB := Ob HB hb; clear hb) | ((with_reducible refine gate_dst (N := 4) rfl ?_); refine box_event (by rfl) (N := 4) (by rfl) (cs := #[.bool false, .slice none 0 0, .slice none 0 0]) (t := 34) ?hr ?_; (case hr => first | (go_simp; done) | (go_simp; rfl)); intro g4 hgx w3 hbx hb; have B4 := As hbx; have NE2_4 := Nn B2 hgx; have NE3_4 := Nn B3 hgx; have G4 := Gg HB hgx; replace B2 := Bb B2 hb; replace B3 := Bb B3 hb; replace HB := Ob HB hb; clear hbx hb hgx; (try clear cb2_0); have cb2_0 := Cl0 B2; (try clear cb2_1); have cb2_1 := Cl1 B2; (try clear cb2_2); have cb2_2 := Cl2 B2) | ((with_reducible refine gate_dst (N := 3) rfl ?_); refine box_event (by rfl) (N := 3) (by rfl) (cs := #[.bool t, .slice D m1 m2, .slice E p1 p2]) (t := 34) ?hr ?_; (case hr => first | (go_simp; done) | (go_simp; rfl)); intro g3 hgx w2 hbx hb; have B3 := As hbx; have NE2_3 := Nn B2 hgx; have G3 := Gg HB hgx; replace B2 := Bb B2 hb; replace HB := Ob HB hb; clear hbx hb hgx) | ((with_reducible refine gate_dst (N := 2) rfl ?_); refine box_event (by rfl) (N := 2) (by rfl) (cs := #[.bool s, .slice A k c, .slice B l d]) (t := 34) ?hr ?_; (case hr => first | (go_simp; done) | (go_simp; rfl)); intro g2 hgx w1 hbx hb; have B2 := As hbx; have G2 := Gg HB hgx; replace HB := Ob HB hb; clear hbx hb hgx))
 replace H5 := As (H5.1.drew)
 replace H6 := As (H6.1.drew)
 replace H12 := As (H12.1.drew)
 replace H13 := As (H13.1.drew)
 replace B2 := Bd B2
 replace B3 := Bd B3
 replace B4 := Bd B4
 replace B5 := Bd B5
 replace B6 := Bd B6
 replace B7 := Bd B7
 replace B8 := Bd B8
 replace HB := Od HB
 refine start_ (n := 10) (S := fun w' => w'.cell? ⟨g5, 0, none⟩ = some (.bool s4) ∧ w'.cell? ⟨g5, 1, none⟩ = some (.slice A4 k4 c4) ∧ w'.cell? ⟨g7, 0, none⟩ = some (.bool s11) ∧ w'.cell? ⟨g7, 1, none⟩ = some (.slice A11 k11 c11) ∧ w'.cell? ⟨g6, 1, none⟩ = some (.slice D4 l4 d4) ∧ w'.cell? ⟨g8, 1, none⟩ = some (.slice D11 l11 d11)) (ds := [9]) (Bt 10 0) (by kernel_rfl) rfl (by kernel_rfl) ⟨Cl0 B5, Cl1 B5, Cl0 B7, Cl1 B7, Cl1 B6, Cl1 B8⟩ (fun hHeld => ?_)
 generalize w17.drew = w18 at hHeld H5 H6 H12 H13 B2 B3 B4 B5 B6 B7 B8 HB ⊢
 refine pure_ (i := 3) (N := some 22) (v := ?_) (a' := ?_) (Bt 10 8) rfl rfl (by kernel_rfl) (fun _ _ _ h => h) (Or.inl ⟨by rfl, ?_⟩) ?_ ?_
 rotate_left
 ·
  intro w'
  go_simp
  with_reducible rfl
 rotate_left
 ·
  simp only [Nrm, Option.some.injEq, List.setIfInBounds_toArray, List.set_cons_zero, List.set_cons_succ, i64_w, i32_w]
  rfl
 refine pure_ (i := 5) (N := some 24) (v := ?_) (a' := ?_) (Bt 10 40) rfl rfl (by kernel_rfl) (fun _ _ _ h => h) (Or.inl ⟨by rfl, ?_⟩) ?_ ?_
 rotate_left
 ·
  intro w'
  go_simp
  with_reducible rfl
 rotate_left
 ·
  simp only [Nrm, Option.some.injEq, List.setIfInBounds_toArray, List.set_cons_zero, List.set_cons_succ, i64_w, i32_w]
  rfl
 refine take_ (i := 0) (N := some 19) (v := ?_) (a' := ?_) (Bt 10 41) rfl rfl (by kernel_rfl) (fun _ _ _ h => h) (Or.inl ⟨by rfl, ?_⟩) hHeld ?_ ?_
 rotate_left
 ·
  rintro w' ⟨s0, s1, s2, s3, s4, s5⟩
  go_simp
  with_reducible rfl
 rotate_left
 ·
  simp only [Nrm, Option.some.injEq, List.setIfInBounds_toArray, List.set_cons_zero, List.set_cons_succ, i64_w, i32_w]
  rfl
 refine take_ (i := 1) (N := some 20) (v := ?_) (a' := ?_) (Bt 10 43) rfl rfl (by kernel_rfl) (fun _ _ _ h => h) (Or.inl ⟨by rfl, ?_⟩) hHeld ?_ ?_
 rotate_left
 ·
  rintro w' ⟨s0, s1, s2, s3, s4, s5⟩
  go_simp
  with_reducible rfl
 rotate_left
 ·
  simp only [Nrm, Option.some.injEq, List.setIfInBounds_toArray, List.set_cons_zero, List.set_cons_succ, i64_w, i32_w]
  rfl
 refine take_ (i := 4) (N := some 23) (v := ?_) (a' := ?_) (Bt 10 59) rfl rfl (by kernel_rfl) (fun _ _ _ h => h) (Or.inl ⟨by rfl, ?_⟩) hHeld ?_ ?_
 rotate_left
 ·
  rintro w' ⟨s0, s1, s2, s3, s4, s5⟩
  go_simp
  with_reducible rfl
 rotate_left
 ·
  simp only [Nrm, Option.some.injEq, List.setIfInBounds_toArray, List.set_cons_zero, List.set_cons_succ, i64_w, i32_w]
  rfl
 refine take_ (i := 6) (N := some 25) (v := ?_) (a' := ?_) (Bt 10 123) rfl rfl (by kernel_rfl) (fun _ _ _ h => h) (Or.inl ⟨by rfl, ?_⟩) hHeld ?_ ?_
 rotate_left
 ·
  rintro w' ⟨s0, s1, s2, s3, s4, s5⟩
  go_simp
  with_reducible rfl
 rotate_left
 ·
  simp only [Nrm, Option.some.injEq, List.setIfInBounds_toArray, List.set_cons_zero, List.set_cons_succ, i64_w, i32_w]
  rfl
 refine one_ (i := 2) (N := some 21) (Bt 10 127) rfl rfl (by kernel_rfl) (by decide) (fun K hK => ?_)
 refine goes_ Tryz.func41 (by kernel_rfl) rfl #[.agg #[.bool s4, .slice A4 k4 c4], .agg #[.bool s11, .slice A11 k11 c11]] (by rfl) rfl rfl (by (try simp only [List.map_toArray, List.map_cons, List.map_nil]); first | done | rfl) ?_
 with_reducible refine (integer_Mul.run s4 s11 _ _ _ _ _ _ n4 n11 L1 L3 _ H5.1.na H12.1.na (by have := HL.out; omega)).mono ?_
 rintro e w43 ⟨s43, A43, k43, c43, rfl, hr43, hz43, hu43, hb⟩
 refine ⟨_, rfl, ?_⟩
 have H44 := Aside0.mk hr43
 have Z43 := Aside0.mk (And.intro hz43 hu43)
 clear hr43 hz43 hu43
 replace H5 := As (H5.1.be hb)
 replace H6 := As (H6.1.be hb)
 replace H12 := As (H12.1.be hb)
 replace H13 := As (H13.1.be hb)
 replace B2 := Bb B2 hb
 replace B3 := Bb B3 hb
 replace B4 := Bb B4 hb
 replace B5 := Bb B5 hb
 replace B6 := Bb B6 hb
 replace B7 := Bb B7 hb
 replace B8 := Bb B8 hb
 replace HB := Ob HB hb
 clear hb
 refine hK.out _ _ ⟨Cl0 B5, Cl1 B5, Cl0 B7, Cl1 B7, Cl1 B6, Cl1 B8⟩ (fun hHeld => ?_)
 clear hK K
 refine norm_ (a' := ?_) ?_ ?_
 rotate_left
 ·
  show Act.put _ (some 21) _ = _
  simp only [Nrm, Option.some.injEq, List.setIfInBounds_toArray, List.set_cons_zero, List.set_cons_succ, i64_w, i32_w]
  rfl
 refine one_ (i := 7) (N := some 26) (Bt 10 255) rfl rfl (by kernel_rfl) (by decide) (fun K hK => ?_)
 refine goes_ Tryz.func70 (by kernel_rfl) rfl #[.slice D4 l4 d4, .slice D11 l11 d11] (by rfl) rfl rfl (by (try simp only [List.map_toArray, List.map_cons, List.map_nil]); first | done | rfl) ?_
 with_reducible refine (nat_Mul.run _ _ m4 m11 (L2 + 2) (L4 + 2) _ H6.1.na H13.1.na (by have := HL.out; omega)).mono ?_
 rintro e w103 ⟨r103, rfl, hr103, hb⟩
 refine ⟨_, rfl, ?_⟩
 obtain ⟨A103, k103, c103, rfl⟩ := hr103.sl
 have H104 := Aside0.mk hr103
 clear hr103
 replace H5 := As (H5.1.be hb)
 replace H6 := As (H6.1.be hb)
 replace H12 := As (H12.1.be hb)
 replace H13 := As (H13.1.be hb)
 replace H44 := As (H44.1.be hb)
 replace B2 := Bb B2 hb
 replace B3 := Bb B3 hb
 replace B4 := Bb B4 hb
 replace B5 := Bb B5 hb
 replace B6 := Bb B6 hb
 replace B7 := Bb B7 hb
 replace B8 := Bb B8 hb
 replace HB := Ob HB hb
 clear hb
 refine hK.out _ _ ⟨Cl0 B5, Cl1 B5, Cl0 B7, Cl1 B7, Cl1 B6, Cl1 B8⟩ (fun hHeld => ?_)
 clear hK K
 refine norm_ (a' := ?_) ?_ ?_
 rotate_left
 ·
  show Act.put _ (some 26) _ = _
  simp only [Nrm, Option.some.injEq, List.setIfInBounds_toArray, List.set_cons_zero, List.set_cons_succ, i64_w, i32_w]
  rfl
 refine one_ (i := 8) (N := some 27) (Bt 10 511) rfl rfl (by kernel_rfl) (by decide) (fun K hK => ?_)
 refine goes_ Tryz.func72 (by kernel_rfl) rfl #[.agg #[.bool s43, .slice A43 k43 c43], .slice A103 k103 c103] (by rfl) rfl rfl (by (try simp only [List.map_toArray, List.map_cons, List.map_nil]); first | done | rfl) ?_
 with_reducible refine (ratio_lowest.run _ _ _ _ _ _ _ (n4 * n11) (m4 * m11) (L1 + L3) ((L2 + 2) + (L4 + 2)) _ H44.1.na H104.1.na (by rw [P4.out.2.2, P11.out.2.2]; exact Nat.mul_pos (pd_pos _) (pd_pos _)) (by have := HL.out; omega)).mono ?_
 rintro e w115 ⟨s115, A115, k115, c115, D115, l115, d115, n115, m115, rfl, hq115, hr115, hm115, hz115, hb⟩
 refine ⟨_, rfl, ?_⟩
 have H116 := Aside0.mk hq115
 have H117 := Aside0.mk hr115
 have F115 := Aside0.mk (And.intro hm115 hz115)
 clear hq115 hr115 hm115 hz115
 replace H5 := As (H5.1.be hb)
 replace H6 := As (H6.1.be hb)
 replace H12 := As (H12.1.be hb)
 replace H13 := As (H13.1.be hb)
 replace H44 := As (H44.1.be hb)
 replace H104 := As (H104.1.be hb)
 replace B2 := Bb B2 hb
 replace B3 := Bb B3 hb
 replace B4 := Bb B4 hb
 replace B5 := Bb B5 hb
 replace B6 := Bb B6 hb
 replace B7 := Bb B7 hb
 replace B8 := Bb B8 hb
 replace HB := Ob HB hb
 clear hb
 refine hK.out _ _ ⟨Cl0 B5, Cl1 B5, Cl0 B7, Cl1 B7, Cl1 B6, Cl1 B8⟩ (fun hHeld => ?_)
 clear hK K
 refine norm_ (a' := ?_) ?_ ?_
 rotate_left
 ·
  show Act.put _ (some 27) _ = _
  simp only [Nrm, Option.some.injEq, List.setIfInBounds_toArray, List.set_cons_zero, List.set_cons_succ, i64_w, i32_w]
  rfl
 refine last_ (i := 9) (N := none) (Bt 10 1023) rfl rfl (by kernel_rfl) (by decide) (fun K hK => ?_)
 (try clear cb4_0)
 have cb4_0 := Cl0 B4
 (try clear fb4_0)
 have fb4_0 := Fz B4 0
 (try clear cb4_1)
 have cb4_1 := Cl1 B4
 (try clear fb4_1)
 have fb4_1 := Fz B4 1
 (try clear cb4_2)
 have cb4_2 := Cl2 B4
 (try clear fb4_2)
 have fb4_2 := Fz B4 2
 refine skip_ (w1 := ?_) (by rfl) rfl ?_ ?_
 rotate_left
 ·
  go_simp
  rfl
 generalize hw : (((w115.setCell ⟨g4, 0, none⟩ (.bool s115)).setCell ⟨g4, 1, none⟩ (.slice A115 k115 c115)).setCell ⟨g4, 2, none⟩ (.slice D115 l115 d115)) = w127
 replace hw := Eq.symm hw
 have ho : Only w115 w127 g4 := (by rw [hw]; exact Only.setg (Only.setg (Only.setg (Only.refl _ _) 0 _) 1 _) 2 _)
 have hB2 : w127.heap[g4]? = some (.cells #[.bool s115, .slice A115 k115 c115, .slice D115 l115 d115] 34 (0, 0)) := (by rw [hw]; exact (blk_put (blk_put (blk_put B4.out 0 _ rfl) 1 _ rfl) 2 _ rfl))
 replace H5 := As (H5.1.o3 ho B4)
 replace H6 := As (H6.1.o3 ho B4)
 replace H12 := As (H12.1.o3 ho B4)
 replace H13 := As (H13.1.o3 ho B4)
 replace H44 := As (H44.1.o3 ho B4)
 replace H104 := As (H104.1.o3 ho B4)
 replace H116 := As (H116.1.o3 ho B4)
 replace H117 := As (H117.1.o3 ho B4)
 replace B2 := Oo B2 ho NE2_4
 replace B3 := Oo B3 ho NE3_4
 replace B5 := Ou B5 ho NE4_5
 replace B6 := Ou B6 ho NE4_6
 replace B7 := Ou B7 ho NE4_7
 replace B8 := Ou B8 ho NE4_8
 replace HB := Lo HB ho G4
 replace B4 := As hB2
 clear hw ho hB2
 refine hK.out _ _ ?_
 clear hK K
 refine done_ (by kernel_rfl) ?_
 go_wp2
 try simp only [Exit.inBlock, Exit.then]
 refine bodyPost_ret (results_cell_row rfl _ _ g4 34 #[.bool s115, .slice A115 k115 c115, .slice D115 l115 d115] (0, 0) _ rfl B4.out Tryz.underlying34 rfl (by kernel_rfl)) rfl ?_
 refine ⟨_, _, _, _, _, _, _, _, _, rfl, (H116.1).mono (by omega), (H117.1).mono (by omega), F115.out.1, ?_, HB.out⟩
 have hz := F115.out.2
 rw [Z43.out.1, P4.out.1, P11.out.1, P4.out.2.2, P11.out.2.2] at hz
 exact hz
end Go.Proofs.YtnmfmiemkcaocaaGreat.Hand
namespace Go.Proofs.YtnmfmiemkcaocaaGreat.Hand
open Go.RowKit Go.Proofs.YtnmfmiemkcaocaaGreatW.PrintWords Go.Proofs.YtnmfmiemkcaocaaGreatW.PrintLast Go.Proofs.YtnmfmiemkcaocaaGreatW.PrintMore
set_option linter.unusedVariables false
set_option linter.unusedSimpArgs false
def offAt (ps qs : List Int) (i : Nat) : Bool := !(decide (-1000 ≤ ps.getD i 0) && decide (ps.getD i 0 ≤ 1000) && decide (1 ≤ qs.getD i 0) && decide (qs.getD i 0 ≤ 1000))
def gridV (ps qs : List Int) : Int :=
 if 21 < ps.length then 5 else if ps.length = 0 then 20 else if qs.length ≠ ps.length then 1
 else if (List.range ps.length).any (offAt ps qs) then 3
 else if (List.range (ps.length - 1)).any (fun i => decide (ps.getD (i + 1) 0 ≤ ps.getD i 0)) then 23 else 0
theorem any_of {n i : Nat} {f : Nat → Bool} (hi : i < n) (h : f i = true) : (List.range n).any f = true := by
 rw [List.any_eq_true]
 exact ⟨i, List.mem_range.2 hi, h⟩
theorem none_of {n : Nat} {f : Nat → Bool} (h : ∀ i, i < n → f i = false) : (List.range n).any f = false := by
 rw [List.any_eq_false]
 intro i hi
 rw [h i (List.mem_range.1 hi)]
 simp
theorem grid_Valid.run (ps qs : List Int) (P Q : Option Addr) (cp cq : Nat) (w : World) (hp : Kd.C (Kd.int .i64) w P ps.length ps) (hq : Kd.C (Kd.int .i64) w Q qs.length qs) (hcp : ps.length ≤ cp) :
  Calls Tryz.prog 22 #[.agg #[.slice P ps.length cp, .slice Q qs.length cq]] w fun e w' => e = .returned (.int .i64 (gridV ps qs)) ∧ Below w.heap.size w w' := by
 have HP := Aside0.mk hp
 have HQ := Aside0.mk hq
 have HB := Aside0.mk (Below.refl w.heap.size w)
 have HC := Aside0.mk hcp
 clear hp hq hcp
 by_cases c1 : 21 < ps.length
 ·
  have k1 : decide ((21 : Int) < (ps.length : Int)) = true := decide_eq_true (by omega)
  have D := Aside0.mk c1
  clear c1
  go_enter Tryz.func22, Tryz.ntmps22
  go_wp2_with (first | ((with_reducible refine gate_dst (N := 1) rfl ?_); refine box_event ?hg (N := 1) ?hd (cs := #[.slice P ps.length cp, .slice Q qs.length cq]) (t := 27) ?hr ?_; (case hd => rfl); (case hg => rfl); (case hr => first | (go_simp; done) | (go_simp; rfl)); intro g hg w1 hbox hb; have B0 := Aside0.mk hbox; replace HB := Aside0.mk hb; have hc0 := blk_cell hbox 0; have hc1 := blk_cell hbox 1; clear hg hbox hb))
  go_ret
  refine ⟨?_, HB.out⟩
  rw [show gridV ps qs = 5 by unfold gridV; rw [if_pos D.out]]
  rfl
 ·
  have k1 : decide ((21 : Int) < (ps.length : Int)) = false := decide_eq_false (by omega)
  by_cases c2 : ps.length = 0
  ·
   have k2 : ((ps.length : Int) == 0) = true := by rw [beq_iff_eq]; omega
   have D := Aside0.mk (And.intro (Nat.not_lt.1 c1) c2)
   clear c1 c2
   go_enter Tryz.func22, Tryz.ntmps22
   go_wp2_with (first | ((with_reducible refine gate_dst (N := 1) rfl ?_); refine box_event ?hg (N := 1) ?hd (cs := #[.slice P ps.length cp, .slice Q qs.length cq]) (t := 27) ?hr ?_; (case hd => rfl); (case hg => rfl); (case hr => first | (go_simp; done) | (go_simp; rfl)); intro g hg w1 hbox hb; have B0 := Aside0.mk hbox; replace HB := Aside0.mk hb; have hc0 := blk_cell hbox 0; have hc1 := blk_cell hbox 1; clear hg hbox hb))
   go_ret
   refine ⟨?_, HB.out⟩
   rw [show gridV ps qs = 20 by unfold gridV; rw [if_neg (Nat.not_lt.2 D.out.1), if_pos D.out.2]]
   rfl
  ·
   have k2 : ((ps.length : Int) == 0) = false := by rw [beq_eq_false_iff_ne]; omega
   by_cases c3 : qs.length = ps.length
   ·
    have k3 : ((qs.length : Int) == (ps.length : Int)) = true := by rw [beq_iff_eq]; omega
    have k3n : (qs.length == ps.length) = true := by rw [beq_iff_eq]; omega
    have D := Aside0.mk (show ps.length ≤ 21 ∧ ps.length ≠ 0 ∧ qs.length = ps.length ∧ 0 < ps.length from ⟨by omega, c2, c3, by omega⟩)
    obtain ⟨ad, ea, _⟩ := Kd.at_int HP.out 0 (Int.le_refl 0) (by omega)
    subst ea
    have hlen1 : (1 ≤ ps.length) = True := eq_true (by omega)
    have hlen2 : ((1 : Int) ≤ (ps.length : Int)) = True := eq_true (by omega)
    obtain ⟨N1, hN1⟩ : ∃ n, ps.length - 1 = n := ⟨_, rfl⟩
    have HN1 := Aside0.mk hN1
    clear c1 c2 c3
    go_enter Tryz.func22, Tryz.ntmps22
    go_wp2_with (first | ((with_reducible refine gate_dst (N := 1) rfl ?_); refine box_event ?hg (N := 1) ?hd (cs := #[.slice (some ad) ps.length cp, .slice Q qs.length cq]) (t := 27) ?hr ?_; (case hd => rfl); (case hg => rfl); (case hr => first | (go_simp; done) | (go_simp; rfl)); intro g hg w1 hbox hb; have B0 := Aside0.mk hbox; replace HB := Aside0.mk hb; have hc0 := blk_cell hbox 0; have hc1 := blk_cell hbox 1; clear hg hbox hb))
    go_loopg [27] ps.length (fun kq v27 w' => ∃ i : Int, v27 = .int .i64 i ∧ Aside0 (i + kq = (ps.length : Int) ∧ kq ≤ ps.length) ∧ Aside0 (∀ j, j < i.toNat → offAt ps qs j = false) ∧ w' = w1)
    case atStart => exact ⟨0, rfl, ⟨by omega, Nat.le_refl _⟩, ⟨fun j hj => absurd hj (by simp)⟩, rfl⟩
    case round =>
     obtain ⟨i, rfl, HI, HN, hww⟩ := hrel
     subst hww
     by_cases ci : i < (ps.length : Int)
     ·
      have d1 : decide (i < (ps.length : Int)) = true := decide_eq_true ci
      have p1 : 0 ≤ i := by have := HI.out; omega
      obtain ⟨g1, hk⟩ : ∃ g1, gk = g1 + 1 := ⟨gk - 1, by have := HI.out; omega⟩
      subst hk
      obtain ⟨ad1, ea, hx⟩ := Kd.at_int HP.out i p1 ci
      cases ea
      replace hx := (HB.out.cell (World.block_lt_of_cell? w _ hx)).trans hx
      obtain ⟨x, hxe⟩ : ∃ x, rd ps i = x := ⟨_, rfl⟩
      rw [hxe] at hx
      obtain ⟨bd, eb, hy⟩ := Kd.at_int HQ.out i p1 (by rw [D.out.2.2.1]; exact ci)
      subst eb
      replace hy := (HB.out.cell (World.block_lt_of_cell? w _ hy)).trans hy
      obtain ⟨y, hye⟩ : ∃ y, rd qs i = y := ⟨_, rfl⟩
      rw [hye] at hy
      obtain ⟨i1, hi1⟩ : ∃ i1, IntKind.i64.wrap (i + 1) = i1 := ⟨_, rfl⟩
      have E := Aside0.mk (show 0 ≤ i ∧ i < (ps.length : Int) ∧ ps.getD i.toNat 0 = x ∧ qs.getD i.toNat 0 = y from ⟨p1, ci, hxe, hye⟩)
      clear hxe hye
      have p2 := eq_true p1
      have q1 := eq_true ci
      have q2 : (i < (qs.length : Int)) = True := eq_true (by rw [D.out.2.2.1]; exact ci)
      clear p1 ci
      by_cases e0 : -1000 ≤ x
      ·
       skip
       by_cases e1 : x ≤ 1000
       ·
        skip
        by_cases e2 : 1 ≤ y
        ·
         skip
         by_cases e3 : y ≤ 1000
         ·
          skip
          have F := Aside0.mk (show -1000 ≤ x ∧ x ≤ 1000 ∧ 1 ≤ y ∧ y ≤ 1000 from ⟨e0, e1, e2, e3⟩)
          have m1 : decide (-1000 ≤ x) = true := decide_eq_true e0
          have m2 : decide (x ≤ 1000) = true := decide_eq_true e1
          have m3 : decide (1 ≤ y) = true := decide_eq_true e2
          have m4 : decide (y ≤ 1000) = true := decide_eq_true e3
          clear e0 e1 e2 e3
          go_wp2
          go_roundg g1
          case measure => omega
          case rel =>
           obtain ⟨h0, h1, h2, h3⟩ := E.out
           have hD := D.out
           have hI := HI.out
           have ei1 : i1 = i + 1 := by rw [← hi1, i64_w]; unfold wrap64; omega
           refine ⟨i1, rfl, ⟨by omega, by omega⟩, ⟨fun j hj => ?_⟩, rfl⟩
           rcases Nat.lt_or_ge j i.toNat with hh | hh
           ·
            exact HN.out j hh
           ·
            obtain ⟨f1, f2, f3, f4⟩ := F.out
            have : j = i.toNat := by omega
            subst this
            unfold offAt
            rw [h2, h3, decide_eq_true f1, decide_eq_true f2, decide_eq_true f3, decide_eq_true f4]
            rfl
         ·
          have F := Aside0.mk (Int.not_le.1 e3)
          have m1 : decide (-1000 ≤ x) = true := decide_eq_true e0
          have m2 : decide (x ≤ 1000) = true := decide_eq_true e1
          have m3 : decide (1 ≤ y) = true := decide_eq_true e2
          have m4 : decide (y ≤ 1000) = false := decide_eq_false e3
          clear e0 e1 e2 e3
          go_wp2
          go_ret
          refine ⟨?_, HB.out⟩
          obtain ⟨h0, h1, h2, h3⟩ := E.out
          have hoff : offAt ps qs i.toNat = true := by
           unfold offAt
           rw [h2, h3]
           have f := F.out
           have f2 : ¬ (y ≤ 1000) := Int.not_le.2 f
           simp [f2]
          rw [show gridV ps qs = 3 by unfold gridV; rw [if_neg (Nat.not_lt.2 D.out.1), if_neg D.out.2.1, if_neg (fun h => h D.out.2.2.1), if_pos (any_of (by omega) hoff)]]
          rfl
        ·
         have F := Aside0.mk (Int.not_le.1 e2)
         have m1 : decide (-1000 ≤ x) = true := decide_eq_true e0
         have m2 : decide (x ≤ 1000) = true := decide_eq_true e1
         have m3 : decide (1 ≤ y) = false := decide_eq_false e2
         clear e0 e1 e2
         go_wp2
         go_ret
         refine ⟨?_, HB.out⟩
         obtain ⟨h0, h1, h2, h3⟩ := E.out
         have hoff : offAt ps qs i.toNat = true := by
          unfold offAt
          rw [h2, h3]
          have f := F.out
          have f2 : ¬ (1 ≤ y) := Int.not_le.2 f
          simp [f2]
         rw [show gridV ps qs = 3 by unfold gridV; rw [if_neg (Nat.not_lt.2 D.out.1), if_neg D.out.2.1, if_neg (fun h => h D.out.2.2.1), if_pos (any_of (by omega) hoff)]]
         rfl
       ·
        have F := Aside0.mk (Int.not_le.1 e1)
        have m1 : decide (-1000 ≤ x) = true := decide_eq_true e0
        have m2 : decide (x ≤ 1000) = false := decide_eq_false e1
        clear e0 e1
        go_wp2
        go_ret
        refine ⟨?_, HB.out⟩
        obtain ⟨h0, h1, h2, h3⟩ := E.out
        have hoff : offAt ps qs i.toNat = true := by
         unfold offAt
         rw [h2, h3]
         have f := F.out
         have f2 : ¬ (x ≤ 1000) := Int.not_le.2 f
         simp [f2]
        rw [show gridV ps qs = 3 by unfold gridV; rw [if_neg (Nat.not_lt.2 D.out.1), if_neg D.out.2.1, if_neg (fun h => h D.out.2.2.1), if_pos (any_of (by omega) hoff)]]
        rfl
      ·
       have F := Aside0.mk (Int.not_le.1 e0)
       have m1 : decide (-1000 ≤ x) = false := decide_eq_false e0
       clear e0
       go_wp2
       go_ret
       refine ⟨?_, HB.out⟩
       obtain ⟨h0, h1, h2, h3⟩ := E.out
       have hoff : offAt ps qs i.toNat = true := by
        unfold offAt
        rw [h2, h3]
        have f := F.out
        have f2 : ¬ (-1000 ≤ x) := Int.not_le.2 f
        simp [f2]
       rw [show gridV ps qs = 3 by unfold gridV; rw [if_neg (Nat.not_lt.2 D.out.1), if_neg D.out.2.1, if_neg (fun h => h D.out.2.2.1), if_pos (any_of (by omega) hoff)]]
       rfl
     ·
      have d1 : decide (i < (ps.length : Int)) = false := decide_eq_false ci
      have HF := Aside0.mk (show ∀ j, j < ps.length → offAt ps qs j = false from fun j hj => HN.out j (by omega))
      clear ci
      by_cases hz : cp = 1
      ·
       have kz : (cp = 1) = True := eq_true hz
       clear hz
       go_wp2
       go_loopg [49] N1 (fun kq v49 w' => ∃ i : Int, v49 = .int .i64 i ∧ Aside0 (i + kq = (N1 : Int) ∧ kq ≤ N1) ∧ Aside0 (∀ j, j < i.toNat → decide (ps.getD (j + 1) 0 ≤ ps.getD j 0) = false) ∧ Aside0 (∃ n, w' = wr.drewN n))
       case atStart => exact ⟨0, rfl, ⟨by omega, Nat.le_refl _⟩, ⟨fun j hj => absurd hj (by simp)⟩, ⟨0, rfl⟩⟩
       case round =>
        obtain ⟨k, rfl, HK, HU, HW⟩ := hrel
        obtain ⟨nd, hnd⟩ := HW.out
        subst hnd
        by_cases ck : k < (N1 : Int)
        ·
         have d2 : decide (k < (N1 : Int)) = true := decide_eq_true ck
         have p1 : 0 ≤ k := by have := HK.out; omega
         obtain ⟨g2, hk⟩ : ∃ g1, gk = g1 + 1 := ⟨gk - 1, by have := HK.out; omega⟩
         subst hk
         obtain ⟨k1, hk1⟩ : ∃ x, IntKind.i64.wrap (k + 1) = x := ⟨_, rfl⟩
         have ek1 : k1 = k + 1 := by have := HK.out; have := HN1.out; have := D.out; rw [← hk1, i64_w]; unfold wrap64; omega
         obtain ⟨ad1, ea, hx⟩ := Kd.at_int HP.out k p1 (by have := HN1.out; omega)
         cases ea
         replace hx := (HB.out.cell (World.block_lt_of_cell? w _ hx)).trans hx
         obtain ⟨x, hxe⟩ : ∃ x, rd ps k = x := ⟨_, rfl⟩
         rw [hxe] at hx
         obtain ⟨ad2, ea, hy⟩ := Kd.at_int HP.out k1 (by omega) (by have := HN1.out; omega)
         cases ea
         replace hy := (HB.out.cell (World.block_lt_of_cell? w _ hy)).trans hy
         obtain ⟨y, hye⟩ : ∃ y, rd ps k1 = y := ⟨_, rfl⟩
         rw [hye] at hy
         have E := Aside0.mk (show 0 ≤ k ∧ k < (N1 : Int) ∧ ps.getD k.toNat 0 = x ∧ ps.getD (k.toNat + 1) 0 = y ∧ k1 = k + 1 from ⟨p1, ck, hxe, by rw [← hye, ek1]; unfold rd; congr 1; omega, ek1⟩)
         have p2 := eq_true p1
         have q1 : (k < (ps.length : Int)) = True := eq_true (by have := HN1.out; omega)
         have p3 : (0 ≤ k1) = True := eq_true (by omega)
         have q3 : (k1 < (ps.length : Int)) = True := eq_true (by have := HN1.out; omega)
         clear hxe hye p1 ck ek1
         by_cases e : y ≤ x
         ·
          have m : decide (y ≤ x) = true := decide_eq_true e
          have F := Aside0.mk e
          clear e
          go_wp2
          go_quiet (fail)
          go_wp2
          go_ret
          refine ⟨?_, by first | exact pw_below_drewN (pw_below_drewN HB.out _) _ | exact pw_below_drewN HB.out _⟩
          obtain ⟨h0, h1, h2, h3, h4⟩ := E.out
          rw [show gridV ps qs = 23 by
           unfold gridV
           rw [if_neg (Nat.not_lt.2 D.out.1), if_neg D.out.2.1, if_neg (fun h => h D.out.2.2.1), if_neg (by rw [none_of HF.out]; exact Bool.false_ne_true), if_pos (any_of (i := k.toNat) (by have := HN1.out; omega) (by rw [h2, h3]; exact decide_eq_true F.out))]]
          rfl
         ·
          have m : decide (y ≤ x) = false := decide_eq_false e
          have F := Aside0.mk (Int.not_le.1 e)
          clear e
          go_wp2
          go_quiet (fail)
          go_wp2
          go_roundg g2
          case measure => omega
          case rel =>
           obtain ⟨h0, h1, h2, h3, h4⟩ := E.out
           have hK := HK.out
           refine ⟨k1, rfl, ⟨by omega, by omega⟩, ⟨fun j hj => ?_⟩, by ((try refine Aside0.mk ?_); (first | exact ⟨_, rfl⟩ | (simp only [World.drewN_drewN]; exact ⟨_, rfl⟩)))⟩
           rcases Nat.lt_or_ge j k.toNat with hh | hh
           ·
            exact HU.out j hh
           ·
            have : j = k.toNat := by omega
            subst this
            rw [h2, h3]
            exact decide_eq_false (Int.not_le.2 F.out)
        ·
         have d2 : decide (k < (N1 : Int)) = false := decide_eq_false ck
         have HV := Aside0.mk (show ∀ j, j < ps.length - 1 → decide (ps.getD (j + 1) 0 ≤ ps.getD j 0) = false from fun j hj => HU.out j (by have := HN1.out; omega))
         clear ck
         go_wp2
         go_ret
         refine ⟨?_, by first | exact pw_below_drewN (pw_below_drewN HB.out _) _ | exact pw_below_drewN HB.out _⟩
         rw [show gridV ps qs = 0 by
          unfold gridV
          rw [if_neg (Nat.not_lt.2 D.out.1), if_neg D.out.2.1, if_neg (fun h => h D.out.2.2.1), if_neg (by rw [none_of HF.out]; exact Bool.false_ne_true), if_neg (by rw [none_of HV.out]; exact Bool.false_ne_true)]]
         rfl
      ·
       have kz : (cp = 1) = False := eq_false hz
       clear hz
       go_wp2
       go_loopg [49] N1 (fun kq v49 w' => ∃ i : Int, v49 = .int .i64 i ∧ Aside0 (i + kq = (N1 : Int) ∧ kq ≤ N1) ∧ Aside0 (∀ j, j < i.toNat → decide (ps.getD (j + 1) 0 ≤ ps.getD j 0) = false) ∧ Aside0 (∃ n, w' = wr.drewN n))
       case atStart => exact ⟨0, rfl, ⟨by omega, Nat.le_refl _⟩, ⟨fun j hj => absurd hj (by simp)⟩, ⟨0, rfl⟩⟩
       case round =>
        obtain ⟨k, rfl, HK, HU, HW⟩ := hrel
        obtain ⟨nd, hnd⟩ := HW.out
        subst hnd
        by_cases ck : k < (N1 : Int)
        ·
         have d2 : decide (k < (N1 : Int)) = true := decide_eq_true ck
         have p1 : 0 ≤ k := by have := HK.out; omega
         obtain ⟨g2, hk⟩ : ∃ g1, gk = g1 + 1 := ⟨gk - 1, by have := HK.out; omega⟩
         subst hk
         obtain ⟨k1, hk1⟩ : ∃ x, IntKind.i64.wrap (k + 1) = x := ⟨_, rfl⟩
         have ek1 : k1 = k + 1 := by have := HK.out; have := HN1.out; have := D.out; rw [← hk1, i64_w]; unfold wrap64; omega
         obtain ⟨ad1, ea, hx⟩ := Kd.at_int HP.out k p1 (by have := HN1.out; omega)
         cases ea
         replace hx := (HB.out.cell (World.block_lt_of_cell? w _ hx)).trans hx
         obtain ⟨x, hxe⟩ : ∃ x, rd ps k = x := ⟨_, rfl⟩
         rw [hxe] at hx
         obtain ⟨ad2, ea, hy⟩ := Kd.at_int HP.out k1 (by omega) (by have := HN1.out; omega)
         cases ea
         replace hy := (HB.out.cell (World.block_lt_of_cell? w _ hy)).trans hy
         obtain ⟨y, hye⟩ : ∃ y, rd ps k1 = y := ⟨_, rfl⟩
         rw [hye] at hy
         have E := Aside0.mk (show 0 ≤ k ∧ k < (N1 : Int) ∧ ps.getD k.toNat 0 = x ∧ ps.getD (k.toNat + 1) 0 = y ∧ k1 = k + 1 from ⟨p1, ck, hxe, by rw [← hye, ek1]; unfold rd; congr 1; omega, ek1⟩)
         have p2 := eq_true p1
         have q1 : (k < (ps.length : Int)) = True := eq_true (by have := HN1.out; omega)
         have p3 : (0 ≤ k1) = True := eq_true (by omega)
         have q3 : (k1 < (ps.length : Int)) = True := eq_true (by have := HN1.out; omega)
         clear hxe hye p1 ck ek1
         by_cases e : y ≤ x
         ·
          have m : decide (y ≤ x) = true := decide_eq_true e
          have F := Aside0.mk e
          clear e
          go_wp2
          go_quiet (fail)
          go_wp2
          go_ret
          refine ⟨?_, by first | exact pw_below_drewN (pw_below_drewN HB.out _) _ | exact pw_below_drewN HB.out _⟩
          obtain ⟨h0, h1, h2, h3, h4⟩ := E.out
          rw [show gridV ps qs = 23 by
           unfold gridV
           rw [if_neg (Nat.not_lt.2 D.out.1), if_neg D.out.2.1, if_neg (fun h => h D.out.2.2.1), if_neg (by rw [none_of HF.out]; exact Bool.false_ne_true), if_pos (any_of (i := k.toNat) (by have := HN1.out; omega) (by rw [h2, h3]; exact decide_eq_true F.out))]]
          rfl
         ·
          have m : decide (y ≤ x) = false := decide_eq_false e
          have F := Aside0.mk (Int.not_le.1 e)
          clear e
          go_wp2
          go_quiet (fail)
          go_wp2
          go_roundg g2
          case measure => omega
          case rel =>
           obtain ⟨h0, h1, h2, h3, h4⟩ := E.out
           have hK := HK.out
           refine ⟨k1, rfl, ⟨by omega, by omega⟩, ⟨fun j hj => ?_⟩, by ((try refine Aside0.mk ?_); (first | exact ⟨_, rfl⟩ | (simp only [World.drewN_drewN]; exact ⟨_, rfl⟩)))⟩
           rcases Nat.lt_or_ge j k.toNat with hh | hh
           ·
            exact HU.out j hh
           ·
            have : j = k.toNat := by omega
            subst this
            rw [h2, h3]
            exact decide_eq_false (Int.not_le.2 F.out)
        ·
         have d2 : decide (k < (N1 : Int)) = false := decide_eq_false ck
         have HV := Aside0.mk (show ∀ j, j < ps.length - 1 → decide (ps.getD (j + 1) 0 ≤ ps.getD j 0) = false from fun j hj => HU.out j (by have := HN1.out; omega))
         clear ck
         go_wp2
         go_ret
         refine ⟨?_, by first | exact pw_below_drewN (pw_below_drewN HB.out _) _ | exact pw_below_drewN HB.out _⟩
         rw [show gridV ps qs = 0 by
          unfold gridV
          rw [if_neg (Nat.not_lt.2 D.out.1), if_neg D.out.2.1, if_neg (fun h => h D.out.2.2.1), if_neg (by rw [none_of HF.out]; exact Bool.false_ne_true), if_neg (by rw [none_of HV.out]; exact Bool.false_ne_true)]]
         rfl
   ·
    have k3 : ((qs.length : Int) == (ps.length : Int)) = false := by rw [beq_eq_false_iff_ne]; omega
    have k3n : (qs.length == ps.length) = false := by rw [beq_eq_false_iff_ne]; omega
    have D := Aside0.mk (And.intro (Nat.not_lt.1 c1) (And.intro c2 c3))
    clear c1 c2 c3
    go_enter Tryz.func22, Tryz.ntmps22
    go_wp2_with (first | ((with_reducible refine gate_dst (N := 1) rfl ?_); refine box_event ?hg (N := 1) ?hd (cs := #[.slice P ps.length cp, .slice Q qs.length cq]) (t := 27) ?hr ?_; (case hd => rfl); (case hg => rfl); (case hr => first | (go_simp; done) | (go_simp; rfl)); intro g hg w1 hbox hb; have B0 := Aside0.mk hbox; replace HB := Aside0.mk hb; have hc0 := blk_cell hbox 0; have hc1 := blk_cell hbox 1; clear hg hbox hb))
    go_ret
    refine ⟨?_, HB.out⟩
    rw [show gridV ps qs = 1 by unfold gridV; rw [if_neg (Nat.not_lt.2 D.out.1), if_neg D.out.2.1, if_pos D.out.2.2]]
    rfl
end Go.Proofs.YtnmfmiemkcaocaaGreat.Hand
namespace Go.Proofs.YtnmfmiemkcaocaaGreat.Hand
open Go.RowKit Go.Proofs.YtnmfmiemkcaocaaGreatW.PrintWords Go.Proofs.YtnmfmiemkcaocaaGreatW.PrintLast Go.Proofs.YtnmfmiemkcaocaaGreatW.PrintMore
set_option linter.unusedVariables false
set_option linter.unusedSimpArgs false
def WR (w : World) (A : Option Addr) (wss : List (List Int)) (L : Nat) : Prop := Kd.C (Kd.slice 52 (Kd.int .u32)) w A wss.length wss ∧ (∀ xs ∈ wss, Rg xs) ∧ (wss.map List.length).sum ≤ L
theorem WR.below {w W : World} {A : Option Addr} {wss : List (List Int)} {L : Nat} (h : WR w A wss L) (hb : Below w.heap.size w W) : WR W A wss L := ⟨Kd.C_below h.1 hb, h.2⟩
theorem getD_mem {α : Type} {l : List α} {i : Nat} {d : α} (h : i < l.length) : l.getD i d ∈ l := by
 rw [List.getD_eq_getElem?_getD, List.getElem?_eq_getElem h]
 exact List.getElem_mem h
theorem le_sum {l : List Nat} {x : Nat} (h : x ∈ l) : x ≤ l.sum := by
 induction l with
 | nil => simp at h
 | cons y l ih =>
  rw [List.sum_cons]
  rcases List.mem_cons.1 h with rfl | h
  ·
   omega
  ·
   have := ih h; omega
theorem WR.at' {w : World} {A : Option Addr} {wss : List (List Int)} {L : Nat} (h : WR w A wss L) (i : Int) (h0 : 0 ≤ i) (h1 : i < wss.length) :
  ∃ ad B k c, A = some ad ∧ w.cell? (ad.add i.toNat) = some (.slice B k c) ∧ NA w (.slice B k c) (nv (wss.getD i.toNat [])) (wss.getD i.toNat []).length ∧ (wss.getD i.toNat []).length ≤ L := by
 obtain ⟨ad, cs, e, hl, ⟨B, c, ec, hlc, hr⟩, hc⟩ := ReadsRow.get_ h.1 [] i h0 h1
 have hm := getD_mem (l := wss) (d := []) (show i.toNat < wss.length by omega)
 refine ⟨ad, B, _, c, e, ?_, ⟨_, ⟨B, c, rfl, hlc, hr⟩, h.2.1 _ hm, rfl, Nat.le_refl _⟩, Nat.le_trans (le_sum (List.mem_map.2 ⟨_, hm, rfl⟩)) h.2.2⟩
 have := hc 0 (.slice B (wss.getD i.toNat []).length c) (by rw [ec]; rfl)
 rw [show i.toNat * (Kd.slice 52 (Kd.int .u32)).sz + 0 = i.toNat from by show i.toNat * 1 + 0 = _; omega] at this
 exact this
theorem WR.at {w : World} {A : Option Addr} {wss : List (List Int)} {L : Nat} (h : WR w A wss L) (i : Int) (h0 : 0 ≤ i) (h1 : i < wss.length) :
  ∃ ad B k c, A = some ad ∧ w.cell? (ad.add i.toNat) = some (.slice B k c) ∧ NA w (.slice B k c) (nv (wss.getD i.toNat [])) L := by
 obtain ⟨ad, B, k, c, e, h1, h2, h3⟩ := h.at' i h0 h1
 exact ⟨ad, B, k, c, e, h1, h2.mono h3⟩
def tot (wss : List (List Int)) (i : Nat) : Nat := ((wss.take i).map List.length).sum
theorem tot_succ (wss : List (List Int)) (i : Nat) (h : i < wss.length) : tot wss (i + 1) = tot wss i + (wss.getD i []).length := by
 unfold tot
 rw [List.take_add_one, List.map_append, List.sum_append, List.getD_eq_getElem?_getD, List.getElem?_eq_getElem h]
 simp
theorem tot_le (wss : List (List Int)) (i : Nat) : tot wss i ≤ (wss.map List.length).sum := by
 unfold tot
 have := congrArg (fun l => (l.map List.length).sum) (List.take_append_drop i wss)
 simp only [List.map_append, List.sum_append] at this
 omega
def wn (wss : List (List Int)) : List Nat := wss.map nv
theorem wn_len (wss : List (List Int)) : (wn wss).length = wss.length := List.length_map _
theorem wn_get (wss : List (List Int)) (i : Nat) : (wn wss).getD i 0 = nv (wss.getD i []) := by
 unfold wn
 rw [List.getD_eq_getElem?_getD, List.getD_eq_getElem?_getD, List.getElem?_map]
 cases wss[i]? <;> rfl
theorem sum_take (ns : List Nat) (i : Nat) (h : i < ns.length) : (ns.take (i + 1)).sum = (ns.take i).sum + ns.getD i 0 := by
 rw [List.take_add_one, List.sum_append, List.getD_eq_getElem?_getD, List.getElem?_eq_getElem h]
 simp
def checkV (ps qs : List Int) (ns : List Nat) : Int := if gridV ps qs ≠ 0 then gridV ps qs else if ns.length ≠ ps.length then 1 else if ns.any (fun n => decide (0 < n)) then 0 else 20
theorem nat_Of0.run (w : World) : Calls Tryz.prog 67 #[.int .u64 0] w fun e w' => ∃ r, e = .returned r ∧ NC w' r 0 2 ∧ Below w.heap.size w w' := nat_Of.run 0 w (by omega)
theorem estimate_sum.run (A : Option Addr) (cap : Nat) (wss : List (List Int)) (L : Nat) (w : World) (hw : WR w A wss L) (hl : wss.length ≤ 100000000) (hL : L ≤ 100000000) :
  Calls Tryz.prog 59 #[.slice A wss.length cap] w fun e w' => ∃ B k c, e = .returned (.slice B k c) ∧ NA w' (.slice B k c) (wn wss).sum (L + 2 + wss.length) ∧ Below w.heap.size w w' := by
 have HW := Aside0.mk hw
 have HL := Aside0.mk (And.intro hl hL)
 clear hw hl hL
 go_enter Tryz.func59, Tryz.ntmps59
 go_wp2_with (first | (go_at_call 67; (with_reducible refine (nat_Of0.run _).mono ?_); rintro e w1 ⟨r, rfl, hr, hb⟩; obtain ⟨A1, k1, c1, rfl⟩ := hr.sl; have H1 := Aside0.mk hr; have HB := Aside0.mk hb; clear hr hb))
 go_loopg [3, 9] wss.length (fun kq v3 v9 w' => ∃ (i : Int) (B : Option Addr) (k c : Nat), v3 = .slice B k c ∧ v9 = .int .i64 i ∧ Aside0 (i + kq = (wss.length : Int) ∧ kq ≤ wss.length) ∧ Aside0 (NA w' (.slice B k c) ((wn wss).take i.toNat).sum (L + 2 + i.toNat)) ∧ Aside0 (Below w.heap.size w w'))
 case atStart => exact ⟨0, A1, k1, c1, rfl, rfl, ⟨by omega, Nat.le_refl _⟩, ⟨by simpa using H1.out.na.mono (show 2 ≤ L + 2 + (0 : Int).toNat by omega)⟩, HB⟩
 case round =>
  obtain ⟨i, B, k, c, rfl, rfl, HI, HS, HBl⟩ := hrel
  by_cases ci : i < (wss.length : Int)
  ·
   have d1 : decide (i < (wss.length : Int)) = true := decide_eq_true ci
   have p1 : 0 ≤ i := by have := HI.out; omega
   obtain ⟨g1, hk⟩ : ∃ g1, gk = g1 + 1 := ⟨gk - 1, by have := HI.out; omega⟩
   subst hk
   obtain ⟨ad, B2, k2, c2, ea, hx, hn⟩ := (HW.out.below HBl.out).at i p1 ci
   subst ea
   have HX := Aside0.mk hn
   obtain ⟨i1, hi1⟩ : ∃ i1, IntKind.i64.wrap (i + 1) = i1 := ⟨_, rfl⟩
   have E := Aside0.mk (show 0 ≤ i ∧ i < (wss.length : Int) from ⟨p1, ci⟩)
   have p2 := eq_true p1
   have q1 := eq_true ci
   clear hn p1 ci
   go_wp2_with (first | (go_at_call 92; (with_reducible refine (nat_Add.run _ _ _ _ (L + 2 + i.toNat) _ HS.out (HX.out.mono (by omega)) (by have := HL.out; have := E.out; omega)).mono ?_); rintro e w2 ⟨r, rfl, hr, hb⟩; obtain ⟨A3, k3, c3, rfl⟩ := hr.sl; have H3 := Aside0.mk hr; have HB3 := Aside0.mk hb; clear hr hb))
   go_roundg g1
   case measure => omega
   case rel =>
    have hE := E.out
    have hL := HL.out
    have hI := HI.out
    have ei1 : i1 = i + 1 := by rw [← hi1, i64_w]; unfold wrap64; omega
    have ei2 : i1.toNat = i.toNat + 1 := by omega
    refine ⟨i1, A3, k3, c3, rfl, rfl, ⟨by omega, by omega⟩, ⟨?_⟩, ⟨below_on HBl.out HB3.out⟩⟩
    rw [ei2, sum_take _ _ (by rw [wn_len]; omega), wn_get]
    exact H3.out
  ·
   have d1 : decide (i < (wss.length : Int)) = false := decide_eq_false ci
   have ei : i = (wss.length : Int) := by have := HI.out; omega
   subst ei
   clear ci
   go_wp2
   go_ret
   refine ⟨B, k, c, rfl, ?_, HBl.out⟩
   have := HS.out
   rw [Int.toNat_natCast, List.take_of_length_le (by rw [wn_len]; exact Nat.le_refl _)] at this
   exact this
theorem grid_check.run (ps qs : List Int) (P Q : Option Addr) (cp cq : Nat) (A : Option Addr) (cap : Nat) (wss : List (List Int)) (L : Nat) (w : World) (hp : Kd.C (Kd.int .i64) w P ps.length ps) (hq : Kd.C (Kd.int .i64) w Q qs.length qs) (hcp : ps.length ≤ cp) (hw : WR w A wss L) (hl : wss.length ≤ 100000000) (hL : L ≤ 1100000) :
  Calls Tryz.prog 78 #[.agg #[.slice P ps.length cp, .slice Q qs.length cq], .slice A wss.length cap] w fun e w' => e = .returned (.int .i64 (checkV ps qs (wn wss))) ∧ Below w.heap.size w w' := by
 have HP := Aside0.mk hp
 have HQ := Aside0.mk hq
 have HC := Aside0.mk hcp
 have HW := Aside0.mk hw
 have HL := Aside0.mk (And.intro hl hL)
 have HB := Aside0.mk (Below.refl w.heap.size w)
 clear hp hq hcp hw hl hL
 obtain ⟨gv, hgv⟩ : ∃ x, gridV ps qs = x := ⟨_, rfl⟩
 have HG := Aside0.mk hgv
 clear hgv
 by_cases cg : gv = 0
 ·
  have kg : (gv == 0) = true := by rw [beq_iff_eq]; exact cg
  have kgn : (gv != 0) = false := by rw [bne, kg]; rfl
  by_cases cl : wss.length = ps.length
  ·
   have kl : (wss.length == ps.length) = true := by rw [beq_iff_eq]; exact cl
   have kl2 : ((wss.length : Int) == (ps.length : Int)) = true := by rw [beq_iff_eq]; omega
   have kl3 : ((wss.length : Int) != (ps.length : Int)) = false := by rw [bne, kl2]; rfl
   have D := Aside0.mk (And.intro cg cl)
   clear cg cl
   go_enter Tryz.func78, Tryz.ntmps78
   go_wp2_with (first | (go_at_call 22; (with_reducible refine (grid_Valid.run ps qs P Q cp cq _ (Kd.C_below HP.out HB.out) (Kd.C_below HQ.out HB.out) HC.out).mono ?_); rintro e w2 ⟨rfl, hb⟩; replace B2 := Bb B2 hb; replace HB := Ob HB hb; rw [HG.out]; clear hb; (try clear cb2_0); have cb2_0 := Cl0 B2) | ((with_reducible refine gate_dst (N := 2) rfl ?_); refine box_event (by rfl) (N := 2) (by rfl) (cs := #[.slice P ps.length cp, .slice Q qs.length cq]) (t := 27) ?hr ?_; (case hr => first | (go_simp; done) | (go_simp; rfl)); intro g2 hgx w1 hbx hb; have B2 := As hbx; have G2 := Gg HB hgx; replace HB := Ob HB hb; clear hbx hb hgx; (try clear cb2_0); have cb2_0 := Cl0 B2; (try clear cb2_1); have cb2_1 := Cl1 B2))
   go_loopg [21] wss.length (fun kq v21 w' => ∃ (i : Int), v21 = .int .i64 i ∧ Aside0 (i + kq = (wss.length : Int) ∧ kq ≤ wss.length) ∧ Aside0 (∀ j, j < i.toNat → (wn wss).getD j 0 = 0) ∧ w' = w2)
   case atStart => exact ⟨0, rfl, ⟨by omega, Nat.le_refl _⟩, ⟨fun j hj => absurd hj (by simp)⟩, rfl⟩
   case round =>
    obtain ⟨i, rfl, HI, HN, hww⟩ := hrel
    subst hww
    by_cases ci : i < (wss.length : Int)
    ·
     have d1 : decide (i < (wss.length : Int)) = true := decide_eq_true ci
     have p1 : 0 ≤ i := by have := HI.out; omega
     obtain ⟨g1, hk⟩ : ∃ g1, gk = g1 + 1 := ⟨gk - 1, by have := HI.out; omega⟩
     subst hk
     obtain ⟨ad, B2, k2, c2, ea, hx, hn⟩ := (HW.out.below HB.out).at i p1 ci
     subst ea
     rw [← wn_get] at hn
     obtain ⟨m, hm⟩ : ∃ m, (wn wss).getD i.toNat 0 = m := ⟨_, rfl⟩
     rw [hm] at hn
     have HX := Aside0.mk hn
     obtain ⟨i1, hi1⟩ : ∃ i1, IntKind.i64.wrap (i + 1) = i1 := ⟨_, rfl⟩
     have E := Aside0.mk (show 0 ≤ i ∧ i < (wss.length : Int) ∧ (wn wss).getD i.toNat 0 = m from ⟨p1, ci, hm⟩)
     have p2 := eq_true p1
     have q1 := eq_true ci
     clear hn p1 ci hm
     by_cases cm : m = 0
     ·
      have M := Aside0.mk cm
      clear cm
      go_wp2_with (first | (go_at_call 65; (with_reducible refine (nat_Bits.run _ m L _ HX.out (by have := HL.out; omega)).mono ?_); rintro e w9 ⟨b, rfl, hw, hi⟩; replace hw := Eq.symm hw; subst hw; have kb : decide (0 < b) = false := decide_eq_false (by have := hi.1.2 M.out; omega); clear hi))
      go_roundg g1
      case measure => omega
      case rel =>
       obtain ⟨h0, h1, h2⟩ := E.out
       have hI := HI.out
       have hL := HL.out
       have ei1 : i1 = i + 1 := by rw [← hi1, i64_w]; unfold wrap64; omega
       refine ⟨i1, rfl, ⟨by omega, by omega⟩, ⟨fun j hj => ?_⟩, rfl⟩
       rcases Nat.lt_or_ge j i.toNat with hh | hh
       ·
        exact HN.out j hh
       ·
        have : j = i.toNat := by omega
        subst this
        rw [h2]; exact M.out
     ·
      have M := Aside0.mk cm
      clear cm
      go_wp2_with (first | (go_at_call 65; (with_reducible refine (nat_Bits.run _ m L _ HX.out (by have := HL.out; omega)).mono ?_); rintro e w9 ⟨b, rfl, hw, hi⟩; replace hw := Eq.symm hw; subst hw; have kb : decide (0 < b) = true := decide_eq_true (by have h1 := hi.1; have h2 := hi.2; have h3 := M.out; rcases Int.lt_or_eq_of_le h2 with h4 | h4; exact h4; exact absurd (h1.1 h4.symm) h3); clear hi))
      go_ret
      refine ⟨?_, HB.out⟩
      obtain ⟨h0, h1, h2⟩ := E.out
      rw [show checkV ps qs (wn wss) = 0 by
       unfold checkV
       rw [HG.out, if_neg (fun h => h D.out.1), if_neg (fun h => h (by rw [wn_len]; exact D.out.2)), if_pos]
       rw [List.any_eq_true]
       exact ⟨_, getD_mem (i := i.toNat) (d := 0) (by rw [wn_len]; omega), decide_eq_true (by rw [h2]; exact Nat.pos_of_ne_zero M.out)⟩]
      rfl
    ·
     have d1 : decide (i < (wss.length : Int)) = false := decide_eq_false ci
     have HV := Aside0.mk (show ∀ j, j < wss.length → (wn wss).getD j 0 = 0 from fun j hj => HN.out j (by omega))
     clear ci
     go_wp2
     go_ret
     refine ⟨?_, HB.out⟩
     rw [show checkV ps qs (wn wss) = 20 by
      unfold checkV
      rw [HG.out, if_neg (fun h => h D.out.1), if_neg (fun h => h (by rw [wn_len]; exact D.out.2)), if_neg]
      intro h
      rw [List.any_eq_true] at h
      obtain ⟨x, hx, hx2⟩ := h
      obtain ⟨j, hj, rfl⟩ := List.mem_iff_getElem.1 hx
      have := HV.out j (by rw [← wn_len]; exact hj)
      rw [List.getD_eq_getElem?_getD, List.getElem?_eq_getElem hj] at this
      have h3 := of_decide_eq_true hx2
      simp only [Option.getD_some] at this
      omega]
     rfl
  ·
   have kl : (wss.length == ps.length) = false := by rw [beq_eq_false_iff_ne]; exact cl
   have kl2 : ((wss.length : Int) == (ps.length : Int)) = false := by rw [beq_eq_false_iff_ne]; omega
   have D := Aside0.mk (And.intro cg cl)
   clear cg cl
   go_enter Tryz.func78, Tryz.ntmps78
   go_wp2_with (first | (go_at_call 22; (with_reducible refine (grid_Valid.run ps qs P Q cp cq _ (Kd.C_below HP.out HB.out) (Kd.C_below HQ.out HB.out) HC.out).mono ?_); rintro e w2 ⟨rfl, hb⟩; replace B2 := Bb B2 hb; replace HB := Ob HB hb; rw [HG.out]; clear hb; (try clear cb2_0); have cb2_0 := Cl0 B2) | ((with_reducible refine gate_dst (N := 2) rfl ?_); refine box_event (by rfl) (N := 2) (by rfl) (cs := #[.slice P ps.length cp, .slice Q qs.length cq]) (t := 27) ?hr ?_; (case hr => first | (go_simp; done) | (go_simp; rfl)); intro g2 hgx w1 hbx hb; have B2 := As hbx; have G2 := Gg HB hgx; replace HB := Ob HB hb; clear hbx hb hgx; (try clear cb2_0); have cb2_0 := Cl0 B2; (try clear cb2_1); have cb2_1 := Cl1 B2))
   go_ret
   refine ⟨?_, HB.out⟩
   rw [show checkV ps qs (wn wss) = 1 by unfold checkV; rw [HG.out, if_neg (fun h => h D.out.1), if_pos (by rw [wn_len]; exact D.out.2)]]
   rfl
 ·
  have kg : (gv == 0) = false := by rw [beq_eq_false_iff_ne]; exact cg
  have D := Aside0.mk cg
  clear cg
  go_enter Tryz.func78, Tryz.ntmps78
  go_wp2_with (first | (go_at_call 22; (with_reducible refine (grid_Valid.run ps qs P Q cp cq _ (Kd.C_below HP.out HB.out) (Kd.C_below HQ.out HB.out) HC.out).mono ?_); rintro e w2 ⟨rfl, hb⟩; replace B2 := Bb B2 hb; replace HB := Ob HB hb; rw [HG.out]; clear hb) | ((with_reducible refine gate_dst (N := 2) rfl ?_); refine box_event (by rfl) (N := 2) (by rfl) (cs := #[.slice P ps.length cp, .slice Q qs.length cq]) (t := 27) ?hr ?_; (case hr => first | (go_simp; done) | (go_simp; rfl)); intro g2 hgx w1 hbx hb; have B2 := As hbx; have G2 := Gg HB hgx; replace HB := Ob HB hb; clear hbx hb hgx; (try clear cb2_0); have cb2_0 := Cl0 B2; (try clear cb2_1); have cb2_1 := Cl1 B2))
  go_ret
  refine ⟨?_, HB.out⟩
  rw [show checkV ps qs (wn wss) = gv by unfold checkV; rw [HG.out, if_pos D.out]]
  rfl
end Go.Proofs.YtnmfmiemkcaocaaGreat.Hand
