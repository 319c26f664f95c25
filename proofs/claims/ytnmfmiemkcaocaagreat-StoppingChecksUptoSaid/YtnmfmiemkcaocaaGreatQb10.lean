/- Parts of the proof, joined: RfD, RfE. No condition. -/
import Derived.Test.YtnmfmiemkcaocaaGreatQb9
set_option maxHeartbeats 8000000
set_option maxRecDepth 100000
namespace Go.Proofs.YtnmfmiemkcaocaaGreat.Hand
open Go.RowKit Go.Proofs.YtnmfmiemkcaocaaGreatW.PrintWords Go.Proofs.YtnmfmiemkcaocaaGreatW.PrintLast Go.Proofs.YtnmfmiemkcaocaaGreatW.PrintMore
set_option linter.unusedVariables false
set_option linter.unusedSimpArgs false
theorem NC.kz {w : World} {A : Option Addr} {k c n L : Nat} (h : NC w (.slice A k c) n L) : k = 0 ↔ n = 0 := by
 obtain ⟨xs, ⟨B, d, e, _⟩, hc, hn, _⟩ := h
 injection e with _ e _
 rw [← hn, e]
 exact hc.zero
theorem ref_Of1.run (w : World) : Calls Tryz.prog 89 #[.int .u64 1] w fun e w' => ∃ r, e = .returned r ∧ NC w' r 1 2 ∧ Below w.heap.size w w' := ref_Of.run 1 w (by omega)
theorem ref_Of0.run (w : World) : Calls Tryz.prog 89 #[.int .u64 0] w fun e w' => ∃ r, e = .returned r ∧ NC w' r 0 2 ∧ Below w.heap.size w w' := ref_Of.run 0 w (by omega)
theorem ref_INormP.run (s : Bool) (A : Option Addr) (k c a L1 : Nat) (w : World) (hv : NA w (.slice A k c) a L1) (hL : L1 ≤ 100000000) (ha : a ≠ 0) :
  Calls Tryz.prog 75 #[.agg #[.bool s, .slice A k c]] w fun e w' => ∃ A k c, e = .returned (.agg #[.bool s, .slice A k c]) ∧ NC w' (.slice A k c) a L1 ∧ k ≠ 0 ∧ Below w.heap.size w w' := by
 have H91 := Aside0.mk hv
 have HL := Aside0.mk hL
 have HB := Aside0.mk (Below.refl w.heap.size w)
 clear hv hL
 have HA := As ha
 clear ha
 cases s
 ·
  go_enter Tryz.func75, Tryz.ntmps75
  go_wp2_with (first | ((with_reducible refine gate_store (t := 32) (p := 2) rfl ?_); refine Sto (t := 32) (p := 2) (by rfl) (.tmp 15) (by rfl) (by rfl) g2 #[.bool false, .slice A3 k3 c3] (by rfl) (by first | rfl | (go_simp; done) | (go_simp; rfl)) B2 (by kernel_rfl) rfl (by kernel_rfl) ?_; intro w5 ho hB2; replace H4 := As (H4.1.o2 ho B2); replace B1 := Oo B1 ho NE1_2; replace HB := Lo HB ho G2; replace B2 := hB2; clear ho hB2) | (go_at_call 90; (with_reducible refine (ref_Norm.run _ a L1 _ (H91.1.be HB.1) (by have := HL.out; omega)).mono ?_); rintro e w3 ⟨r3, rfl, hr3, hb⟩; obtain ⟨A3, k3, c3, rfl⟩ := hr3.sl; have kk3 : decide (0 < (k3 : Int)) = true := decide_eq_true (by have := hr3.kz; have := HA.out; omega); have kn3 : decide (0 < k3) = true := decide_eq_true (by have := hr3.kz; have := HA.out; omega); have HK3 := As hr3.kz; have H4 := Aside0.mk hr3; clear hr3; replace B1 := Bb B1 hb; replace B2 := Bb B2 hb; replace HB := Ob HB hb; clear hb; (try clear cb1_0); have cb1_0 := Cl0 B1) | ((with_reducible refine gate_dst (N := 2) rfl ?_); refine box_event (by rfl) (N := 2) (by rfl) (cs := #[.bool false, .slice none 0 0]) (t := 32) ?hr ?_; (case hr => first | (go_simp; done) | (go_simp; rfl)); intro g2 hgx w2 hbx hb; have B2 := As hbx; have NE1_2 := Nn B1 hgx; have G2 := Gg HB hgx; replace B1 := Bb B1 hb; replace HB := Ob HB hb; clear hbx hb hgx; (try clear cb1_1); have cb1_1 := Cl1 B1) | ((with_reducible refine gate_dst (N := 1) rfl ?_); refine box_event (by rfl) (N := 1) (by rfl) (cs := #[.bool false, .slice A k c]) (t := 32) ?hr ?_; (case hr => first | (go_simp; done) | (go_simp; rfl)); intro g1 hgx w1 hbx hb; have B1 := As hbx; have G1 := Gg HB hgx; replace HB := Ob HB hb; clear hbx hb hgx))
  try simp only [Exit.inBlock, Exit.then]
  refine bodyPost_ret (results_cell_row rfl _ _ g2 32 #[.bool false, .slice A3 k3 c3] (0, 0) _ rfl B2.out Tryz.underlying32 rfl (by kernel_rfl)) rfl ?_
  exact ⟨_, _, _, rfl, H4.1, fun h => HA.out (HK3.out.1 h), HB.out⟩
 ·
  go_enter Tryz.func75, Tryz.ntmps75
  go_wp2_with (first | ((with_reducible refine gate_store (t := 32) (p := 2) rfl ?_); refine Sto (t := 32) (p := 2) (by rfl) (.tmp 15) (by rfl) (by rfl) g2 #[.bool true, .slice A3 k3 c3] (by rfl) (by first | rfl | (go_simp; done) | (go_simp; rfl)) B2 (by kernel_rfl) rfl (by kernel_rfl) ?_; intro w5 ho hB2; replace H4 := As (H4.1.o2 ho B2); replace B1 := Oo B1 ho NE1_2; replace HB := Lo HB ho G2; replace B2 := hB2; clear ho hB2) | (go_at_call 90; (with_reducible refine (ref_Norm.run _ a L1 _ (H91.1.be HB.1) (by have := HL.out; omega)).mono ?_); rintro e w3 ⟨r3, rfl, hr3, hb⟩; obtain ⟨A3, k3, c3, rfl⟩ := hr3.sl; have kk3 : decide (0 < (k3 : Int)) = true := decide_eq_true (by have := hr3.kz; have := HA.out; omega); have kn3 : decide (0 < k3) = true := decide_eq_true (by have := hr3.kz; have := HA.out; omega); have HK3 := As hr3.kz; have H4 := Aside0.mk hr3; clear hr3; replace B1 := Bb B1 hb; replace B2 := Bb B2 hb; replace HB := Ob HB hb; clear hb; (try clear cb1_0); have cb1_0 := Cl0 B1) | ((with_reducible refine gate_dst (N := 2) rfl ?_); refine box_event (by rfl) (N := 2) (by rfl) (cs := #[.bool false, .slice none 0 0]) (t := 32) ?hr ?_; (case hr => first | (go_simp; done) | (go_simp; rfl)); intro g2 hgx w2 hbx hb; have B2 := As hbx; have NE1_2 := Nn B1 hgx; have G2 := Gg HB hgx; replace B1 := Bb B1 hb; replace HB := Ob HB hb; clear hbx hb hgx; (try clear cb1_1); have cb1_1 := Cl1 B1) | ((with_reducible refine gate_dst (N := 1) rfl ?_); refine box_event (by rfl) (N := 1) (by rfl) (cs := #[.bool true, .slice A k c]) (t := 32) ?hr ?_; (case hr => first | (go_simp; done) | (go_simp; rfl)); intro g1 hgx w1 hbx hb; have B1 := As hbx; have G1 := Gg HB hgx; replace HB := Ob HB hb; clear hbx hb hgx))
  try simp only [Exit.inBlock, Exit.then]
  refine bodyPost_ret (results_cell_row rfl _ _ g2 32 #[.bool true, .slice A3 k3 c3] (0, 0) _ rfl B2.out Tryz.underlying32 rfl (by kernel_rfl)) rfl ?_
  exact ⟨_, _, _, rfl, H4.1, fun h => HA.out (HK3.out.1 h), HB.out⟩
theorem ref_INormZ.run (s : Bool) (A : Option Addr) (k c a L1 : Nat) (w : World) (hv : NA w (.slice A k c) a L1) (hL : L1 ≤ 100000000) (ha : a = 0) :
  Calls Tryz.prog 75 #[.agg #[.bool s, .slice A k c]] w fun e w' => ∃ A c, e = .returned (.agg #[.bool false, .slice A 0 c]) ∧ NC w' (.slice A 0 c) 0 L1 ∧ Below w.heap.size w w' := by
 have H91 := Aside0.mk hv
 have HL := Aside0.mk hL
 have HB := Aside0.mk (Below.refl w.heap.size w)
 clear hv hL
 have HA := As ha
 clear ha
 cases s
 ·
  go_enter Tryz.func75, Tryz.ntmps75
  go_wp2_with (first | ((with_reducible refine gate_store (t := 32) (p := 2) rfl ?_); refine Sto (t := 32) (p := 2) (by rfl) (.tmp 15) (by rfl) (by rfl) g2 #[.bool false, .slice A3 k3 c3] (by rfl) (by first | rfl | (go_simp; done) | (go_simp; rfl)) B2 (by kernel_rfl) rfl (by kernel_rfl) ?_; intro w5 ho hB2; replace H4 := As (H4.1.o2 ho B2); replace B1 := Oo B1 ho NE1_2; replace HB := Lo HB ho G2; replace B2 := hB2; clear ho hB2) | (go_at_call 90; (with_reducible refine (ref_Norm.run _ a L1 _ (H91.1.be HB.1) (by have := HL.out; omega)).mono ?_); rintro e w3 ⟨r3, rfl, hr3, hb⟩; obtain ⟨A3, k3, c3, rfl⟩ := hr3.sl; have kk3 : decide (0 < (k3 : Int)) = false := decide_eq_false (by have := hr3.kz; have := HA.out; omega); have kn3 : decide (0 < k3) = false := decide_eq_false (by have := hr3.kz; have := HA.out; omega); have HK3 := As hr3.kz; have H4 := Aside0.mk hr3; clear hr3; replace B1 := Bb B1 hb; replace B2 := Bb B2 hb; replace HB := Ob HB hb; clear hb; (try clear cb1_0); have cb1_0 := Cl0 B1) | ((with_reducible refine gate_dst (N := 2) rfl ?_); refine box_event (by rfl) (N := 2) (by rfl) (cs := #[.bool false, .slice none 0 0]) (t := 32) ?hr ?_; (case hr => first | (go_simp; done) | (go_simp; rfl)); intro g2 hgx w2 hbx hb; have B2 := As hbx; have NE1_2 := Nn B1 hgx; have G2 := Gg HB hgx; replace B1 := Bb B1 hb; replace HB := Ob HB hb; clear hbx hb hgx; (try clear cb1_1); have cb1_1 := Cl1 B1) | ((with_reducible refine gate_dst (N := 1) rfl ?_); refine box_event (by rfl) (N := 1) (by rfl) (cs := #[.bool false, .slice A k c]) (t := 32) ?hr ?_; (case hr => first | (go_simp; done) | (go_simp; rfl)); intro g1 hgx w1 hbx hb; have B1 := As hbx; have G1 := Gg HB hgx; replace HB := Ob HB hb; clear hbx hb hgx))
  try simp only [Exit.inBlock, Exit.then]
  refine bodyPost_ret (results_cell_row rfl _ _ g2 32 #[.bool false, .slice A3 k3 c3] (0, 0) _ rfl B2.out Tryz.underlying32 rfl (by kernel_rfl)) rfl ?_
  have hk := HK3.out.2 HA.out
  have hc := H4.1
  rw [hk, HA.out] at hc
  rw [hk]
  exact ⟨_, _, rfl, hc, HB.out⟩
 ·
  go_enter Tryz.func75, Tryz.ntmps75
  go_wp2_with (first | ((with_reducible refine gate_store (t := 32) (p := 2) rfl ?_); refine Sto (t := 32) (p := 2) (by rfl) (.tmp 15) (by rfl) (by rfl) g2 #[.bool false, .slice A3 k3 c3] (by rfl) (by first | rfl | (go_simp; done) | (go_simp; rfl)) B2 (by kernel_rfl) rfl (by kernel_rfl) ?_; intro w5 ho hB2; replace H4 := As (H4.1.o2 ho B2); replace B1 := Oo B1 ho NE1_2; replace HB := Lo HB ho G2; replace B2 := hB2; clear ho hB2) | (go_at_call 90; (with_reducible refine (ref_Norm.run _ a L1 _ (H91.1.be HB.1) (by have := HL.out; omega)).mono ?_); rintro e w3 ⟨r3, rfl, hr3, hb⟩; obtain ⟨A3, k3, c3, rfl⟩ := hr3.sl; have kk3 : decide (0 < (k3 : Int)) = false := decide_eq_false (by have := hr3.kz; have := HA.out; omega); have kn3 : decide (0 < k3) = false := decide_eq_false (by have := hr3.kz; have := HA.out; omega); have HK3 := As hr3.kz; have H4 := Aside0.mk hr3; clear hr3; replace B1 := Bb B1 hb; replace B2 := Bb B2 hb; replace HB := Ob HB hb; clear hb; (try clear cb1_0); have cb1_0 := Cl0 B1) | ((with_reducible refine gate_dst (N := 2) rfl ?_); refine box_event (by rfl) (N := 2) (by rfl) (cs := #[.bool false, .slice none 0 0]) (t := 32) ?hr ?_; (case hr => first | (go_simp; done) | (go_simp; rfl)); intro g2 hgx w2 hbx hb; have B2 := As hbx; have NE1_2 := Nn B1 hgx; have G2 := Gg HB hgx; replace B1 := Bb B1 hb; replace HB := Ob HB hb; clear hbx hb hgx; (try clear cb1_1); have cb1_1 := Cl1 B1) | ((with_reducible refine gate_dst (N := 1) rfl ?_); refine box_event (by rfl) (N := 1) (by rfl) (cs := #[.bool true, .slice A k c]) (t := 32) ?hr ?_; (case hr => first | (go_simp; done) | (go_simp; rfl)); intro g1 hgx w1 hbx hb; have B1 := As hbx; have G1 := Gg HB hgx; replace HB := Ob HB hb; clear hbx hb hgx))
  try simp only [Exit.inBlock, Exit.then]
  refine bodyPost_ret (results_cell_row rfl _ _ g2 32 #[.bool false, .slice A3 k3 c3] (0, 0) _ rfl B2.out Tryz.underlying32 rfl (by kernel_rfl)) rfl ?_
  have hk := HK3.out.2 HA.out
  have hc := H4.1
  rw [hk, HA.out] at hc
  rw [hk]
  exact ⟨_, _, rfl, hc, HB.out⟩
theorem ref_INorm.run (s : Bool) (A : Option Addr) (k c a L1 : Nat) (w : World) (hv : NA w (.slice A k c) a L1) (hL : L1 ≤ 100000000) :
  Calls Tryz.prog 75 #[.agg #[.bool s, .slice A k c]] w fun e w' => ∃ u A k c, e = .returned (.agg #[.bool u, .slice A k c]) ∧ NC w' (.slice A k c) (a) (L1) ∧ zi u (a) = zi s a ∧ (u = true → a ≠ 0) ∧ Below w.heap.size w w' := by
 by_cases ha : a = 0
 ·
  refine (ref_INormZ.run s A k c a L1 w hv hL ha).mono ?_
  rintro e w' ⟨A, c, rfl, hr, hb⟩
  subst ha
  exact ⟨false, _, _, _, rfl, hr, (by cases s <;> rfl), (fun h => by cases h), hb⟩
 ·
  refine (ref_INormP.run s A k c a L1 w hv hL ha).mono ?_
  rintro e w' ⟨A, k, c, rfl, hr, _, hb⟩
  exact ⟨s, _, _, _, rfl, hr, rfl, fun _ => ha, hb⟩
theorem ref_IMake.run (s : Bool) (A : Option Addr) (k c a L1 : Nat) (w : World) (hv : NA w (.slice A k c) a L1) (hL : L1 ≤ 100000000) :
  Calls Tryz.prog 55 #[.bool s, .slice A k c] w fun e w' => ∃ u A k c, e = .returned (.agg #[.bool u, .slice A k c]) ∧ NC w' (.slice A k c) (a) (L1) ∧ zi u (a) = zi s a ∧ (u = true → a ≠ 0) ∧ Below w.heap.size w w' := by
 have H91 := Aside0.mk hv
 have HL := Aside0.mk hL
 have HB := Aside0.mk (Below.refl w.heap.size w)
 clear hv hL
 go_enter Tryz.func55, Tryz.ntmps55
 go_wp2_with (first | ((with_reducible refine gate_store (t := 32) (p := 4) rfl ?_); refine Sto (t := 32) (p := 4) (by rfl) (.tmp 8) (by rfl) (by rfl) g4 #[.bool s2, .slice A2 k2 c2] (by rfl) (by first | rfl | (go_simp; done) | (go_simp; rfl)) B4 (by kernel_rfl) rfl (by kernel_rfl) ?_; intro w4 ho hB2; replace H3 := As (H3.1.o2 ho B4); replace HB := Lo HB ho G4; replace B4 := hB2; clear ho hB2) | (go_at_call 75; (with_reducible refine (ref_INorm.run s _ _ _ a L1 _ (H91.1.be HB.1) (by have := HL.out; omega)).mono ?_); rintro e w2 ⟨s2, A2, k2, c2, rfl, hr2, hz2, hu2, hb⟩; have H3 := As hr2; have Z2 := As (And.intro hz2 hu2); clear hr2 hz2 hu2; replace B4 := Bb B4 hb; replace HB := Ob HB hb; clear hb) | ((with_reducible refine gate_dst (N := 4) rfl ?_); refine box_event (by rfl) (N := 4) (by rfl) (cs := #[.bool false, .slice none 0 0]) (t := 32) ?hr ?_; (case hr => first | (go_simp; done) | (go_simp; rfl)); intro g4 hgx w1 hbx hb; have B4 := As hbx; have G4 := Gg HB hgx; replace HB := Ob HB hb; clear hbx hb hgx))
 try simp only [Exit.inBlock, Exit.then]
 refine bodyPost_ret (results_cell_row rfl _ _ g4 32 #[.bool s2, .slice A2 k2 c2] (0, 0) _ rfl B4.out Tryz.underlying32 rfl (by kernel_rfl)) rfl ?_
 exact ⟨_, _, _, _, rfl, H3.1, Z2.out.1, Z2.out.2, HB.out⟩
theorem ref_IOf0.run (w : World) :
  Calls Tryz.prog 77 #[.int .i64 0] w fun e w' => ∃ u A k c, e = .returned (.agg #[.bool u, .slice A k c]) ∧ NC w' (.slice A k c) 0 2 ∧ zi u 0 = 0 ∧ Below w.heap.size w w' := by
 have HB := Aside0.mk (Below.refl w.heap.size w)
 have HL := As (show 0 ≤ 0 from Nat.le_refl 0)
 go_enter Tryz.func77, Tryz.ntmps77
 go_wp2_with (first | ((with_reducible refine gate_store (t := 32) (p := 2) rfl ?_); refine Sto (t := 32) (p := 2) (by rfl) (.tmp 15) (by rfl) (by rfl) g2 #[.bool s4, .slice A4 k4 c4] (by rfl) (by first | rfl | (go_simp; done) | (go_simp; rfl)) B2 (by kernel_rfl) rfl (by kernel_rfl) ?_; intro w6 ho hB2; replace H3 := As (H3.1.o2 ho B2); replace H5 := As (H5.1.o2 ho B2); replace HB := Lo HB ho G2; replace B2 := hB2; clear ho hB2) | (go_at_call 55; (with_reducible refine (ref_IMake.run false _ _ _ 0 2 _ H3.1.na (by have := HL.out; omega)).mono ?_); rintro e w4 ⟨s4, A4, k4, c4, rfl, hr4, hz4, hu4, hb⟩; have H5 := Aside0.mk hr4; have Z4 := Aside0.mk (And.intro hz4 hu4); clear hr4 hz4 hu4; replace H3 := As (H3.1.be hb); replace B2 := Bb B2 hb; replace HB := Ob HB hb; clear hb) | (go_at_call 89; (with_reducible refine (ref_Of0.run _).mono ?_); rintro e w2 ⟨r2, rfl, hr2, hb⟩; obtain ⟨A2, k2, c2, rfl⟩ := hr2.sl; have H3 := As hr2; clear hr2; replace B2 := Bb B2 hb; replace HB := Ob HB hb; clear hb) | ((with_reducible refine gate_dst (N := 2) rfl ?_); refine box_event (by rfl) (N := 2) (by rfl) (cs := #[.bool false, .slice none 0 0]) (t := 32) ?hr ?_; (case hr => first | (go_simp; done) | (go_simp; rfl)); intro g2 hgx w1 hbx hb; have B2 := As hbx; have G2 := Gg HB hgx; replace HB := Ob HB hb; clear hbx hb hgx))
 try simp only [Exit.inBlock, Exit.then]
 refine bodyPost_ret (results_cell_row rfl _ _ g2 32 #[.bool s4, .slice A4 k4 c4] (0, 0) _ rfl B2.out Tryz.underlying32 rfl (by kernel_rfl)) rfl ?_
 exact ⟨_, _, _, _, rfl, H5.1, Z4.out.1, HB.out⟩
theorem ref_ISign.run (s : Bool) (A : Option Addr) (k c a L1 : Nat) (w : World) (hv : NA w (.slice A k c) a L1) (hL : L1 ≤ 100000000) :
  Calls Tryz.prog 50 #[.agg #[.bool s, .slice A k c]] w fun e w' => e = .returned (.int .i64 (cmpZ (zi s a) 0)) ∧ Below w.heap.size w w' := by
 have H91 := Aside0.mk hv
 have HL := Aside0.mk hL
 have HB := Aside0.mk (Below.refl w.heap.size w)
 clear hv hL
 by_cases ha : a = 0
 ·
  have HA := Aside0.mk ha
  clear ha
  go_enter Tryz.func50, Tryz.ntmps50
  go_wp2_with (first | ((with_reducible refine gate_store (t := 32) (p := 3) rfl ?_); refine Sto (t := 32) (p := 3) (by rfl) (.tmp 5) (by rfl) (by rfl) g3 #[.bool false, .slice A2 0 c2] (by rfl) (by first | rfl | (go_simp; done) | (go_simp; rfl)) B3 (by kernel_rfl) rfl (by kernel_rfl) ?_; intro w5 ho hB2; replace H3 := As (H3.1.o2 ho B3); replace B1 := Oo B1 ho NE1_3; replace HB := Lo HB ho G3; replace B3 := hB2; clear ho hB2; (try clear cb3_1); have cb3_1 := Cl1 B3) | ((with_reducible refine gate_dst (N := 3) rfl ?_); refine box_event (by rfl) (N := 3) (by rfl) (cs := #[.bool false, .slice none 0 0]) (t := 32) ?hr ?_; (case hr => first | (go_simp; done) | (go_simp; rfl)); intro g3 hgx w4 hbx hb; have B3 := As hbx; have NE1_3 := Nn B1 hgx; have G3 := Gg HB hgx; replace H3 := As (H3.1.be hb); replace B1 := Bb B1 hb; replace HB := Ob HB hb; clear hbx hb hgx) | (go_at_call 75; (with_reducible refine (ref_INormZ.run s _ _ _ a L1 _ (H91.1.be HB.1) (by have := HL.out; omega) HA.out).mono ?_); rintro e w2 ⟨A2, c2, rfl, hr2, hb⟩; have H3 := As hr2; clear hr2; replace B1 := Bb B1 hb; replace HB := Ob HB hb; clear hb) | ((with_reducible refine gate_dst (N := 1) rfl ?_); refine box_event (by rfl) (N := 1) (by rfl) (cs := #[.bool s, .slice A k c]) (t := 32) ?hr ?_; (case hr => first | (go_simp; done) | (go_simp; rfl)); intro g1 hgx w1 hbx hb; have B1 := As hbx; have G1 := Gg HB hgx; replace HB := Ob HB hb; clear hbx hb hgx; (try clear cb1_0); have cb1_0 := Cl0 B1; (try clear cb1_1); have cb1_1 := Cl1 B1))
  go_ret
  refine ⟨?_, HB.out⟩
  rw [HA.out]
  unfold zi cmpZ
  cases s <;> rfl
 ·
  have HA := Aside0.mk ha
  clear ha
  cases s
  ·
   go_enter Tryz.func50, Tryz.ntmps50
   go_wp2_with (first | ((with_reducible refine gate_store (t := 32) (p := 3) rfl ?_); refine Sto (t := 32) (p := 3) (by rfl) (.tmp 5) (by rfl) (by rfl) g3 #[.bool false, .slice A2 k2 c2] (by rfl) (by first | rfl | (go_simp; done) | (go_simp; rfl)) B3 (by kernel_rfl) rfl (by kernel_rfl) ?_; intro w5 ho hB2; replace H3 := As (H3.1.o2 ho B3); replace B1 := Oo B1 ho NE1_3; replace HB := Lo HB ho G3; replace B3 := hB2; clear ho hB2; (try clear cb3_1); have cb3_1 := Cl1 B3; (try clear cb3_0); have cb3_0 := Cl0 B3) | ((with_reducible refine gate_dst (N := 3) rfl ?_); refine box_event (by rfl) (N := 3) (by rfl) (cs := #[.bool false, .slice none 0 0]) (t := 32) ?hr ?_; (case hr => first | (go_simp; done) | (go_simp; rfl)); intro g3 hgx w4 hbx hb; have B3 := As hbx; have NE1_3 := Nn B1 hgx; have G3 := Gg HB hgx; replace H3 := As (H3.1.be hb); replace B1 := Bb B1 hb; replace HB := Ob HB hb; clear hbx hb hgx) | (go_at_call 75; (with_reducible refine (ref_INormP.run false _ _ _ a L1 _ (H91.1.be HB.1) (by have := HL.out; omega) HA.out).mono ?_); rintro e w2 ⟨A2, k2, c2, rfl, hr2, hk2, hb⟩; have H3 := As hr2; have kk2 : ((k2 : Int) == 0) = false := (by rw [beq_eq_false_iff_ne]; omega); clear hr2 hk2; replace B1 := Bb B1 hb; replace HB := Ob HB hb; clear hb) | ((with_reducible refine gate_dst (N := 1) rfl ?_); refine box_event (by rfl) (N := 1) (by rfl) (cs := #[.bool false, .slice A k c]) (t := 32) ?hr ?_; (case hr => first | (go_simp; done) | (go_simp; rfl)); intro g1 hgx w1 hbx hb; have B1 := As hbx; have G1 := Gg HB hgx; replace HB := Ob HB hb; clear hbx hb hgx; (try clear cb1_0); have cb1_0 := Cl0 B1; (try clear cb1_1); have cb1_1 := Cl1 B1))
   go_ret
   refine ⟨?_, HB.out⟩
   have := HA.out
   rw [show cmpZ (zi false a) 0 = 1 by unfold zi cmpZ; simp; omega]
   rfl
  ·
   go_enter Tryz.func50, Tryz.ntmps50
   go_wp2_with (first | ((with_reducible refine gate_store (t := 32) (p := 3) rfl ?_); refine Sto (t := 32) (p := 3) (by rfl) (.tmp 5) (by rfl) (by rfl) g3 #[.bool true, .slice A2 k2 c2] (by rfl) (by first | rfl | (go_simp; done) | (go_simp; rfl)) B3 (by kernel_rfl) rfl (by kernel_rfl) ?_; intro w5 ho hB2; replace H3 := As (H3.1.o2 ho B3); replace B1 := Oo B1 ho NE1_3; replace HB := Lo HB ho G3; replace B3 := hB2; clear ho hB2; (try clear cb3_1); have cb3_1 := Cl1 B3; (try clear cb3_0); have cb3_0 := Cl0 B3) | ((with_reducible refine gate_dst (N := 3) rfl ?_); refine box_event (by rfl) (N := 3) (by rfl) (cs := #[.bool false, .slice none 0 0]) (t := 32) ?hr ?_; (case hr => first | (go_simp; done) | (go_simp; rfl)); intro g3 hgx w4 hbx hb; have B3 := As hbx; have NE1_3 := Nn B1 hgx; have G3 := Gg HB hgx; replace H3 := As (H3.1.be hb); replace B1 := Bb B1 hb; replace HB := Ob HB hb; clear hbx hb hgx) | (go_at_call 75; (with_reducible refine (ref_INormP.run true _ _ _ a L1 _ (H91.1.be HB.1) (by have := HL.out; omega) HA.out).mono ?_); rintro e w2 ⟨A2, k2, c2, rfl, hr2, hk2, hb⟩; have H3 := As hr2; have kk2 : ((k2 : Int) == 0) = false := (by rw [beq_eq_false_iff_ne]; omega); clear hr2 hk2; replace B1 := Bb B1 hb; replace HB := Ob HB hb; clear hb) | ((with_reducible refine gate_dst (N := 1) rfl ?_); refine box_event (by rfl) (N := 1) (by rfl) (cs := #[.bool true, .slice A k c]) (t := 32) ?hr ?_; (case hr => first | (go_simp; done) | (go_simp; rfl)); intro g1 hgx w1 hbx hb; have B1 := As hbx; have G1 := Gg HB hgx; replace HB := Ob HB hb; clear hbx hb hgx; (try clear cb1_0); have cb1_0 := Cl0 B1; (try clear cb1_1); have cb1_1 := Cl1 B1))
   go_ret
   refine ⟨?_, HB.out⟩
   have := HA.out
   rw [show cmpZ (zi true a) 0 = -1 by unfold zi cmpZ; simp; omega]
   rfl
theorem ref_IMul.run (s t : Bool) (A B : Option Addr) (k c l d a b L1 L2 : Nat) (w : World) (hv : NA w (.slice A k c) a L1) (hu : NA w (.slice B l d) b L2) (hL : L1 + L2 ≤ 100000000) :
  Calls Tryz.prog 54 #[.agg #[.bool s, .slice A k c], .agg #[.bool t, .slice B l d]] w fun e w' => ∃ u A k c, e = .returned (.agg #[.bool u, .slice A k c]) ∧ NC w' (.slice A k c) (a * b) (L1 + L2) ∧ zi u (a * b) = zi s a * zi t b ∧ (u = true → a * b ≠ 0) ∧ Below w.heap.size w w' := by
 have H91 := Aside0.mk hv
 have H92 := Aside0.mk hu
 have HL := Aside0.mk hL
 have HB := Aside0.mk (Below.refl w.heap.size w)
 clear hv hu hL
 go_enter Tryz.func54, Tryz.ntmps54
 go_wp2_with (first | ((with_reducible refine gate_dst (N := 4) rfl ?_); refine box_event (by rfl) (N := 4) (by rfl) (cs := #[.bool false, .slice none 0 0]) (t := 32) ?hr ?_; (case hr => first | (go_simp; done) | (go_simp; rfl)); intro g4 hgx w3 hbx hb; have B4 := As hbx; have NE2_4 := Nn B2 hgx; have NE3_4 := Nn B3 hgx; have G4 := Gg HB hgx; replace B2 := Bb B2 hb; replace B3 := Bb B3 hb; replace HB := Ob HB hb; clear hbx hb hgx) | ((with_reducible refine gate_dst (N := 3) rfl ?_); refine box_event (by rfl) (N := 3) (by rfl) (cs := #[.bool t, .slice B l d]) (t := 32) ?hr ?_; (case hr => first | (go_simp; done) | (go_simp; rfl)); intro g3 hgx w2 hbx hb; have B3 := As hbx; have NE2_3 := Nn B2 hgx; have G3 := Gg HB hgx; replace B2 := Bb B2 hb; replace HB := Ob HB hb; clear hbx hb hgx) | ((with_reducible refine gate_dst (N := 2) rfl ?_); refine box_event (by rfl) (N := 2) (by rfl) (cs := #[.bool s, .slice A k c]) (t := 32) ?hr ?_; (case hr => first | (go_simp; done) | (go_simp; rfl)); intro g2 hgx w1 hbx hb; have B2 := As hbx; have G2 := Gg HB hgx; replace HB := Ob HB hb; clear hbx hb hgx))
 replace B2 := Bd B2
 replace B3 := Bd B3
 replace B4 := Bd B4
 replace HB := Od HB
 refine start_ (n := 12) (S := fun w' => w'.cell? ⟨g2, 0, none⟩ = some (.bool s) ∧ w'.cell? ⟨g3, 0, none⟩ = some (.bool t) ∧ w'.cell? ⟨g2, 1, none⟩ = some (.slice A k c) ∧ w'.cell? ⟨g3, 1, none⟩ = some (.slice B l d)) (ds := [11]) (Bt 12 0) (by kernel_rfl) rfl (by kernel_rfl) ⟨Cl0 B2, Cl0 B3, Cl1 B2, Cl1 B3⟩ (fun hHeld => ?_)
 generalize w3.drew = w4 at hHeld B2 B3 B4 HB ⊢
 refine pure_ (i := 0) (N := some 5) (v := ?_) (a' := ?_) (Bt 12 1) rfl rfl (by kernel_rfl) (fun _ _ _ h => h) (Or.inl ⟨by rfl, ?_⟩) ?_ ?_
 rotate_left
 ·
  intro w'
  go_simp
  with_reducible rfl
 rotate_left
 ·
  simp only [Nrm, Option.some.injEq, List.setIfInBounds_toArray, List.set_cons_zero, List.set_cons_succ, i64_w, i32_w]
  rfl
 refine pure_ (i := 2) (N := some 7) (v := ?_) (a' := ?_) (Bt 12 5) rfl rfl (by kernel_rfl) (fun _ _ _ h => h) (Or.inl ⟨by rfl, ?_⟩) ?_ ?_
 rotate_left
 ·
  intro w'
  go_simp
  with_reducible rfl
 rotate_left
 ·
  simp only [Nrm, Option.some.injEq, List.setIfInBounds_toArray, List.set_cons_zero, List.set_cons_succ, i64_w, i32_w]
  rfl
 refine pure_ (i := 5) (N := some 10) (v := ?_) (a' := ?_) (Bt 12 37) rfl rfl (by kernel_rfl) (fun _ _ _ h => h) (Or.inl ⟨by rfl, ?_⟩) ?_ ?_
 rotate_left
 ·
  intro w'
  go_simp
  with_reducible rfl
 rotate_left
 ·
  simp only [Nrm, Option.some.injEq, List.setIfInBounds_toArray, List.set_cons_zero, List.set_cons_succ, i64_w, i32_w]
  rfl
 refine pure_ (i := 7) (N := some 12) (v := ?_) (a' := ?_) (Bt 12 165) rfl rfl (by kernel_rfl) (fun _ _ _ h => h) (Or.inl ⟨by rfl, ?_⟩) ?_ ?_
 rotate_left
 ·
  intro w'
  go_simp
  with_reducible rfl
 rotate_left
 ·
  simp only [Nrm, Option.some.injEq, List.setIfInBounds_toArray, List.set_cons_zero, List.set_cons_succ, i64_w, i32_w]
  rfl
 refine take_ (i := 1) (N := some 6) (v := ?_) (a' := ?_) (Bt 12 167) rfl rfl (by kernel_rfl) (fun _ _ _ h => h) (Or.inl ⟨by rfl, ?_⟩) hHeld ?_ ?_
 rotate_left
 ·
  rintro w' ⟨s0, s1, s2, s3⟩
  go_simp
  with_reducible rfl
 rotate_left
 ·
  simp only [Nrm, Option.some.injEq, List.setIfInBounds_toArray, List.set_cons_zero, List.set_cons_succ, i64_w, i32_w]
  rfl
 refine take_ (i := 3) (N := some 8) (v := ?_) (a' := ?_) (Bt 12 175) rfl rfl (by kernel_rfl) (fun _ _ _ h => h) (Or.inl ⟨by rfl, ?_⟩) hHeld ?_ ?_
 rotate_left
 ·
  rintro w' ⟨s0, s1, s2, s3⟩
  go_simp
  with_reducible rfl
 rotate_left
 ·
  simp only [Nrm, Option.some.injEq, List.setIfInBounds_toArray, List.set_cons_zero, List.set_cons_succ, i64_w, i32_w]
  rfl
 refine pure_ (i := 4) (N := some 9) (v := ?_) (a' := ?_) (Bt 12 191) rfl rfl (by kernel_rfl) (fun _ _ _ h => h) (Or.inl ⟨by rfl, ?_⟩) ?_ ?_
 rotate_left
 ·
  intro w'
  go_simp
  with_reducible rfl
 rotate_left
 ·
  simp only [Nrm, Option.some.injEq, List.setIfInBounds_toArray, List.set_cons_zero, List.set_cons_succ, i64_w, i32_w]
  rfl
 refine take_ (i := 6) (N := some 11) (v := ?_) (a' := ?_) (Bt 12 255) rfl rfl (by kernel_rfl) (fun _ _ _ h => h) (Or.inl ⟨by rfl, ?_⟩) hHeld ?_ ?_
 rotate_left
 ·
  rintro w' ⟨s0, s1, s2, s3⟩
  go_simp
  with_reducible rfl
 rotate_left
 ·
  simp only [Nrm, Option.some.injEq, List.setIfInBounds_toArray, List.set_cons_zero, List.set_cons_succ, i64_w, i32_w]
  rfl
 refine take_ (i := 8) (N := some 13) (v := ?_) (a' := ?_) (Bt 12 511) rfl rfl (by kernel_rfl) (fun _ _ _ h => h) (Or.inl ⟨by rfl, ?_⟩) hHeld ?_ ?_
 rotate_left
 ·
  rintro w' ⟨s0, s1, s2, s3⟩
  go_simp
  with_reducible rfl
 rotate_left
 ·
  simp only [Nrm, Option.some.injEq, List.setIfInBounds_toArray, List.set_cons_zero, List.set_cons_succ, i64_w, i32_w]
  rfl
 refine one_ (i := 9) (N := some 14) (Bt 12 1023) rfl rfl (by kernel_rfl) (by decide) (fun K hK => ?_)
 refine goes_ Tryz.func88 (by kernel_rfl) rfl #[.slice A k c, .slice B l d] (by rfl) rfl rfl (by (try simp only [List.map_toArray, List.map_cons, List.map_nil]); first | done | rfl) ?_
 with_reducible refine (ref_NMul.run _ _ a b L1 L2 _ (H91.1.be HB.1) (H92.1.be HB.1) (by have := HL.out; omega)).mono ?_
 rintro e w50 ⟨r50, rfl, hr50, hb⟩
 refine ⟨_, rfl, ?_⟩
 obtain ⟨A50, k50, c50, rfl⟩ := hr50.sl
 have H51 := Aside0.mk hr50
 clear hr50
 replace B2 := Bb B2 hb
 replace B3 := Bb B3 hb
 replace B4 := Bb B4 hb
 replace HB := Ob HB hb
 clear hb
 refine hK.out _ _ ⟨Cl0 B2, Cl0 B3, Cl1 B2, Cl1 B3⟩ (fun hHeld => ?_)
 clear hK K
 refine norm_ (a' := ?_) ?_ ?_
 rotate_left
 ·
  show Act.put _ (some 14) _ = _
  simp only [Nrm, Option.some.injEq, List.setIfInBounds_toArray, List.set_cons_zero, List.set_cons_succ, i64_w, i32_w]
  rfl
 refine one_ (i := 10) (N := some 15) (Bt 12 2047) rfl rfl (by kernel_rfl) (by decide) (fun K hK => ?_)
 refine goes_ Tryz.func55 (by kernel_rfl) rfl #[.bool (s != t), .slice A50 k50 c50] (by rfl) rfl rfl (by (try simp only [List.map_toArray, List.map_cons, List.map_nil]); first | done | rfl) ?_
 with_reducible refine (ref_IMake.run (s != t) _ _ _ (a * b) (L1 + L2) _ H51.1.na (by have := HL.out; omega)).mono ?_
 rintro e w55 ⟨s55, A55, k55, c55, rfl, hr55, hz55, hu55, hb⟩
 refine ⟨_, rfl, ?_⟩
 have H56 := Aside0.mk hr55
 have Z55 := Aside0.mk (And.intro hz55 hu55)
 clear hr55 hz55 hu55
 replace H51 := As (H51.1.be hb)
 replace B2 := Bb B2 hb
 replace B3 := Bb B3 hb
 replace B4 := Bb B4 hb
 replace HB := Ob HB hb
 clear hb
 refine hK.out _ _ ⟨Cl0 B2, Cl0 B3, Cl1 B2, Cl1 B3⟩ (fun hHeld => ?_)
 clear hK K
 refine norm_ (a' := ?_) ?_ ?_
 rotate_left
 ·
  show Act.put _ (some 15) _ = _
  simp only [Nrm, Option.some.injEq, List.setIfInBounds_toArray, List.set_cons_zero, List.set_cons_succ, i64_w, i32_w]
  rfl
 refine last_ (i := 11) (N := none) (Bt 12 4095) rfl rfl (by kernel_rfl) (by decide) (fun K hK => ?_)
 (try clear cb4_0)
 have cb4_0 := Cl0 B4
 (try clear fb4_0)
 have fb4_0 := Fz B4 0
 (try clear cb4_1)
 have cb4_1 := Cl1 B4
 (try clear fb4_1)
 have fb4_1 := Fz B4 1
 refine skip_ (w1 := ?_) (by rfl) rfl ?_ ?_
 rotate_left
 ·
  go_simp
  rfl
 generalize hw : ((w55.setCell ⟨g4, 0, none⟩ (.bool s55)).setCell ⟨g4, 1, none⟩ (.slice A55 k55 c55)) = w60
 replace hw := Eq.symm hw
 have ho : Only w55 w60 g4 := (by rw [hw]; exact Only.setg (Only.setg (Only.refl _ _) 0 _) 1 _)
 have hB2 : w60.heap[g4]? = some (.cells #[.bool s55, .slice A55 k55 c55] 32 (0, 0)) := (by rw [hw]; exact (blk_put (blk_put B4.out 0 _ rfl) 1 _ rfl))
 replace H51 := As (H51.1.o2 ho B4)
 replace H56 := As (H56.1.o2 ho B4)
 replace B2 := Oo B2 ho NE2_4
 replace B3 := Oo B3 ho NE3_4
 replace HB := Lo HB ho G4
 replace B4 := As hB2
 clear hw ho hB2
 refine hK.out _ _ ?_
 clear hK K
 refine done_ (by kernel_rfl) ?_
 go_wp2
 try simp only [Exit.inBlock, Exit.then]
 refine bodyPost_ret (results_cell_row rfl _ _ g4 32 #[.bool s55, .slice A55 k55 c55] (0, 0) _ rfl B4.out Tryz.underlying32 rfl (by kernel_rfl)) rfl ?_
 refine ⟨_, _, _, _, rfl, H56.1, ?_, Z55.out.2, HB.out⟩
 have hz := Z55.out.1
 rw [hz, zi_mul]
theorem ref_ICmp.run (s t : Bool) (A B : Option Addr) (k c l d a b L1 L2 : Nat) (w : World) (hv : NA w (.slice A k c) a L1) (hu : NA w (.slice B l d) b L2) (hL : L1 + L2 ≤ 100000000) :
  Calls Tryz.prog 57 #[.agg #[.bool s, .slice A k c], .agg #[.bool t, .slice B l d]] w fun e w' => e = .returned (.int .i64 (cmpZ (zi s a) (zi t b))) ∧ Below w.heap.size w w' := by
 have H91 := Aside0.mk hv
 have H92 := Aside0.mk hu
 have HL := Aside0.mk hL
 have HB := Aside0.mk (Below.refl w.heap.size w)
 clear hv hu hL
 by_cases c1 : cmpZ (zi s a) 0 < cmpZ (zi t b) 0
 ·
  have k1 : decide (cmpZ (zi s a) 0 < cmpZ (zi t b) 0) = true := decide_eq_true c1
  have D1 := Aside0.mk c1
  clear c1
  go_enter Tryz.func57, Tryz.ntmps57
  go_wp2_with (first | (go_at_call 50; (with_reducible refine (ref_ISign.run t _ _ _ b L2 _ (H92.1.be HB.1) (by have := HL.out; omega)).mono ?_); rintro e w4 ⟨rfl, hb⟩; replace B2 := Bb B2 hb; replace B3 := Bb B3 hb; replace HB := Ob HB hb; clear hb) | (go_at_call 50; (with_reducible refine (ref_ISign.run s _ _ _ a L1 _ (H91.1.be HB.1) (by have := HL.out; omega)).mono ?_); rintro e w3 ⟨rfl, hb⟩; replace B2 := Bb B2 hb; replace B3 := Bb B3 hb; replace HB := Ob HB hb; clear hb; (try clear cb3_0); have cb3_0 := Cl0 B3; (try clear cb3_1); have cb3_1 := Cl1 B3) | ((with_reducible refine gate_dst (N := 3) rfl ?_); refine box_event (by rfl) (N := 3) (by rfl) (cs := #[.bool t, .slice B l d]) (t := 32) ?hr ?_; (case hr => first | (go_simp; done) | (go_simp; rfl)); intro g3 hgx w2 hbx hb; have B3 := As hbx; have NE2_3 := Nn B2 hgx; have G3 := Gg HB hgx; replace B2 := Bb B2 hb; replace HB := Ob HB hb; clear hbx hb hgx; (try clear cb2_0); have cb2_0 := Cl0 B2; (try clear cb2_1); have cb2_1 := Cl1 B2) | ((with_reducible refine gate_dst (N := 2) rfl ?_); refine box_event (by rfl) (N := 2) (by rfl) (cs := #[.bool s, .slice A k c]) (t := 32) ?hr ?_; (case hr => first | (go_simp; done) | (go_simp; rfl)); intro g2 hgx w1 hbx hb; have B2 := As hbx; have G2 := Gg HB hgx; replace HB := Ob HB hb; clear hbx hb hgx))
  go_ret
  refine ⟨?_, HB.out⟩
  rw [← cmp_less D1.out]
  rfl
 ·
  by_cases c2 : cmpZ (zi t b) 0 < cmpZ (zi s a) 0
  ·
   have k1 : decide (cmpZ (zi s a) 0 < cmpZ (zi t b) 0) = false := decide_eq_false c1
   have k2 : decide (cmpZ (zi t b) 0 < cmpZ (zi s a) 0) = true := decide_eq_true c2
   have D1 := Aside0.mk c2
   clear c1 c2
   go_enter Tryz.func57, Tryz.ntmps57
   go_wp2_with (first | (go_at_call 50; (with_reducible refine (ref_ISign.run t _ _ _ b L2 _ (H92.1.be HB.1) (by have := HL.out; omega)).mono ?_); rintro e w4 ⟨rfl, hb⟩; replace B2 := Bb B2 hb; replace B3 := Bb B3 hb; replace HB := Ob HB hb; clear hb) | (go_at_call 50; (with_reducible refine (ref_ISign.run s _ _ _ a L1 _ (H91.1.be HB.1) (by have := HL.out; omega)).mono ?_); rintro e w3 ⟨rfl, hb⟩; replace B2 := Bb B2 hb; replace B3 := Bb B3 hb; replace HB := Ob HB hb; clear hb; (try clear cb3_0); have cb3_0 := Cl0 B3; (try clear cb3_1); have cb3_1 := Cl1 B3) | ((with_reducible refine gate_dst (N := 3) rfl ?_); refine box_event (by rfl) (N := 3) (by rfl) (cs := #[.bool t, .slice B l d]) (t := 32) ?hr ?_; (case hr => first | (go_simp; done) | (go_simp; rfl)); intro g3 hgx w2 hbx hb; have B3 := As hbx; have NE2_3 := Nn B2 hgx; have G3 := Gg HB hgx; replace B2 := Bb B2 hb; replace HB := Ob HB hb; clear hbx hb hgx; (try clear cb2_0); have cb2_0 := Cl0 B2; (try clear cb2_1); have cb2_1 := Cl1 B2) | ((with_reducible refine gate_dst (N := 2) rfl ?_); refine box_event (by rfl) (N := 2) (by rfl) (cs := #[.bool s, .slice A k c]) (t := 32) ?hr ?_; (case hr => first | (go_simp; done) | (go_simp; rfl)); intro g2 hgx w1 hbx hb; have B2 := As hbx; have G2 := Gg HB hgx; replace HB := Ob HB hb; clear hbx hb hgx))
   go_ret
   refine ⟨?_, HB.out⟩
   rw [← cmp_more D1.out]
   rfl
  ·
   by_cases c3 : cmpZ (zi s a) 0 < 0
   ·
    have k1 : decide (cmpZ (zi s a) 0 < cmpZ (zi t b) 0) = false := decide_eq_false c1
    have k2 : decide (cmpZ (zi t b) 0 < cmpZ (zi s a) 0) = false := decide_eq_false c2
    have k3 : decide (cmpZ (zi s a) 0 < 0) = true := decide_eq_true c3
    have D1 := Aside0.mk (And.intro (Int.not_lt.1 c1) (And.intro (Int.not_lt.1 c2) c3))
    clear c1 c2 c3
    go_enter Tryz.func57, Tryz.ntmps57
    go_wp2_with (first | (go_at_call 91; (with_reducible refine (ref_NCmp.run _ _ b a (L2 + L1) _ ((H92.1.be HB.1).mono (by omega)) ((H91.1.be HB.1).mono (by omega)) (by have := HL.out; omega)).mono ?_); rintro e w5 ⟨rfl, hw⟩; replace hw := Eq.symm hw; subst hw) | (go_at_call 50; (with_reducible refine (ref_ISign.run t _ _ _ b L2 _ (H92.1.be HB.1) (by have := HL.out; omega)).mono ?_); rintro e w4 ⟨rfl, hb⟩; replace B2 := Bb B2 hb; replace B3 := Bb B3 hb; replace HB := Ob HB hb; clear hb; (try clear cb3_1); have cb3_1 := Cl1 B3; (try clear cb2_1); have cb2_1 := Cl1 B2) | (go_at_call 50; (with_reducible refine (ref_ISign.run s _ _ _ a L1 _ (H91.1.be HB.1) (by have := HL.out; omega)).mono ?_); rintro e w3 ⟨rfl, hb⟩; replace B2 := Bb B2 hb; replace B3 := Bb B3 hb; replace HB := Ob HB hb; clear hb; (try clear cb3_0); have cb3_0 := Cl0 B3; (try clear cb3_1); have cb3_1 := Cl1 B3) | ((with_reducible refine gate_dst (N := 3) rfl ?_); refine box_event (by rfl) (N := 3) (by rfl) (cs := #[.bool t, .slice B l d]) (t := 32) ?hr ?_; (case hr => first | (go_simp; done) | (go_simp; rfl)); intro g3 hgx w2 hbx hb; have B3 := As hbx; have NE2_3 := Nn B2 hgx; have G3 := Gg HB hgx; replace B2 := Bb B2 hb; replace HB := Ob HB hb; clear hbx hb hgx; (try clear cb2_0); have cb2_0 := Cl0 B2; (try clear cb2_1); have cb2_1 := Cl1 B2) | ((with_reducible refine gate_dst (N := 2) rfl ?_); refine box_event (by rfl) (N := 2) (by rfl) (cs := #[.bool s, .slice A k c]) (t := 32) ?hr ?_; (case hr => first | (go_simp; done) | (go_simp; rfl)); intro g2 hgx w1 hbx hb; have B2 := As hbx; have G2 := Gg HB hgx; replace HB := Ob HB hb; clear hbx hb hgx))
    go_ret
    refine ⟨?_, HB.out⟩
    rw [← cmp_neg D1.out.1 D1.out.2.1 D1.out.2.2]
    rfl
   ·
    have k1 : decide (cmpZ (zi s a) 0 < cmpZ (zi t b) 0) = false := decide_eq_false c1
    have k2 : decide (cmpZ (zi t b) 0 < cmpZ (zi s a) 0) = false := decide_eq_false c2
    have k3 : decide (cmpZ (zi s a) 0 < 0) = false := decide_eq_false c3
    have D1 := Aside0.mk (And.intro (Int.not_lt.1 c1) (And.intro (Int.not_lt.1 c2) (Int.not_lt.1 c3)))
    clear c1 c2 c3
    go_enter Tryz.func57, Tryz.ntmps57
    go_wp2_with (first | (go_at_call 91; (with_reducible refine (ref_NCmp.run _ _ a b (L1 + L2) _ ((H91.1.be HB.1).mono (by omega)) ((H92.1.be HB.1).mono (by omega)) (by have := HL.out; omega)).mono ?_); rintro e w5 ⟨rfl, hw⟩; replace hw := Eq.symm hw; subst hw) | (go_at_call 50; (with_reducible refine (ref_ISign.run t _ _ _ b L2 _ (H92.1.be HB.1) (by have := HL.out; omega)).mono ?_); rintro e w4 ⟨rfl, hb⟩; replace B2 := Bb B2 hb; replace B3 := Bb B3 hb; replace HB := Ob HB hb; clear hb; (try clear cb2_1); have cb2_1 := Cl1 B2; (try clear cb3_1); have cb3_1 := Cl1 B3) | (go_at_call 50; (with_reducible refine (ref_ISign.run s _ _ _ a L1 _ (H91.1.be HB.1) (by have := HL.out; omega)).mono ?_); rintro e w3 ⟨rfl, hb⟩; replace B2 := Bb B2 hb; replace B3 := Bb B3 hb; replace HB := Ob HB hb; clear hb; (try clear cb3_0); have cb3_0 := Cl0 B3; (try clear cb3_1); have cb3_1 := Cl1 B3) | ((with_reducible refine gate_dst (N := 3) rfl ?_); refine box_event (by rfl) (N := 3) (by rfl) (cs := #[.bool t, .slice B l d]) (t := 32) ?hr ?_; (case hr => first | (go_simp; done) | (go_simp; rfl)); intro g3 hgx w2 hbx hb; have B3 := As hbx; have NE2_3 := Nn B2 hgx; have G3 := Gg HB hgx; replace B2 := Bb B2 hb; replace HB := Ob HB hb; clear hbx hb hgx; (try clear cb2_0); have cb2_0 := Cl0 B2; (try clear cb2_1); have cb2_1 := Cl1 B2) | ((with_reducible refine gate_dst (N := 2) rfl ?_); refine box_event (by rfl) (N := 2) (by rfl) (cs := #[.bool s, .slice A k c]) (t := 32) ?hr ?_; (case hr => first | (go_simp; done) | (go_simp; rfl)); intro g2 hgx w1 hbx hb; have B2 := As hbx; have G2 := Gg HB hgx; replace HB := Ob HB hb; clear hbx hb hgx))
    go_ret
    refine ⟨?_, HB.out⟩
    rw [← cmp_pos D1.out.1 D1.out.2.1 D1.out.2.2]
    rfl
theorem ref_top.run (s : Bool) (A B : Option Addr) (k c l d a b L1 L2 : Nat) (w : World) (hv : NA w (.slice A k c) a L1) (hu : NA w (.slice B l d) b L2) (hL : L1 + L2 ≤ 100000000) :
  Calls Tryz.prog 51 #[.agg #[.bool s, .slice A k c, .slice B l d]] w fun e w' => ∃ u A k c n, e = .returned (.agg #[.bool u, .slice A k c]) ∧ NC w' (.slice A k c) n (L1 + 2) ∧ zi u n = pn s a b ∧ Below w.heap.size w w' := by
 have H91 := Aside0.mk hv
 have H92 := Aside0.mk hu
 have HL := Aside0.mk hL
 have HB := Aside0.mk (Below.refl w.heap.size w)
 clear hv hu hL
 by_cases hb : b = 0
 ·
  have HP := Aside0.mk hb
  clear hb
  go_enter Tryz.func51, Tryz.ntmps51
  go_wp2_with (first | ((with_reducible refine gate_store (t := 32) (p := 2) rfl ?_); refine Sto (t := 32) (p := 2) (by rfl) (.tmp 7) (by rfl) (by rfl) g2 #[.bool s4, .slice A4 k4 c4] (by rfl) (by first | rfl | (go_simp; done) | (go_simp; rfl)) B2 (by kernel_rfl) rfl (by kernel_rfl) ?_; intro w6 ho hB2; replace H5 := As (H5.1.o2 ho B2); replace B1 := Oo B1 ho NE1_2; replace HB := Lo HB ho G2; replace B2 := hB2; clear ho hB2) | (go_at_call 77; (with_reducible refine (ref_IOf0.run _).mono ?_); rintro e w4 ⟨s4, A4, k4, c4, rfl, hr4, hz4, hb⟩; have H5 := As hr4; have Z4 := As (And.intro hz4 hz4); clear hr4 hz4; replace B1 := Bb B1 hb; replace B2 := Bb B2 hb; replace HB := Ob HB hb; clear hb) | (go_at_call 76; (with_reducible refine (ref_NBits.run _ b L2 _ (H92.1.be HB.1) (by have := HL.out; omega)).mono ?_); rintro e w3 ⟨b3, rfl, hb, hi3⟩; replace B1 := Bb B1 hb; replace B2 := Bb B2 hb; replace HB := Ob HB hb; have kb3 : (b3 == 0) = true := (by rw [beq_iff_eq]; exact hi3.1.2 (HP.out)); clear hi3; clear hb) | ((with_reducible refine gate_dst (N := 2) rfl ?_); refine box_event (by rfl) (N := 2) (by rfl) (cs := #[.bool false, .slice none 0 0]) (t := 32) ?hr ?_; (case hr => first | (go_simp; done) | (go_simp; rfl)); intro g2 hgx w2 hbx hb; have B2 := As hbx; have NE1_2 := Nn B1 hgx; have G2 := Gg HB hgx; replace B1 := Bb B1 hb; replace HB := Ob HB hb; clear hbx hb hgx; (try clear cb1_2); have cb1_2 := Cl2 B1) | ((with_reducible refine gate_dst (N := 1) rfl ?_); refine box_event (by rfl) (N := 1) (by rfl) (cs := #[.bool s, .slice A k c, .slice B l d]) (t := 34) ?hr ?_; (case hr => first | (go_simp; done) | (go_simp; rfl)); intro g1 hgx w1 hbx hb; have B1 := As hbx; have G1 := Gg HB hgx; replace HB := Ob HB hb; clear hbx hb hgx))
  try simp only [Exit.inBlock, Exit.then]
  refine bodyPost_ret (results_cell_row rfl _ _ g2 32 #[.bool s4, .slice A4 k4 c4] (0, 0) _ rfl B2.out Tryz.underlying32 rfl (by kernel_rfl)) rfl ?_
  refine ⟨_, _, _, _, _, rfl, (H5.1).mono (by omega), ?_, HB.out⟩
  rw [Z4.out.1, HP.out]
  rfl
 ·
  have HP := Aside0.mk hb
  clear hb
  go_enter Tryz.func51, Tryz.ntmps51
  go_wp2_with (first | ((with_reducible refine gate_store (t := 32) (p := 2) rfl ?_); refine Sto (t := 32) (p := 2) (by rfl) (.tmp 10) (by rfl) (by rfl) g2 #[.bool s4, .slice A4 k4 c4] (by rfl) (by first | rfl | (go_simp; done) | (go_simp; rfl)) B2 (by kernel_rfl) rfl (by kernel_rfl) ?_; intro w6 ho hB2; replace H5 := As (H5.1.o2 ho B2); replace B1 := Oo B1 ho NE1_2; replace HB := Lo HB ho G2; replace B2 := hB2; clear ho hB2) | (go_at_call 75; (with_reducible refine (ref_INorm.run s _ _ _ a L1 _ (H91.1.be HB.1) (by have := HL.out; omega)).mono ?_); rintro e w4 ⟨s4, A4, k4, c4, rfl, hr4, hz4, hu4, hb⟩; have H5 := As hr4; have Z4 := As (And.intro hz4 hu4); clear hr4 hz4 hu4; replace B1 := Bb B1 hb; replace B2 := Bb B2 hb; replace HB := Ob HB hb; clear hb) | (go_at_call 76; (with_reducible refine (ref_NBits.run _ b L2 _ (H92.1.be HB.1) (by have := HL.out; omega)).mono ?_); rintro e w3 ⟨b3, rfl, hb, hi3⟩; replace B1 := Bb B1 hb; replace B2 := Bb B2 hb; replace HB := Ob HB hb; have kb3 : (b3 == 0) = false := (by rw [beq_eq_false_iff_ne]; intro e_; exact (HP.out) (hi3.1.1 e_)); clear hi3; clear hb; (try clear cb1_0); have cb1_0 := Cl0 B1; (try clear cb1_1); have cb1_1 := Cl1 B1) | ((with_reducible refine gate_dst (N := 2) rfl ?_); refine box_event (by rfl) (N := 2) (by rfl) (cs := #[.bool false, .slice none 0 0]) (t := 32) ?hr ?_; (case hr => first | (go_simp; done) | (go_simp; rfl)); intro g2 hgx w2 hbx hb; have B2 := As hbx; have NE1_2 := Nn B1 hgx; have G2 := Gg HB hgx; replace B1 := Bb B1 hb; replace HB := Ob HB hb; clear hbx hb hgx; (try clear cb1_2); have cb1_2 := Cl2 B1) | ((with_reducible refine gate_dst (N := 1) rfl ?_); refine box_event (by rfl) (N := 1) (by rfl) (cs := #[.bool s, .slice A k c, .slice B l d]) (t := 34) ?hr ?_; (case hr => first | (go_simp; done) | (go_simp; rfl)); intro g1 hgx w1 hbx hb; have B1 := As hbx; have G1 := Gg HB hgx; replace HB := Ob HB hb; clear hbx hb hgx))
  try simp only [Exit.inBlock, Exit.then]
  refine bodyPost_ret (results_cell_row rfl _ _ g2 32 #[.bool s4, .slice A4 k4 c4] (0, 0) _ rfl B2.out Tryz.underlying32 rfl (by kernel_rfl)) rfl ?_
  refine ⟨_, _, _, _, _, rfl, (H5.1).mono (by omega), ?_, HB.out⟩
  rw [Z4.out.1]
  unfold pn
  rw [if_neg HP.out]
theorem ref_low.run (s : Bool) (A B : Option Addr) (k c l d b L2 : Nat) (w : World) (hu : NA w (.slice B l d) b L2) (hL : L2 ≤ 100000000) :
  Calls Tryz.prog 56 #[.agg #[.bool s, .slice A k c, .slice B l d]] w fun e w' => ∃ A k c, e = .returned (.slice A k c) ∧ NC w' (.slice A k c) (pd b) (L2 + 2) ∧ Below w.heap.size w w' := by
 have H92 := Aside0.mk hu
 have HL := Aside0.mk hL
 have HB := Aside0.mk (Below.refl w.heap.size w)
 clear hu hL
 by_cases hb : b = 0
 ·
  have HP := Aside0.mk hb
  clear hb
  go_enter Tryz.func56, Tryz.ntmps56
  go_wp2_with (first | (go_at_call 89; (with_reducible refine (ref_Of1.run _).mono ?_); rintro e w3 ⟨r3, rfl, hr3, hb⟩; obtain ⟨A3, k3, c3, rfl⟩ := hr3.sl; have H4 := Aside0.mk hr3; clear hr3; replace B1 := Bb B1 hb; replace HB := Ob HB hb; clear hb) | (go_at_call 76; (with_reducible refine (ref_NBits.run _ b L2 _ (H92.1.be HB.1) (by have := HL.out; omega)).mono ?_); rintro e w2 ⟨b2, rfl, hb, hi2⟩; replace B1 := Bb B1 hb; replace HB := Ob HB hb; have kb2 : (b2 == 0) = true := (by rw [beq_iff_eq]; exact hi2.1.2 (HP.out)); clear hi2; clear hb) | ((with_reducible refine gate_dst (N := 1) rfl ?_); refine box_event (by rfl) (N := 1) (by rfl) (cs := #[.bool s, .slice A k c, .slice B l d]) (t := 34) ?hr ?_; (case hr => first | (go_simp; done) | (go_simp; rfl)); intro g1 hgx w1 hbx hb; have B1 := As hbx; have G1 := Gg HB hgx; replace HB := Ob HB hb; clear hbx hb hgx; (try clear cb1_2); have cb1_2 := Cl2 B1))
  go_ret
  refine ⟨_, _, _, rfl, ?_, HB.out⟩
  have hc := (H4.1).mono (show 2 ≤ L2 + 2 by omega)
  rw [show pd b = 1 by unfold pd; rw [if_pos HP.out]]
  exact hc
 ·
  have HP := Aside0.mk hb
  clear hb
  go_enter Tryz.func56, Tryz.ntmps56
  go_wp2_with (first | (go_at_call 90; (with_reducible refine (ref_Norm.run _ b L2 _ (H92.1.be HB.1) (by have := HL.out; omega)).mono ?_); rintro e w3 ⟨r3, rfl, hr3, hb⟩; obtain ⟨A3, k3, c3, rfl⟩ := hr3.sl; have H4 := Aside0.mk hr3; clear hr3; replace B1 := Bb B1 hb; replace HB := Ob HB hb; clear hb) | (go_at_call 76; (with_reducible refine (ref_NBits.run _ b L2 _ (H92.1.be HB.1) (by have := HL.out; omega)).mono ?_); rintro e w2 ⟨b2, rfl, hb, hi2⟩; replace B1 := Bb B1 hb; replace HB := Ob HB hb; have kb2 : (b2 == 0) = false := (by rw [beq_eq_false_iff_ne]; intro e_; exact (HP.out) (hi2.1.1 e_)); clear hi2; clear hb; (try clear cb1_2); have cb1_2 := Cl2 B1) | ((with_reducible refine gate_dst (N := 1) rfl ?_); refine box_event (by rfl) (N := 1) (by rfl) (cs := #[.bool s, .slice A k c, .slice B l d]) (t := 34) ?hr ?_; (case hr => first | (go_simp; done) | (go_simp; rfl)); intro g1 hgx w1 hbx hb; have B1 := As hbx; have G1 := Gg HB hgx; replace HB := Ob HB hb; clear hbx hb hgx; (try clear cb1_2); have cb1_2 := Cl2 B1))
  go_ret
  refine ⟨_, _, _, rfl, ?_, HB.out⟩
  have hc := (H4.1).mono (show L2 ≤ L2 + 2 by omega)
  rw [show pd b = b by unfold pd; rw [if_neg HP.out]]
  exact hc
theorem ref_RSign.run (s : Bool) (A B : Option Addr) (k c l d a b L1 L2 : Nat) (w : World) (hv : NA w (.slice A k c) a L1) (hu : NA w (.slice B l d) b L2) (hL : L1 + L2 ≤ 90000000) :
  Calls Tryz.prog 29 #[.agg #[.bool s, .slice A k c, .slice B l d]] w fun e w' => e = .returned (.int .i64 (cmpZ (pn s a b) 0)) ∧ Below w.heap.size w w' := by
 have H91 := Aside0.mk hv
 have H92 := Aside0.mk hu
 have HL := Aside0.mk hL
 have HB := Aside0.mk (Below.refl w.heap.size w)
 clear hv hu hL
 go_enter Tryz.func29, Tryz.ntmps29
 go_wp2_with (first | (go_at_call 50; (with_reducible refine (ref_ISign.run s2 _ _ _ n2 (L1 + 2) _ H3.1.na (by have := HL.out; omega)).mono ?_); rintro e w4 ⟨rfl, hb⟩; replace H3 := As (H3.1.be hb); replace B1 := Bb B1 hb; replace HB := Ob HB hb; clear hb) | (go_at_call 51; (with_reducible refine (ref_top.run s _ _ _ _ _ _ a b L1 L2 _ (H91.1.be HB.1) (H92.1.be HB.1) (by have := HL.out; omega)).mono ?_); rintro e w2 ⟨s2, A2, k2, c2, n2, rfl, hr2, hz2, hb⟩; have H3 := As hr2; have T2 := As hz2; clear hr2 hz2; replace B1 := Bb B1 hb; replace HB := Ob HB hb; clear hb) | ((with_reducible refine gate_dst (N := 1) rfl ?_); refine box_event (by rfl) (N := 1) (by rfl) (cs := #[.bool s, .slice A k c, .slice B l d]) (t := 34) ?hr ?_; (case hr => first | (go_simp; done) | (go_simp; rfl)); intro g1 hgx w1 hbx hb; have B1 := As hbx; have G1 := Gg HB hgx; replace HB := Ob HB hb; clear hbx hb hgx; (try clear cb1_0); have cb1_0 := Cl0 B1; (try clear cb1_1); have cb1_1 := Cl1 B1; (try clear cb1_2); have cb1_2 := Cl2 B1))
 go_ret
 refine ⟨?_, HB.out⟩
 rw [← T2.out]
 rfl
theorem ref_RCmp.run (s t : Bool) (A B D E : Option Addr) (k c l d m e p f a b x y L1 L2 L3 L4 : Nat) (w : World) (hv : NA w (.slice A k c) a L1) (hu : NA w (.slice B l d) b L2) (hx : NA w (.slice D m e) x L3) (hy : NA w (.slice E p f) y L4) (hL : L1 + L2 + L3 + L4 ≤ 40000000) :
  Calls Tryz.prog 36 #[.agg #[.bool s, .slice A k c, .slice B l d], .agg #[.bool t, .slice D m e, .slice E p f]] w fun r w' => r = .returned (.int .i64 (cmpZ (pn s a b * pd y) (pn t x y * pd b))) ∧ Below w.heap.size w w' := by
 have H91 := Aside0.mk hv
 have H92 := Aside0.mk hu
 have H93 := Aside0.mk hx
 have H94 := Aside0.mk hy
 have HL := Aside0.mk hL
 have HB := Aside0.mk (Below.refl w.heap.size w)
 clear hv hu hx hy hL
 go_enter Tryz.func36, Tryz.ntmps36
 go_wp2_with (first | ((with_reducible refine gate_dst (N := 3) rfl ?_); refine box_event (by rfl) (N := 3) (by rfl) (cs := #[.bool t, .slice D m e, .slice E p f]) (t := 34) ?hr ?_; (case hr => first | (go_simp; done) | (go_simp; rfl)); intro g3 hgx w2 hbx hb; have B3 := As hbx; have NE2_3 := Nn B2 hgx; have G3 := Gg HB hgx; replace B2 := Bb B2 hb; replace HB := Ob HB hb; clear hbx hb hgx) | ((with_reducible refine gate_dst (N := 2) rfl ?_); refine box_event (by rfl) (N := 2) (by rfl) (cs := #[.bool s, .slice A k c, .slice B l d]) (t := 34) ?hr ?_; (case hr => first | (go_simp; done) | (go_simp; rfl)); intro g2 hgx w1 hbx hb; have B2 := As hbx; have G2 := Gg HB hgx; replace HB := Ob HB hb; clear hbx hb hgx))
 replace B2 := Bd B2
 replace B3 := Bd B3
 replace HB := Od HB
 refine start_ (n := 8) (S := fun w' => w'.cell? ⟨g2, 0, none⟩ = some (.bool s) ∧ w'.cell? ⟨g2, 1, none⟩ = some (.slice A k c) ∧ w'.cell? ⟨g2, 2, none⟩ = some (.slice B l d) ∧ w'.cell? ⟨g3, 0, none⟩ = some (.bool t) ∧ w'.cell? ⟨g3, 1, none⟩ = some (.slice D m e) ∧ w'.cell? ⟨g3, 2, none⟩ = some (.slice E p f)) (ds := [7]) (Bt 8 0) (by kernel_rfl) rfl (by kernel_rfl) ⟨Cl0 B2, Cl1 B2, Cl2 B2, Cl0 B3, Cl1 B3, Cl2 B3⟩ (fun hHeld => ?_)
 generalize w2.drew = w3 at hHeld B2 B3 HB ⊢
 refine take_ (i := 0) (N := some 7) (v := ?_) (a' := ?_) (Bt 8 1) rfl rfl (by kernel_rfl) (fun _ _ _ h => h) (Or.inl ⟨by rfl, ?_⟩) hHeld ?_ ?_
 rotate_left
 ·
  rintro w' ⟨s0, s1, s2, s3, s4, s5⟩
  go_simp
  with_reducible rfl
 rotate_left
 ·
  simp only [Nrm, Option.some.injEq, List.setIfInBounds_toArray, List.set_cons_zero, List.set_cons_succ, i64_w, i32_w]
  rfl
 refine take_ (i := 2) (N := some 9) (v := ?_) (a' := ?_) (Bt 8 5) rfl rfl (by kernel_rfl) (fun _ _ _ h => h) (Or.inl ⟨by rfl, ?_⟩) hHeld ?_ ?_
 rotate_left
 ·
  rintro w' ⟨s0, s1, s2, s3, s4, s5⟩
  go_simp
  with_reducible rfl
 rotate_left
 ·
  simp only [Nrm, Option.some.injEq, List.setIfInBounds_toArray, List.set_cons_zero, List.set_cons_succ, i64_w, i32_w]
  rfl
 refine two_ (i := 1) (j := 6) (Ni := some 8) (Nj := some 5) (Bt 8 7) (Bt 8 69) rfl rfl rfl rfl (by kernel_rfl) (by decide) (by decide) (fun K hK => ?_) (fun K hK => ?_)
 focus
  refine goes_ Tryz.func51 (by kernel_rfl) rfl #[.agg #[.bool s, .slice A k c, .slice B l d]] (by rfl) rfl rfl (by (try simp only [List.map_toArray, List.map_cons, List.map_nil]); first | done | rfl) ?_
  with_reducible refine (ref_top.run s _ _ _ _ _ _ a b L1 L2 _ (H91.1.be HB.1) (H92.1.be HB.1) (by have := HL.out; omega)).mono ?_
  rintro e w9 ⟨s9, A9, k9, c9, n9, rfl, hr9, hz9, hb⟩
  refine ⟨_, rfl, ?_⟩
  have H10 := As hr9
  have T9 := As hz9
  clear hr9 hz9
  replace B2 := Bb B2 hb
  replace B3 := Bb B3 hb
  replace HB := Ob HB hb
  clear hb
  refine hK.out _ _ ⟨Cl0 B2, Cl1 B2, Cl2 B2, Cl0 B3, Cl1 B3, Cl2 B3⟩ (fun hHeld => ?_)
  clear hK K
  refine norm_ (a' := ?_) ?_ ?_
  rotate_left
  ·
   show Act.put _ (some 8) _ = _
   simp only [Nrm, Option.some.injEq, List.setIfInBounds_toArray, List.set_cons_zero, List.set_cons_succ, i64_w, i32_w]
   rfl
  refine two_ (i := 3) (j := 6) (Ni := some 10) (Nj := some 5) (Bt 8 15) (Bt 8 71) rfl rfl rfl rfl (by kernel_rfl) (by decide) (by decide) (fun K hK => ?_) (fun K hK => ?_)
  focus
   refine goes_ Tryz.func56 (by kernel_rfl) rfl #[.agg #[.bool t, .slice D m e, .slice E p f]] (by rfl) rfl rfl (by (try simp only [List.map_toArray, List.map_cons, List.map_nil]); first | done | rfl) ?_
   with_reducible refine (ref_low.run t _ _ _ _ _ _ y L4 _ (H94.1.be HB.1) (by have := HL.out; omega)).mono ?_
   rintro e w19 ⟨A19, k19, c19, rfl, hr19, hb⟩
   refine ⟨_, rfl, ?_⟩
   have H20 := As hr19
   clear hr19
   replace H10 := As (H10.1.be hb)
   replace B2 := Bb B2 hb
   replace B3 := Bb B3 hb
   replace HB := Ob HB hb
   clear hb
   refine hK.out _ _ ⟨Cl0 B2, Cl1 B2, Cl2 B2, Cl0 B3, Cl1 B3, Cl2 B3⟩ (fun hHeld => ?_)
   clear hK K
   refine norm_ (a' := ?_) ?_ ?_
   rotate_left
   ·
    show Act.put _ (some 10) _ = _
    simp only [Nrm, Option.some.injEq, List.setIfInBounds_toArray, List.set_cons_zero, List.set_cons_succ, i64_w, i32_w]
    rfl
   refine two_ (i := 4) (j := 6) (Ni := some 11) (Nj := some 5) (Bt 8 31) (Bt 8 79) rfl rfl rfl rfl (by kernel_rfl) (by decide) (by decide) (fun K hK => ?_) (fun K hK => ?_)
   focus
    refine goes_ Tryz.func55 (by kernel_rfl) rfl #[.bool false, .slice A19 k19 c19] (by rfl) rfl rfl (by (try simp only [List.map_toArray, List.map_cons, List.map_nil]); first | done | rfl) ?_
    with_reducible refine (ref_IMake.run false _ _ _ (pd y) (L4 + 2) _ H20.1.na (by have := HL.out; omega)).mono ?_
    rintro e w24 ⟨s24, A24, k24, c24, rfl, hr24, hz24, hu24, hb⟩
    refine ⟨_, rfl, ?_⟩
    have H25 := Aside0.mk hr24
    have Z24 := Aside0.mk (And.intro hz24 hu24)
    clear hr24 hz24 hu24
    replace H10 := As (H10.1.be hb)
    replace H20 := As (H20.1.be hb)
    replace B2 := Bb B2 hb
    replace B3 := Bb B3 hb
    replace HB := Ob HB hb
    clear hb
    refine hK.out _ _ ⟨Cl0 B2, Cl1 B2, Cl2 B2, Cl0 B3, Cl1 B3, Cl2 B3⟩ (fun hHeld => ?_)
    clear hK K
    refine norm_ (a' := ?_) ?_ ?_
    rotate_left
    ·
     show Act.put _ (some 11) _ = _
     simp only [Nrm, Option.some.injEq, List.setIfInBounds_toArray, List.set_cons_zero, List.set_cons_succ, i64_w, i32_w]
     rfl
    refine two_ (i := 5) (j := 6) (Ni := some 12) (Nj := some 5) (Bt 8 63) (Bt 8 95) rfl rfl rfl rfl (by kernel_rfl) (by decide) (by decide) (fun K hK => ?_) (fun K hK => ?_)
    focus
     refine goes_ Tryz.func54 (by kernel_rfl) rfl #[.agg #[.bool s9, .slice A9 k9 c9], .agg #[.bool s24, .slice A24 k24 c24]] (by rfl) rfl rfl (by (try simp only [List.map_toArray, List.map_cons, List.map_nil]); first | done | rfl) ?_
     with_reducible refine (ref_IMul.run s9 s24 _ _ _ _ _ _ n9 (pd y) (L1 + 2) (L4 + 2) _ H10.1.na H25.1.na (by have := HL.out; omega)).mono ?_
     rintro e w29 ⟨s29, A29, k29, c29, rfl, hr29, hz29, hu29, hb⟩
     refine ⟨_, rfl, ?_⟩
     have H30 := Aside0.mk hr29
     have Z29 := Aside0.mk (And.intro hz29 hu29)
     clear hr29 hz29 hu29
     replace H10 := As (H10.1.be hb)
     replace H20 := As (H20.1.be hb)
     replace H25 := As (H25.1.be hb)
     replace B2 := Bb B2 hb
     replace B3 := Bb B3 hb
     replace HB := Ob HB hb
     clear hb
     refine hK.out _ _ ⟨Cl0 B2, Cl1 B2, Cl2 B2, Cl0 B3, Cl1 B3, Cl2 B3⟩ (fun hHeld => ?_)
     clear hK K
     refine norm_ (a' := ?_) ?_ ?_
     rotate_left
     ·
      show Act.put _ (some 12) _ = _
      simp only [Nrm, Option.some.injEq, List.setIfInBounds_toArray, List.set_cons_zero, List.set_cons_succ, i64_w, i32_w]
      rfl
     refine one_ (i := 6) (N := some 5) (Bt 8 127) rfl rfl (by kernel_rfl) (by decide) (fun K hK => ?_)
     refine box_step (by rfl) (N := 5) (by rfl) (cs := #[.bool false, .slice none 0 0]) (t := 32) ?hr ?_
     (case hr => first | (go_simp; done) | (go_simp; rfl))
     intro g5 hgx w34 hbx hb
     have B5 := As hbx
     have NE2_5 := Nn B2 hgx
     have NE3_5 := Nn B3 hgx
     have G5 := Gg HB hgx
     replace H10 := As (H10.1.be hb)
     replace H20 := As (H20.1.be hb)
     replace H25 := As (H25.1.be hb)
     replace H30 := As (H30.1.be hb)
     replace B2 := Bb B2 hb
     replace B3 := Bb B3 hb
     replace HB := Ob HB hb
     clear hbx hb hgx
     refine hK.out _ _ ⟨Cl0 B2, Cl1 B2, Cl2 B2, Cl0 B3, Cl1 B3, Cl2 B3⟩ (fun hHeld => ?_)
     clear hK K
     refine norm_ (a' := ?_) ?_ ?_
     rotate_left
     ·
      show Act.put _ (some 5) _ = _
      simp only [Nrm, Option.some.injEq, List.setIfInBounds_toArray, List.set_cons_zero, List.set_cons_succ, i64_w, i32_w]
      rfl
     refine last_ (i := 7) (N := none) (Bt 8 255) rfl rfl (by kernel_rfl) (by decide) (fun K hK => ?_)
     (try clear cb5_0)
     have cb5_0 := Cl0 B5
     (try clear fb5_0)
     have fb5_0 := Fz B5 0
     (try clear cb5_1)
     have cb5_1 := Cl1 B5
     (try clear fb5_1)
     have fb5_1 := Fz B5 1
     refine skip_ (w1 := ?_) (by rfl) rfl ?_ ?_
     rotate_left
     ·
      go_simp
      rfl
     generalize hw : ((w34.setCell ⟨g5, 0, none⟩ (.bool s29)).setCell ⟨g5, 1, none⟩ (.slice A29 k29 c29)) = w39
     replace hw := Eq.symm hw
     have ho : Only w34 w39 g5 := (by rw [hw]; exact Only.setg (Only.setg (Only.refl _ _) 0 _) 1 _)
     have hB2 : w39.heap[g5]? = some (.cells #[.bool s29, .slice A29 k29 c29] 32 (0, 0)) := (by rw [hw]; exact (blk_put (blk_put B5.out 0 _ rfl) 1 _ rfl))
     replace H10 := As (H10.1.o2 ho B5)
     replace H20 := As (H20.1.o2 ho B5)
     replace H25 := As (H25.1.o2 ho B5)
     replace H30 := As (H30.1.o2 ho B5)
     replace B2 := Oo B2 ho NE2_5
     replace B3 := Oo B3 ho NE3_5
     replace HB := Lo HB ho G5
     replace B5 := As hB2
     clear hw ho hB2
     refine hK.out _ _ ?_
     clear hK K
     refine done_ (by kernel_rfl) ?_
     rename World => w43
    rotate_left
    focus
     refine box_step (by rfl) (N := 5) (by rfl) (cs := #[.bool false, .slice none 0 0]) (t := 32) ?hr ?_
     (case hr => first | (go_simp; done) | (go_simp; rfl))
     intro g5 hgx w34 hbx hb
     have B5 := As hbx
     have NE2_5 := Nn B2 hgx
     have NE3_5 := Nn B3 hgx
     have G5 := Gg HB hgx
     replace H10 := As (H10.1.be hb)
     replace H20 := As (H20.1.be hb)
     replace H25 := As (H25.1.be hb)
     replace B2 := Bb B2 hb
     replace B3 := Bb B3 hb
     replace HB := Ob HB hb
     clear hbx hb hgx
     refine hK.out _ _ ⟨Cl0 B2, Cl1 B2, Cl2 B2, Cl0 B3, Cl1 B3, Cl2 B3⟩ (fun hHeld => ?_)
     clear hK K
     refine norm_ (a' := ?_) ?_ ?_
     rotate_left
     ·
      show Act.put _ (some 5) _ = _
      simp only [Nrm, Option.some.injEq, List.setIfInBounds_toArray, List.set_cons_zero, List.set_cons_succ, i64_w, i32_w]
      rfl
     refine one_ (i := 5) (N := some 12) (Bt 8 127) rfl rfl (by kernel_rfl) (by decide) (fun K hK => ?_)
     refine goes_ Tryz.func54 (by kernel_rfl) rfl #[.agg #[.bool s9, .slice A9 k9 c9], .agg #[.bool s24, .slice A24 k24 c24]] (by rfl) rfl rfl (by (try simp only [List.map_toArray, List.map_cons, List.map_nil]); first | done | rfl) ?_
     with_reducible refine (ref_IMul.run s9 s24 _ _ _ _ _ _ n9 (pd y) (L1 + 2) (L4 + 2) _ H10.1.na H25.1.na (by have := HL.out; omega)).mono ?_
     rintro e w29 ⟨s29, A29, k29, c29, rfl, hr29, hz29, hu29, hb⟩
     refine ⟨_, rfl, ?_⟩
     have H30 := Aside0.mk hr29
     have Z29 := Aside0.mk (And.intro hz29 hu29)
     clear hr29 hz29 hu29
     replace H10 := As (H10.1.be hb)
     replace H20 := As (H20.1.be hb)
     replace H25 := As (H25.1.be hb)
     replace B2 := Bb B2 hb
     replace B3 := Bb B3 hb
     replace B5 := Bb B5 hb
     replace HB := Ob HB hb
     clear hb
     refine hK.out _ _ ⟨Cl0 B2, Cl1 B2, Cl2 B2, Cl0 B3, Cl1 B3, Cl2 B3⟩ (fun hHeld => ?_)
     clear hK K
     refine norm_ (a' := ?_) ?_ ?_
     rotate_left
     ·
      show Act.put _ (some 12) _ = _
      simp only [Nrm, Option.some.injEq, List.setIfInBounds_toArray, List.set_cons_zero, List.set_cons_succ, i64_w, i32_w]
      rfl
     refine last_ (i := 7) (N := none) (Bt 8 255) rfl rfl (by kernel_rfl) (by decide) (fun K hK => ?_)
     (try clear cb5_0)
     have cb5_0 := Cl0 B5
     (try clear fb5_0)
     have fb5_0 := Fz B5 0
     (try clear cb5_1)
     have cb5_1 := Cl1 B5
     (try clear fb5_1)
     have fb5_1 := Fz B5 1
     refine skip_ (w1 := ?_) (by rfl) rfl ?_ ?_
     rotate_left
     ·
      go_simp
      rfl
     generalize hw : ((w29.setCell ⟨g5, 0, none⟩ (.bool s29)).setCell ⟨g5, 1, none⟩ (.slice A29 k29 c29)) = w39
     replace hw := Eq.symm hw
     have ho : Only w29 w39 g5 := (by rw [hw]; exact Only.setg (Only.setg (Only.refl _ _) 0 _) 1 _)
     have hB2 : w39.heap[g5]? = some (.cells #[.bool s29, .slice A29 k29 c29] 32 (0, 0)) := (by rw [hw]; exact (blk_put (blk_put B5.out 0 _ rfl) 1 _ rfl))
     replace H10 := As (H10.1.o2 ho B5)
     replace H20 := As (H20.1.o2 ho B5)
     replace H25 := As (H25.1.o2 ho B5)
     replace H30 := As (H30.1.o2 ho B5)
     replace B2 := Oo B2 ho NE2_5
     replace B3 := Oo B3 ho NE3_5
     replace HB := Lo HB ho G5
     replace B5 := As hB2
     clear hw ho hB2
     refine hK.out _ _ ?_
     clear hK K
     refine done_ (by kernel_rfl) ?_
     rename World => w43
    rotate_left
   rotate_left 2
   focus
    refine box_step (by rfl) (N := 5) (by rfl) (cs := #[.bool false, .slice none 0 0]) (t := 32) ?hr ?_
    (case hr => first | (go_simp; done) | (go_simp; rfl))
    intro g5 hgx w34 hbx hb
    have B5 := As hbx
    have NE2_5 := Nn B2 hgx
    have NE3_5 := Nn B3 hgx
    have G5 := Gg HB hgx
    replace H10 := As (H10.1.be hb)
    replace H20 := As (H20.1.be hb)
    replace B2 := Bb B2 hb
    replace B3 := Bb B3 hb
    replace HB := Ob HB hb
    clear hbx hb hgx
    refine hK.out _ _ ⟨Cl0 B2, Cl1 B2, Cl2 B2, Cl0 B3, Cl1 B3, Cl2 B3⟩ (fun hHeld => ?_)
    clear hK K
    refine norm_ (a' := ?_) ?_ ?_
    rotate_left
    ·
     show Act.put _ (some 5) _ = _
     simp only [Nrm, Option.some.injEq, List.setIfInBounds_toArray, List.set_cons_zero, List.set_cons_succ, i64_w, i32_w]
     rfl
    refine one_ (i := 4) (N := some 11) (Bt 8 95) rfl rfl (by kernel_rfl) (by decide) (fun K hK => ?_)
    refine goes_ Tryz.func55 (by kernel_rfl) rfl #[.bool false, .slice A19 k19 c19] (by rfl) rfl rfl (by (try simp only [List.map_toArray, List.map_cons, List.map_nil]); first | done | rfl) ?_
    with_reducible refine (ref_IMake.run false _ _ _ (pd y) (L4 + 2) _ H20.1.na (by have := HL.out; omega)).mono ?_
    rintro e w24 ⟨s24, A24, k24, c24, rfl, hr24, hz24, hu24, hb⟩
    refine ⟨_, rfl, ?_⟩
    have H25 := Aside0.mk hr24
    have Z24 := Aside0.mk (And.intro hz24 hu24)
    clear hr24 hz24 hu24
    replace H10 := As (H10.1.be hb)
    replace H20 := As (H20.1.be hb)
    replace B2 := Bb B2 hb
    replace B3 := Bb B3 hb
    replace B5 := Bb B5 hb
    replace HB := Ob HB hb
    clear hb
    refine hK.out _ _ ⟨Cl0 B2, Cl1 B2, Cl2 B2, Cl0 B3, Cl1 B3, Cl2 B3⟩ (fun hHeld => ?_)
    clear hK K
    refine norm_ (a' := ?_) ?_ ?_
    rotate_left
    ·
     show Act.put _ (some 11) _ = _
     simp only [Nrm, Option.some.injEq, List.setIfInBounds_toArray, List.set_cons_zero, List.set_cons_succ, i64_w, i32_w]
     rfl
    refine one_ (i := 5) (N := some 12) (Bt 8 127) rfl rfl (by kernel_rfl) (by decide) (fun K hK => ?_)
    refine goes_ Tryz.func54 (by kernel_rfl) rfl #[.agg #[.bool s9, .slice A9 k9 c9], .agg #[.bool s24, .slice A24 k24 c24]] (by rfl) rfl rfl (by (try simp only [List.map_toArray, List.map_cons, List.map_nil]); first | done | rfl) ?_
    with_reducible refine (ref_IMul.run s9 s24 _ _ _ _ _ _ n9 (pd y) (L1 + 2) (L4 + 2) _ H10.1.na H25.1.na (by have := HL.out; omega)).mono ?_
    rintro e w29 ⟨s29, A29, k29, c29, rfl, hr29, hz29, hu29, hb⟩
    refine ⟨_, rfl, ?_⟩
    have H30 := Aside0.mk hr29
    have Z29 := Aside0.mk (And.intro hz29 hu29)
    clear hr29 hz29 hu29
    replace H10 := As (H10.1.be hb)
    replace H20 := As (H20.1.be hb)
    replace H25 := As (H25.1.be hb)
    replace B2 := Bb B2 hb
    replace B3 := Bb B3 hb
    replace B5 := Bb B5 hb
    replace HB := Ob HB hb
    clear hb
    refine hK.out _ _ ⟨Cl0 B2, Cl1 B2, Cl2 B2, Cl0 B3, Cl1 B3, Cl2 B3⟩ (fun hHeld => ?_)
    clear hK K
    refine norm_ (a' := ?_) ?_ ?_
    rotate_left
    ·
     show Act.put _ (some 12) _ = _
     simp only [Nrm, Option.some.injEq, List.setIfInBounds_toArray, List.set_cons_zero, List.set_cons_succ, i64_w, i32_w]
     rfl
    refine last_ (i := 7) (N := none) (Bt 8 255) rfl rfl (by kernel_rfl) (by decide) (fun K hK => ?_)
    (try clear cb5_0)
    have cb5_0 := Cl0 B5
    (try clear fb5_0)
    have fb5_0 := Fz B5 0
    (try clear cb5_1)
    have cb5_1 := Cl1 B5
    (try clear fb5_1)
    have fb5_1 := Fz B5 1
    refine skip_ (w1 := ?_) (by rfl) rfl ?_ ?_
    rotate_left
    ·
     go_simp
     rfl
    generalize hw : ((w29.setCell ⟨g5, 0, none⟩ (.bool s29)).setCell ⟨g5, 1, none⟩ (.slice A29 k29 c29)) = w39
    replace hw := Eq.symm hw
    have ho : Only w29 w39 g5 := (by rw [hw]; exact Only.setg (Only.setg (Only.refl _ _) 0 _) 1 _)
    have hB2 : w39.heap[g5]? = some (.cells #[.bool s29, .slice A29 k29 c29] 32 (0, 0)) := (by rw [hw]; exact (blk_put (blk_put B5.out 0 _ rfl) 1 _ rfl))
    replace H10 := As (H10.1.o2 ho B5)
    replace H20 := As (H20.1.o2 ho B5)
    replace H25 := As (H25.1.o2 ho B5)
    replace H30 := As (H30.1.o2 ho B5)
    replace B2 := Oo B2 ho NE2_5
    replace B3 := Oo B3 ho NE3_5
    replace HB := Lo HB ho G5
    replace B5 := As hB2
    clear hw ho hB2
    refine hK.out _ _ ?_
    clear hK K
    refine done_ (by kernel_rfl) ?_
    rename World => w43
   rotate_left
  rotate_left 3
  focus
   refine box_step (by rfl) (N := 5) (by rfl) (cs := #[.bool false, .slice none 0 0]) (t := 32) ?hr ?_
   (case hr => first | (go_simp; done) | (go_simp; rfl))
   intro g5 hgx w34 hbx hb
   have B5 := As hbx
   have NE2_5 := Nn B2 hgx
   have NE3_5 := Nn B3 hgx
   have G5 := Gg HB hgx
   replace H10 := As (H10.1.be hb)
   replace B2 := Bb B2 hb
   replace B3 := Bb B3 hb
   replace HB := Ob HB hb
   clear hbx hb hgx
   refine hK.out _ _ ⟨Cl0 B2, Cl1 B2, Cl2 B2, Cl0 B3, Cl1 B3, Cl2 B3⟩ (fun hHeld => ?_)
   clear hK K
   refine norm_ (a' := ?_) ?_ ?_
   rotate_left
   ·
    show Act.put _ (some 5) _ = _
    simp only [Nrm, Option.some.injEq, List.setIfInBounds_toArray, List.set_cons_zero, List.set_cons_succ, i64_w, i32_w]
    rfl
   refine one_ (i := 3) (N := some 10) (Bt 8 79) rfl rfl (by kernel_rfl) (by decide) (fun K hK => ?_)
   refine goes_ Tryz.func56 (by kernel_rfl) rfl #[.agg #[.bool t, .slice D m e, .slice E p f]] (by rfl) rfl rfl (by (try simp only [List.map_toArray, List.map_cons, List.map_nil]); first | done | rfl) ?_
   with_reducible refine (ref_low.run t _ _ _ _ _ _ y L4 _ (H94.1.be HB.1) (by have := HL.out; omega)).mono ?_
   rintro e w19 ⟨A19, k19, c19, rfl, hr19, hb⟩
   refine ⟨_, rfl, ?_⟩
   have H20 := As hr19
   clear hr19
   replace H10 := As (H10.1.be hb)
   replace B2 := Bb B2 hb
   replace B3 := Bb B3 hb
   replace B5 := Bb B5 hb
   replace HB := Ob HB hb
   clear hb
   refine hK.out _ _ ⟨Cl0 B2, Cl1 B2, Cl2 B2, Cl0 B3, Cl1 B3, Cl2 B3⟩ (fun hHeld => ?_)
   clear hK K
   refine norm_ (a' := ?_) ?_ ?_
   rotate_left
   ·
    show Act.put _ (some 10) _ = _
    simp only [Nrm, Option.some.injEq, List.setIfInBounds_toArray, List.set_cons_zero, List.set_cons_succ, i64_w, i32_w]
    rfl
   refine one_ (i := 4) (N := some 11) (Bt 8 95) rfl rfl (by kernel_rfl) (by decide) (fun K hK => ?_)
   refine goes_ Tryz.func55 (by kernel_rfl) rfl #[.bool false, .slice A19 k19 c19] (by rfl) rfl rfl (by (try simp only [List.map_toArray, List.map_cons, List.map_nil]); first | done | rfl) ?_
   with_reducible refine (ref_IMake.run false _ _ _ (pd y) (L4 + 2) _ H20.1.na (by have := HL.out; omega)).mono ?_
   rintro e w24 ⟨s24, A24, k24, c24, rfl, hr24, hz24, hu24, hb⟩
   refine ⟨_, rfl, ?_⟩
   have H25 := Aside0.mk hr24
   have Z24 := Aside0.mk (And.intro hz24 hu24)
   clear hr24 hz24 hu24
   replace H10 := As (H10.1.be hb)
   replace H20 := As (H20.1.be hb)
   replace B2 := Bb B2 hb
   replace B3 := Bb B3 hb
   replace B5 := Bb B5 hb
   replace HB := Ob HB hb
   clear hb
   refine hK.out _ _ ⟨Cl0 B2, Cl1 B2, Cl2 B2, Cl0 B3, Cl1 B3, Cl2 B3⟩ (fun hHeld => ?_)
   clear hK K
   refine norm_ (a' := ?_) ?_ ?_
   rotate_left
   ·
    show Act.put _ (some 11) _ = _
    simp only [Nrm, Option.some.injEq, List.setIfInBounds_toArray, List.set_cons_zero, List.set_cons_succ, i64_w, i32_w]
    rfl
   refine one_ (i := 5) (N := some 12) (Bt 8 127) rfl rfl (by kernel_rfl) (by decide) (fun K hK => ?_)
   refine goes_ Tryz.func54 (by kernel_rfl) rfl #[.agg #[.bool s9, .slice A9 k9 c9], .agg #[.bool s24, .slice A24 k24 c24]] (by rfl) rfl rfl (by (try simp only [List.map_toArray, List.map_cons, List.map_nil]); first | done | rfl) ?_
   with_reducible refine (ref_IMul.run s9 s24 _ _ _ _ _ _ n9 (pd y) (L1 + 2) (L4 + 2) _ H10.1.na H25.1.na (by have := HL.out; omega)).mono ?_
   rintro e w29 ⟨s29, A29, k29, c29, rfl, hr29, hz29, hu29, hb⟩
   refine ⟨_, rfl, ?_⟩
   have H30 := Aside0.mk hr29
   have Z29 := Aside0.mk (And.intro hz29 hu29)
   clear hr29 hz29 hu29
   replace H10 := As (H10.1.be hb)
   replace H20 := As (H20.1.be hb)
   replace H25 := As (H25.1.be hb)
   replace B2 := Bb B2 hb
   replace B3 := Bb B3 hb
   replace B5 := Bb B5 hb
   replace HB := Ob HB hb
   clear hb
   refine hK.out _ _ ⟨Cl0 B2, Cl1 B2, Cl2 B2, Cl0 B3, Cl1 B3, Cl2 B3⟩ (fun hHeld => ?_)
   clear hK K
   refine norm_ (a' := ?_) ?_ ?_
   rotate_left
   ·
    show Act.put _ (some 12) _ = _
    simp only [Nrm, Option.some.injEq, List.setIfInBounds_toArray, List.set_cons_zero, List.set_cons_succ, i64_w, i32_w]
    rfl
   refine last_ (i := 7) (N := none) (Bt 8 255) rfl rfl (by kernel_rfl) (by decide) (fun K hK => ?_)
   (try clear cb5_0)
   have cb5_0 := Cl0 B5
   (try clear fb5_0)
   have fb5_0 := Fz B5 0
   (try clear cb5_1)
   have cb5_1 := Cl1 B5
   (try clear fb5_1)
   have fb5_1 := Fz B5 1
   refine skip_ (w1 := ?_) (by rfl) rfl ?_ ?_
   rotate_left
   ·
    go_simp
    rfl
   generalize hw : ((w29.setCell ⟨g5, 0, none⟩ (.bool s29)).setCell ⟨g5, 1, none⟩ (.slice A29 k29 c29)) = w39
   replace hw := Eq.symm hw
   have ho : Only w29 w39 g5 := (by rw [hw]; exact Only.setg (Only.setg (Only.refl _ _) 0 _) 1 _)
   have hB2 : w39.heap[g5]? = some (.cells #[.bool s29, .slice A29 k29 c29] 32 (0, 0)) := (by rw [hw]; exact (blk_put (blk_put B5.out 0 _ rfl) 1 _ rfl))
   replace H10 := As (H10.1.o2 ho B5)
   replace H20 := As (H20.1.o2 ho B5)
   replace H25 := As (H25.1.o2 ho B5)
   replace H30 := As (H30.1.o2 ho B5)
   replace B2 := Oo B2 ho NE2_5
   replace B3 := Oo B3 ho NE3_5
   replace HB := Lo HB ho G5
   replace B5 := As hB2
   clear hw ho hB2
   refine hK.out _ _ ?_
   clear hK K
   refine done_ (by kernel_rfl) ?_
   rename World => w43
  rotate_left
 rotate_left 4
 focus
  refine box_step (by rfl) (N := 5) (by rfl) (cs := #[.bool false, .slice none 0 0]) (t := 32) ?hr ?_
  (case hr => first | (go_simp; done) | (go_simp; rfl))
  intro g5 hgx w34 hbx hb
  have B5 := As hbx
  have NE2_5 := Nn B2 hgx
  have NE3_5 := Nn B3 hgx
  have G5 := Gg HB hgx
  replace B2 := Bb B2 hb
  replace B3 := Bb B3 hb
  replace HB := Ob HB hb
  clear hbx hb hgx
  refine hK.out _ _ ⟨Cl0 B2, Cl1 B2, Cl2 B2, Cl0 B3, Cl1 B3, Cl2 B3⟩ (fun hHeld => ?_)
  clear hK K
  refine norm_ (a' := ?_) ?_ ?_
  rotate_left
  ·
   show Act.put _ (some 5) _ = _
   simp only [Nrm, Option.some.injEq, List.setIfInBounds_toArray, List.set_cons_zero, List.set_cons_succ, i64_w, i32_w]
   rfl
  refine one_ (i := 1) (N := some 8) (Bt 8 71) rfl rfl (by kernel_rfl) (by decide) (fun K hK => ?_)
  refine goes_ Tryz.func51 (by kernel_rfl) rfl #[.agg #[.bool s, .slice A k c, .slice B l d]] (by rfl) rfl rfl (by (try simp only [List.map_toArray, List.map_cons, List.map_nil]); first | done | rfl) ?_
  with_reducible refine (ref_top.run s _ _ _ _ _ _ a b L1 L2 _ (H91.1.be HB.1) (H92.1.be HB.1) (by have := HL.out; omega)).mono ?_
  rintro e w9 ⟨s9, A9, k9, c9, n9, rfl, hr9, hz9, hb⟩
  refine ⟨_, rfl, ?_⟩
  have H10 := As hr9
  have T9 := As hz9
  clear hr9 hz9
  replace B2 := Bb B2 hb
  replace B3 := Bb B3 hb
  replace B5 := Bb B5 hb
  replace HB := Ob HB hb
  clear hb
  refine hK.out _ _ ⟨Cl0 B2, Cl1 B2, Cl2 B2, Cl0 B3, Cl1 B3, Cl2 B3⟩ (fun hHeld => ?_)
  clear hK K
  refine norm_ (a' := ?_) ?_ ?_
  rotate_left
  ·
   show Act.put _ (some 8) _ = _
   simp only [Nrm, Option.some.injEq, List.setIfInBounds_toArray, List.set_cons_zero, List.set_cons_succ, i64_w, i32_w]
   rfl
  refine one_ (i := 3) (N := some 10) (Bt 8 79) rfl rfl (by kernel_rfl) (by decide) (fun K hK => ?_)
  refine goes_ Tryz.func56 (by kernel_rfl) rfl #[.agg #[.bool t, .slice D m e, .slice E p f]] (by rfl) rfl rfl (by (try simp only [List.map_toArray, List.map_cons, List.map_nil]); first | done | rfl) ?_
  with_reducible refine (ref_low.run t _ _ _ _ _ _ y L4 _ (H94.1.be HB.1) (by have := HL.out; omega)).mono ?_
  rintro e w19 ⟨A19, k19, c19, rfl, hr19, hb⟩
  refine ⟨_, rfl, ?_⟩
  have H20 := As hr19
  clear hr19
  replace H10 := As (H10.1.be hb)
  replace B2 := Bb B2 hb
  replace B3 := Bb B3 hb
  replace B5 := Bb B5 hb
  replace HB := Ob HB hb
  clear hb
  refine hK.out _ _ ⟨Cl0 B2, Cl1 B2, Cl2 B2, Cl0 B3, Cl1 B3, Cl2 B3⟩ (fun hHeld => ?_)
  clear hK K
  refine norm_ (a' := ?_) ?_ ?_
  rotate_left
  ·
   show Act.put _ (some 10) _ = _
   simp only [Nrm, Option.some.injEq, List.setIfInBounds_toArray, List.set_cons_zero, List.set_cons_succ, i64_w, i32_w]
   rfl
  refine one_ (i := 4) (N := some 11) (Bt 8 95) rfl rfl (by kernel_rfl) (by decide) (fun K hK => ?_)
  refine goes_ Tryz.func55 (by kernel_rfl) rfl #[.bool false, .slice A19 k19 c19] (by rfl) rfl rfl (by (try simp only [List.map_toArray, List.map_cons, List.map_nil]); first | done | rfl) ?_
  with_reducible refine (ref_IMake.run false _ _ _ (pd y) (L4 + 2) _ H20.1.na (by have := HL.out; omega)).mono ?_
  rintro e w24 ⟨s24, A24, k24, c24, rfl, hr24, hz24, hu24, hb⟩
  refine ⟨_, rfl, ?_⟩
  have H25 := Aside0.mk hr24
  have Z24 := Aside0.mk (And.intro hz24 hu24)
  clear hr24 hz24 hu24
  replace H10 := As (H10.1.be hb)
  replace H20 := As (H20.1.be hb)
  replace B2 := Bb B2 hb
  replace B3 := Bb B3 hb
  replace B5 := Bb B5 hb
  replace HB := Ob HB hb
  clear hb
  refine hK.out _ _ ⟨Cl0 B2, Cl1 B2, Cl2 B2, Cl0 B3, Cl1 B3, Cl2 B3⟩ (fun hHeld => ?_)
  clear hK K
  refine norm_ (a' := ?_) ?_ ?_
  rotate_left
  ·
   show Act.put _ (some 11) _ = _
   simp only [Nrm, Option.some.injEq, List.setIfInBounds_toArray, List.set_cons_zero, List.set_cons_succ, i64_w, i32_w]
   rfl
  refine one_ (i := 5) (N := some 12) (Bt 8 127) rfl rfl (by kernel_rfl) (by decide) (fun K hK => ?_)
  refine goes_ Tryz.func54 (by kernel_rfl) rfl #[.agg #[.bool s9, .slice A9 k9 c9], .agg #[.bool s24, .slice A24 k24 c24]] (by rfl) rfl rfl (by (try simp only [List.map_toArray, List.map_cons, List.map_nil]); first | done | rfl) ?_
  with_reducible refine (ref_IMul.run s9 s24 _ _ _ _ _ _ n9 (pd y) (L1 + 2) (L4 + 2) _ H10.1.na H25.1.na (by have := HL.out; omega)).mono ?_
  rintro e w29 ⟨s29, A29, k29, c29, rfl, hr29, hz29, hu29, hb⟩
  refine ⟨_, rfl, ?_⟩
  have H30 := Aside0.mk hr29
  have Z29 := Aside0.mk (And.intro hz29 hu29)
  clear hr29 hz29 hu29
  replace H10 := As (H10.1.be hb)
  replace H20 := As (H20.1.be hb)
  replace H25 := As (H25.1.be hb)
  replace B2 := Bb B2 hb
  replace B3 := Bb B3 hb
  replace B5 := Bb B5 hb
  replace HB := Ob HB hb
  clear hb
  refine hK.out _ _ ⟨Cl0 B2, Cl1 B2, Cl2 B2, Cl0 B3, Cl1 B3, Cl2 B3⟩ (fun hHeld => ?_)
  clear hK K
  refine norm_ (a' := ?_) ?_ ?_
  rotate_left
  ·
   show Act.put _ (some 12) _ = _
   simp only [Nrm, Option.some.injEq, List.setIfInBounds_toArray, List.set_cons_zero, List.set_cons_succ, i64_w, i32_w]
   rfl
  refine last_ (i := 7) (N := none) (Bt 8 255) rfl rfl (by kernel_rfl) (by decide) (fun K hK => ?_)
  (try clear cb5_0)
  have cb5_0 := Cl0 B5
  (try clear fb5_0)
  have fb5_0 := Fz B5 0
  (try clear cb5_1)
  have cb5_1 := Cl1 B5
  (try clear fb5_1)
  have fb5_1 := Fz B5 1
  refine skip_ (w1 := ?_) (by rfl) rfl ?_ ?_
  rotate_left
  ·
   go_simp
   rfl
  generalize hw : ((w29.setCell ⟨g5, 0, none⟩ (.bool s29)).setCell ⟨g5, 1, none⟩ (.slice A29 k29 c29)) = w39
  replace hw := Eq.symm hw
  have ho : Only w29 w39 g5 := (by rw [hw]; exact Only.setg (Only.setg (Only.refl _ _) 0 _) 1 _)
  have hB2 : w39.heap[g5]? = some (.cells #[.bool s29, .slice A29 k29 c29] 32 (0, 0)) := (by rw [hw]; exact (blk_put (blk_put B5.out 0 _ rfl) 1 _ rfl))
  replace H10 := As (H10.1.o2 ho B5)
  replace H20 := As (H20.1.o2 ho B5)
  replace H25 := As (H25.1.o2 ho B5)
  replace H30 := As (H30.1.o2 ho B5)
  replace B2 := Oo B2 ho NE2_5
  replace B3 := Oo B3 ho NE3_5
  replace HB := Lo HB ho G5
  replace B5 := As hB2
  clear hw ho hB2
  refine hK.out _ _ ?_
  clear hK K
  refine done_ (by kernel_rfl) ?_
  rename World => w43
 rotate_left
 all_goals
  go_wp2
  replace H10 := As (H10.1.drew)
  replace H20 := As (H20.1.drew)
  replace H25 := As (H25.1.drew)
  replace H30 := As (H30.1.drew)
  replace B2 := Bd B2
  replace B3 := Bd B3
  replace B5 := Bd B5
  replace HB := Od HB
  refine start_ (n := 8) (S := fun w' => w'.cell? ⟨g3, 0, none⟩ = some (.bool t) ∧ w'.cell? ⟨g3, 1, none⟩ = some (.slice D m e) ∧ w'.cell? ⟨g3, 2, none⟩ = some (.slice E p f) ∧ w'.cell? ⟨g2, 0, none⟩ = some (.bool s) ∧ w'.cell? ⟨g2, 1, none⟩ = some (.slice A k c) ∧ w'.cell? ⟨g2, 2, none⟩ = some (.slice B l d)) (ds := [7]) (Bt 8 0) (by kernel_rfl) rfl (by kernel_rfl) ⟨Cl0 B3, Cl1 B3, Cl2 B3, Cl0 B2, Cl1 B2, Cl2 B2⟩ (fun hHeld => ?_)
  generalize w43.drew = w45 at hHeld H10 H20 H25 H30 B2 B3 B5 HB ⊢
  refine take_ (i := 0) (N := some 13) (v := ?_) (a' := ?_) (Bt 8 1) rfl rfl (by kernel_rfl) (fun _ _ _ h => h) (Or.inl ⟨by rfl, ?_⟩) hHeld ?_ ?_
  rotate_left
  ·
   rintro w' ⟨s0, s1, s2, s3, s4, s5⟩
   go_simp
   with_reducible rfl
  rotate_left
  ·
   simp only [Nrm, Option.some.injEq, List.setIfInBounds_toArray, List.set_cons_zero, List.set_cons_succ, i64_w, i32_w]
   rfl
  refine take_ (i := 2) (N := some 15) (v := ?_) (a' := ?_) (Bt 8 5) rfl rfl (by kernel_rfl) (fun _ _ _ h => h) (Or.inl ⟨by rfl, ?_⟩) hHeld ?_ ?_
  rotate_left
  ·
   rintro w' ⟨s0, s1, s2, s3, s4, s5⟩
   go_simp
   with_reducible rfl
  rotate_left
  ·
   simp only [Nrm, Option.some.injEq, List.setIfInBounds_toArray, List.set_cons_zero, List.set_cons_succ, i64_w, i32_w]
   rfl
  refine two_ (i := 1) (j := 6) (Ni := some 14) (Nj := some 6) (Bt 8 7) (Bt 8 69) rfl rfl rfl rfl (by kernel_rfl) (by decide) (by decide) (fun K hK => ?_) (fun K hK => ?_)
  focus
   refine goes_ Tryz.func51 (by kernel_rfl) rfl #[.agg #[.bool t, .slice D m e, .slice E p f]] (by rfl) rfl rfl (by (try simp only [List.map_toArray, List.map_cons, List.map_nil]); first | done | rfl) ?_
   with_reducible refine (ref_top.run t _ _ _ _ _ _ x y L3 L4 _ (H93.1.be HB.1) (H94.1.be HB.1) (by have := HL.out; omega)).mono ?_
   rintro e w106 ⟨s106, A106, k106, c106, n106, rfl, hr106, hz106, hb⟩
   refine ⟨_, rfl, ?_⟩
   have H107 := As hr106
   have T106 := As hz106
   clear hr106 hz106
   replace H10 := As (H10.1.be hb)
   replace H20 := As (H20.1.be hb)
   replace H25 := As (H25.1.be hb)
   replace H30 := As (H30.1.be hb)
   replace B2 := Bb B2 hb
   replace B3 := Bb B3 hb
   replace B5 := Bb B5 hb
   replace HB := Ob HB hb
   clear hb
   refine hK.out _ _ ⟨Cl0 B3, Cl1 B3, Cl2 B3, Cl0 B2, Cl1 B2, Cl2 B2⟩ (fun hHeld => ?_)
   clear hK K
   refine norm_ (a' := ?_) ?_ ?_
   rotate_left
   ·
    show Act.put _ (some 14) _ = _
    simp only [Nrm, Option.some.injEq, List.setIfInBounds_toArray, List.set_cons_zero, List.set_cons_succ, i64_w, i32_w]
    rfl
   refine two_ (i := 3) (j := 6) (Ni := some 16) (Nj := some 6) (Bt 8 15) (Bt 8 71) rfl rfl rfl rfl (by kernel_rfl) (by decide) (by decide) (fun K hK => ?_) (fun K hK => ?_)
   focus
    refine goes_ Tryz.func56 (by kernel_rfl) rfl #[.agg #[.bool s, .slice A k c, .slice B l d]] (by rfl) rfl rfl (by (try simp only [List.map_toArray, List.map_cons, List.map_nil]); first | done | rfl) ?_
    with_reducible refine (ref_low.run s _ _ _ _ _ _ b L2 _ (H92.1.be HB.1) (by have := HL.out; omega)).mono ?_
    rintro e w116 ⟨A116, k116, c116, rfl, hr116, hb⟩
    refine ⟨_, rfl, ?_⟩
    have H117 := As hr116
    clear hr116
    replace H10 := As (H10.1.be hb)
    replace H20 := As (H20.1.be hb)
    replace H25 := As (H25.1.be hb)
    replace H30 := As (H30.1.be hb)
    replace H107 := As (H107.1.be hb)
    replace B2 := Bb B2 hb
    replace B3 := Bb B3 hb
    replace B5 := Bb B5 hb
    replace HB := Ob HB hb
    clear hb
    refine hK.out _ _ ⟨Cl0 B3, Cl1 B3, Cl2 B3, Cl0 B2, Cl1 B2, Cl2 B2⟩ (fun hHeld => ?_)
    clear hK K
    refine norm_ (a' := ?_) ?_ ?_
    rotate_left
    ·
     show Act.put _ (some 16) _ = _
     simp only [Nrm, Option.some.injEq, List.setIfInBounds_toArray, List.set_cons_zero, List.set_cons_succ, i64_w, i32_w]
     rfl
    refine two_ (i := 4) (j := 6) (Ni := some 17) (Nj := some 6) (Bt 8 31) (Bt 8 79) rfl rfl rfl rfl (by kernel_rfl) (by decide) (by decide) (fun K hK => ?_) (fun K hK => ?_)
    focus
     refine goes_ Tryz.func55 (by kernel_rfl) rfl #[.bool false, .slice A116 k116 c116] (by rfl) rfl rfl (by (try simp only [List.map_toArray, List.map_cons, List.map_nil]); first | done | rfl) ?_
     with_reducible refine (ref_IMake.run false _ _ _ (pd b) (L2 + 2) _ H117.1.na (by have := HL.out; omega)).mono ?_
     rintro e w121 ⟨s121, A121, k121, c121, rfl, hr121, hz121, hu121, hb⟩
     refine ⟨_, rfl, ?_⟩
     have H122 := Aside0.mk hr121
     have Z121 := Aside0.mk (And.intro hz121 hu121)
     clear hr121 hz121 hu121
     replace H10 := As (H10.1.be hb)
     replace H20 := As (H20.1.be hb)
     replace H25 := As (H25.1.be hb)
     replace H30 := As (H30.1.be hb)
     replace H107 := As (H107.1.be hb)
     replace H117 := As (H117.1.be hb)
     replace B2 := Bb B2 hb
     replace B3 := Bb B3 hb
     replace B5 := Bb B5 hb
     replace HB := Ob HB hb
     clear hb
     refine hK.out _ _ ⟨Cl0 B3, Cl1 B3, Cl2 B3, Cl0 B2, Cl1 B2, Cl2 B2⟩ (fun hHeld => ?_)
     clear hK K
     refine norm_ (a' := ?_) ?_ ?_
     rotate_left
     ·
      show Act.put _ (some 17) _ = _
      simp only [Nrm, Option.some.injEq, List.setIfInBounds_toArray, List.set_cons_zero, List.set_cons_succ, i64_w, i32_w]
      rfl
     refine two_ (i := 5) (j := 6) (Ni := some 18) (Nj := some 6) (Bt 8 63) (Bt 8 95) rfl rfl rfl rfl (by kernel_rfl) (by decide) (by decide) (fun K hK => ?_) (fun K hK => ?_)
     focus
      refine goes_ Tryz.func54 (by kernel_rfl) rfl #[.agg #[.bool s106, .slice A106 k106 c106], .agg #[.bool s121, .slice A121 k121 c121]] (by rfl) rfl rfl (by (try simp only [List.map_toArray, List.map_cons, List.map_nil]); first | done | rfl) ?_
      with_reducible refine (ref_IMul.run s106 s121 _ _ _ _ _ _ n106 (pd b) (L3 + 2) (L2 + 2) _ H107.1.na H122.1.na (by have := HL.out; omega)).mono ?_
      rintro e w126 ⟨s126, A126, k126, c126, rfl, hr126, hz126, hu126, hb⟩
      refine ⟨_, rfl, ?_⟩
      have H127 := Aside0.mk hr126
      have Z126 := Aside0.mk (And.intro hz126 hu126)
      clear hr126 hz126 hu126
      replace H10 := As (H10.1.be hb)
      replace H20 := As (H20.1.be hb)
      replace H25 := As (H25.1.be hb)
      replace H30 := As (H30.1.be hb)
      replace H107 := As (H107.1.be hb)
      replace H117 := As (H117.1.be hb)
      replace H122 := As (H122.1.be hb)
      replace B2 := Bb B2 hb
      replace B3 := Bb B3 hb
      replace B5 := Bb B5 hb
      replace HB := Ob HB hb
      clear hb
      refine hK.out _ _ ⟨Cl0 B3, Cl1 B3, Cl2 B3, Cl0 B2, Cl1 B2, Cl2 B2⟩ (fun hHeld => ?_)
      clear hK K
      refine norm_ (a' := ?_) ?_ ?_
      rotate_left
      ·
       show Act.put _ (some 18) _ = _
       simp only [Nrm, Option.some.injEq, List.setIfInBounds_toArray, List.set_cons_zero, List.set_cons_succ, i64_w, i32_w]
       rfl
      refine one_ (i := 6) (N := some 6) (Bt 8 127) rfl rfl (by kernel_rfl) (by decide) (fun K hK => ?_)
      refine box_step (by rfl) (N := 6) (by rfl) (cs := #[.bool false, .slice none 0 0]) (t := 32) ?hr ?_
      (case hr => first | (go_simp; done) | (go_simp; rfl))
      intro g6 hgx w131 hbx hb
      have B6 := As hbx
      have NE2_6 := Nn B2 hgx
      have NE3_6 := Nn B3 hgx
      have NE5_6 := Nn B5 hgx
      have G6 := Gg HB hgx
      replace H10 := As (H10.1.be hb)
      replace H20 := As (H20.1.be hb)
      replace H25 := As (H25.1.be hb)
      replace H30 := As (H30.1.be hb)
      replace H107 := As (H107.1.be hb)
      replace H117 := As (H117.1.be hb)
      replace H122 := As (H122.1.be hb)
      replace H127 := As (H127.1.be hb)
      replace B2 := Bb B2 hb
      replace B3 := Bb B3 hb
      replace B5 := Bb B5 hb
      replace HB := Ob HB hb
      clear hbx hb hgx
      refine hK.out _ _ ⟨Cl0 B3, Cl1 B3, Cl2 B3, Cl0 B2, Cl1 B2, Cl2 B2⟩ (fun hHeld => ?_)
      clear hK K
      refine norm_ (a' := ?_) ?_ ?_
      rotate_left
      ·
       show Act.put _ (some 6) _ = _
       simp only [Nrm, Option.some.injEq, List.setIfInBounds_toArray, List.set_cons_zero, List.set_cons_succ, i64_w, i32_w]
       rfl
      refine last_ (i := 7) (N := none) (Bt 8 255) rfl rfl (by kernel_rfl) (by decide) (fun K hK => ?_)
      (try clear cb6_0)
      have cb6_0 := Cl0 B6
      (try clear fb6_0)
      have fb6_0 := Fz B6 0
      (try clear cb6_1)
      have cb6_1 := Cl1 B6
      (try clear fb6_1)
      have fb6_1 := Fz B6 1
      refine skip_ (w1 := ?_) (by rfl) rfl ?_ ?_
      rotate_left
      ·
       go_simp
       rfl
      generalize hw : ((w131.setCell ⟨g6, 0, none⟩ (.bool s126)).setCell ⟨g6, 1, none⟩ (.slice A126 k126 c126)) = w136
      replace hw := Eq.symm hw
      have ho : Only w131 w136 g6 := (by rw [hw]; exact Only.setg (Only.setg (Only.refl _ _) 0 _) 1 _)
      have hB2 : w136.heap[g6]? = some (.cells #[.bool s126, .slice A126 k126 c126] 32 (0, 0)) := (by rw [hw]; exact (blk_put (blk_put B6.out 0 _ rfl) 1 _ rfl))
      replace H10 := As (H10.1.o2 ho B6)
      replace H20 := As (H20.1.o2 ho B6)
      replace H25 := As (H25.1.o2 ho B6)
      replace H30 := As (H30.1.o2 ho B6)
      replace H107 := As (H107.1.o2 ho B6)
      replace H117 := As (H117.1.o2 ho B6)
      replace H122 := As (H122.1.o2 ho B6)
      replace H127 := As (H127.1.o2 ho B6)
      replace B2 := Oo B2 ho NE2_6
      replace B3 := Oo B3 ho NE3_6
      replace B5 := Oo B5 ho NE5_6
      replace HB := Lo HB ho G6
      replace B6 := As hB2
      clear hw ho hB2
      refine hK.out _ _ ?_
      clear hK K
      refine done_ (by kernel_rfl) ?_
      rename World => w140
     rotate_left
     focus
      refine box_step (by rfl) (N := 6) (by rfl) (cs := #[.bool false, .slice none 0 0]) (t := 32) ?hr ?_
      (case hr => first | (go_simp; done) | (go_simp; rfl))
      intro g6 hgx w131 hbx hb
      have B6 := As hbx
      have NE2_6 := Nn B2 hgx
      have NE3_6 := Nn B3 hgx
      have NE5_6 := Nn B5 hgx
      have G6 := Gg HB hgx
      replace H10 := As (H10.1.be hb)
      replace H20 := As (H20.1.be hb)
      replace H25 := As (H25.1.be hb)
      replace H30 := As (H30.1.be hb)
      replace H107 := As (H107.1.be hb)
      replace H117 := As (H117.1.be hb)
      replace H122 := As (H122.1.be hb)
      replace B2 := Bb B2 hb
      replace B3 := Bb B3 hb
      replace B5 := Bb B5 hb
      replace HB := Ob HB hb
      clear hbx hb hgx
      refine hK.out _ _ ⟨Cl0 B3, Cl1 B3, Cl2 B3, Cl0 B2, Cl1 B2, Cl2 B2⟩ (fun hHeld => ?_)
      clear hK K
      refine norm_ (a' := ?_) ?_ ?_
      rotate_left
      ·
       show Act.put _ (some 6) _ = _
       simp only [Nrm, Option.some.injEq, List.setIfInBounds_toArray, List.set_cons_zero, List.set_cons_succ, i64_w, i32_w]
       rfl
      refine one_ (i := 5) (N := some 18) (Bt 8 127) rfl rfl (by kernel_rfl) (by decide) (fun K hK => ?_)
      refine goes_ Tryz.func54 (by kernel_rfl) rfl #[.agg #[.bool s106, .slice A106 k106 c106], .agg #[.bool s121, .slice A121 k121 c121]] (by rfl) rfl rfl (by (try simp only [List.map_toArray, List.map_cons, List.map_nil]); first | done | rfl) ?_
      with_reducible refine (ref_IMul.run s106 s121 _ _ _ _ _ _ n106 (pd b) (L3 + 2) (L2 + 2) _ H107.1.na H122.1.na (by have := HL.out; omega)).mono ?_
      rintro e w126 ⟨s126, A126, k126, c126, rfl, hr126, hz126, hu126, hb⟩
      refine ⟨_, rfl, ?_⟩
      have H127 := Aside0.mk hr126
      have Z126 := Aside0.mk (And.intro hz126 hu126)
      clear hr126 hz126 hu126
      replace H10 := As (H10.1.be hb)
      replace H20 := As (H20.1.be hb)
      replace H25 := As (H25.1.be hb)
      replace H30 := As (H30.1.be hb)
      replace H107 := As (H107.1.be hb)
      replace H117 := As (H117.1.be hb)
      replace H122 := As (H122.1.be hb)
      replace B2 := Bb B2 hb
      replace B3 := Bb B3 hb
      replace B5 := Bb B5 hb
      replace B6 := Bb B6 hb
      replace HB := Ob HB hb
      clear hb
      refine hK.out _ _ ⟨Cl0 B3, Cl1 B3, Cl2 B3, Cl0 B2, Cl1 B2, Cl2 B2⟩ (fun hHeld => ?_)
      clear hK K
      refine norm_ (a' := ?_) ?_ ?_
      rotate_left
      ·
       show Act.put _ (some 18) _ = _
       simp only [Nrm, Option.some.injEq, List.setIfInBounds_toArray, List.set_cons_zero, List.set_cons_succ, i64_w, i32_w]
       rfl
      refine last_ (i := 7) (N := none) (Bt 8 255) rfl rfl (by kernel_rfl) (by decide) (fun K hK => ?_)
      (try clear cb6_0)
      have cb6_0 := Cl0 B6
      (try clear fb6_0)
      have fb6_0 := Fz B6 0
      (try clear cb6_1)
      have cb6_1 := Cl1 B6
      (try clear fb6_1)
      have fb6_1 := Fz B6 1
      refine skip_ (w1 := ?_) (by rfl) rfl ?_ ?_
      rotate_left
      ·
       go_simp
       rfl
      generalize hw : ((w126.setCell ⟨g6, 0, none⟩ (.bool s126)).setCell ⟨g6, 1, none⟩ (.slice A126 k126 c126)) = w136
      replace hw := Eq.symm hw
      have ho : Only w126 w136 g6 := (by rw [hw]; exact Only.setg (Only.setg (Only.refl _ _) 0 _) 1 _)
      have hB2 : w136.heap[g6]? = some (.cells #[.bool s126, .slice A126 k126 c126] 32 (0, 0)) := (by rw [hw]; exact (blk_put (blk_put B6.out 0 _ rfl) 1 _ rfl))
      replace H10 := As (H10.1.o2 ho B6)
      replace H20 := As (H20.1.o2 ho B6)
      replace H25 := As (H25.1.o2 ho B6)
      replace H30 := As (H30.1.o2 ho B6)
      replace H107 := As (H107.1.o2 ho B6)
      replace H117 := As (H117.1.o2 ho B6)
      replace H122 := As (H122.1.o2 ho B6)
      replace H127 := As (H127.1.o2 ho B6)
      replace B2 := Oo B2 ho NE2_6
      replace B3 := Oo B3 ho NE3_6
      replace B5 := Oo B5 ho NE5_6
      replace HB := Lo HB ho G6
      replace B6 := As hB2
      clear hw ho hB2
      refine hK.out _ _ ?_
      clear hK K
      refine done_ (by kernel_rfl) ?_
      rename World => w140
     rotate_left
    rotate_left 2
    focus
     refine box_step (by rfl) (N := 6) (by rfl) (cs := #[.bool false, .slice none 0 0]) (t := 32) ?hr ?_
     (case hr => first | (go_simp; done) | (go_simp; rfl))
     intro g6 hgx w131 hbx hb
     have B6 := As hbx
     have NE2_6 := Nn B2 hgx
     have NE3_6 := Nn B3 hgx
     have NE5_6 := Nn B5 hgx
     have G6 := Gg HB hgx
     replace H10 := As (H10.1.be hb)
     replace H20 := As (H20.1.be hb)
     replace H25 := As (H25.1.be hb)
     replace H30 := As (H30.1.be hb)
     replace H107 := As (H107.1.be hb)
     replace H117 := As (H117.1.be hb)
     replace B2 := Bb B2 hb
     replace B3 := Bb B3 hb
     replace B5 := Bb B5 hb
     replace HB := Ob HB hb
     clear hbx hb hgx
     refine hK.out _ _ ⟨Cl0 B3, Cl1 B3, Cl2 B3, Cl0 B2, Cl1 B2, Cl2 B2⟩ (fun hHeld => ?_)
     clear hK K
     refine norm_ (a' := ?_) ?_ ?_
     rotate_left
     ·
      show Act.put _ (some 6) _ = _
      simp only [Nrm, Option.some.injEq, List.setIfInBounds_toArray, List.set_cons_zero, List.set_cons_succ, i64_w, i32_w]
      rfl
     refine one_ (i := 4) (N := some 17) (Bt 8 95) rfl rfl (by kernel_rfl) (by decide) (fun K hK => ?_)
     refine goes_ Tryz.func55 (by kernel_rfl) rfl #[.bool false, .slice A116 k116 c116] (by rfl) rfl rfl (by (try simp only [List.map_toArray, List.map_cons, List.map_nil]); first | done | rfl) ?_
     with_reducible refine (ref_IMake.run false _ _ _ (pd b) (L2 + 2) _ H117.1.na (by have := HL.out; omega)).mono ?_
     rintro e w121 ⟨s121, A121, k121, c121, rfl, hr121, hz121, hu121, hb⟩
     refine ⟨_, rfl, ?_⟩
     have H122 := Aside0.mk hr121
     have Z121 := Aside0.mk (And.intro hz121 hu121)
     clear hr121 hz121 hu121
     replace H10 := As (H10.1.be hb)
     replace H20 := As (H20.1.be hb)
     replace H25 := As (H25.1.be hb)
     replace H30 := As (H30.1.be hb)
     replace H107 := As (H107.1.be hb)
     replace H117 := As (H117.1.be hb)
     replace B2 := Bb B2 hb
     replace B3 := Bb B3 hb
     replace B5 := Bb B5 hb
     replace B6 := Bb B6 hb
     replace HB := Ob HB hb
     clear hb
     refine hK.out _ _ ⟨Cl0 B3, Cl1 B3, Cl2 B3, Cl0 B2, Cl1 B2, Cl2 B2⟩ (fun hHeld => ?_)
     clear hK K
     refine norm_ (a' := ?_) ?_ ?_
     rotate_left
     ·
      show Act.put _ (some 17) _ = _
      simp only [Nrm, Option.some.injEq, List.setIfInBounds_toArray, List.set_cons_zero, List.set_cons_succ, i64_w, i32_w]
      rfl
     refine one_ (i := 5) (N := some 18) (Bt 8 127) rfl rfl (by kernel_rfl) (by decide) (fun K hK => ?_)
     refine goes_ Tryz.func54 (by kernel_rfl) rfl #[.agg #[.bool s106, .slice A106 k106 c106], .agg #[.bool s121, .slice A121 k121 c121]] (by rfl) rfl rfl (by (try simp only [List.map_toArray, List.map_cons, List.map_nil]); first | done | rfl) ?_
     with_reducible refine (ref_IMul.run s106 s121 _ _ _ _ _ _ n106 (pd b) (L3 + 2) (L2 + 2) _ H107.1.na H122.1.na (by have := HL.out; omega)).mono ?_
     rintro e w126 ⟨s126, A126, k126, c126, rfl, hr126, hz126, hu126, hb⟩
     refine ⟨_, rfl, ?_⟩
     have H127 := Aside0.mk hr126
     have Z126 := Aside0.mk (And.intro hz126 hu126)
     clear hr126 hz126 hu126
     replace H10 := As (H10.1.be hb)
     replace H20 := As (H20.1.be hb)
     replace H25 := As (H25.1.be hb)
     replace H30 := As (H30.1.be hb)
     replace H107 := As (H107.1.be hb)
     replace H117 := As (H117.1.be hb)
     replace H122 := As (H122.1.be hb)
     replace B2 := Bb B2 hb
     replace B3 := Bb B3 hb
     replace B5 := Bb B5 hb
     replace B6 := Bb B6 hb
     replace HB := Ob HB hb
     clear hb
     refine hK.out _ _ ⟨Cl0 B3, Cl1 B3, Cl2 B3, Cl0 B2, Cl1 B2, Cl2 B2⟩ (fun hHeld => ?_)
     clear hK K
     refine norm_ (a' := ?_) ?_ ?_
     rotate_left
     ·
      show Act.put _ (some 18) _ = _
      simp only [Nrm, Option.some.injEq, List.setIfInBounds_toArray, List.set_cons_zero, List.set_cons_succ, i64_w, i32_w]
      rfl
     refine last_ (i := 7) (N := none) (Bt 8 255) rfl rfl (by kernel_rfl) (by decide) (fun K hK => ?_)
     (try clear cb6_0)
     have cb6_0 := Cl0 B6
     (try clear fb6_0)
     have fb6_0 := Fz B6 0
     (try clear cb6_1)
     have cb6_1 := Cl1 B6
     (try clear fb6_1)
     have fb6_1 := Fz B6 1
     refine skip_ (w1 := ?_) (by rfl) rfl ?_ ?_
     rotate_left
     ·
      go_simp
      rfl
     generalize hw : ((w126.setCell ⟨g6, 0, none⟩ (.bool s126)).setCell ⟨g6, 1, none⟩ (.slice A126 k126 c126)) = w136
     replace hw := Eq.symm hw
     have ho : Only w126 w136 g6 := (by rw [hw]; exact Only.setg (Only.setg (Only.refl _ _) 0 _) 1 _)
     have hB2 : w136.heap[g6]? = some (.cells #[.bool s126, .slice A126 k126 c126] 32 (0, 0)) := (by rw [hw]; exact (blk_put (blk_put B6.out 0 _ rfl) 1 _ rfl))
     replace H10 := As (H10.1.o2 ho B6)
     replace H20 := As (H20.1.o2 ho B6)
     replace H25 := As (H25.1.o2 ho B6)
     replace H30 := As (H30.1.o2 ho B6)
     replace H107 := As (H107.1.o2 ho B6)
     replace H117 := As (H117.1.o2 ho B6)
     replace H122 := As (H122.1.o2 ho B6)
     replace H127 := As (H127.1.o2 ho B6)
     replace B2 := Oo B2 ho NE2_6
     replace B3 := Oo B3 ho NE3_6
     replace B5 := Oo B5 ho NE5_6
     replace HB := Lo HB ho G6
     replace B6 := As hB2
     clear hw ho hB2
     refine hK.out _ _ ?_
     clear hK K
     refine done_ (by kernel_rfl) ?_
     rename World => w140
    rotate_left
   rotate_left 3
   focus
    refine box_step (by rfl) (N := 6) (by rfl) (cs := #[.bool false, .slice none 0 0]) (t := 32) ?hr ?_
    (case hr => first | (go_simp; done) | (go_simp; rfl))
    intro g6 hgx w131 hbx hb
    have B6 := As hbx
    have NE2_6 := Nn B2 hgx
    have NE3_6 := Nn B3 hgx
    have NE5_6 := Nn B5 hgx
    have G6 := Gg HB hgx
    replace H10 := As (H10.1.be hb)
    replace H20 := As (H20.1.be hb)
    replace H25 := As (H25.1.be hb)
    replace H30 := As (H30.1.be hb)
    replace H107 := As (H107.1.be hb)
    replace B2 := Bb B2 hb
    replace B3 := Bb B3 hb
    replace B5 := Bb B5 hb
    replace HB := Ob HB hb
    clear hbx hb hgx
    refine hK.out _ _ ⟨Cl0 B3, Cl1 B3, Cl2 B3, Cl0 B2, Cl1 B2, Cl2 B2⟩ (fun hHeld => ?_)
    clear hK K
    refine norm_ (a' := ?_) ?_ ?_
    rotate_left
    ·
     show Act.put _ (some 6) _ = _
     simp only [Nrm, Option.some.injEq, List.setIfInBounds_toArray, List.set_cons_zero, List.set_cons_succ, i64_w, i32_w]
     rfl
    refine one_ (i := 3) (N := some 16) (Bt 8 79) rfl rfl (by kernel_rfl) (by decide) (fun K hK => ?_)
    refine goes_ Tryz.func56 (by kernel_rfl) rfl #[.agg #[.bool s, .slice A k c, .slice B l d]] (by rfl) rfl rfl (by (try simp only [List.map_toArray, List.map_cons, List.map_nil]); first | done | rfl) ?_
    with_reducible refine (ref_low.run s _ _ _ _ _ _ b L2 _ (H92.1.be HB.1) (by have := HL.out; omega)).mono ?_
    rintro e w116 ⟨A116, k116, c116, rfl, hr116, hb⟩
    refine ⟨_, rfl, ?_⟩
    have H117 := As hr116
    clear hr116
    replace H10 := As (H10.1.be hb)
    replace H20 := As (H20.1.be hb)
    replace H25 := As (H25.1.be hb)
    replace H30 := As (H30.1.be hb)
    replace H107 := As (H107.1.be hb)
    replace B2 := Bb B2 hb
    replace B3 := Bb B3 hb
    replace B5 := Bb B5 hb
    replace B6 := Bb B6 hb
    replace HB := Ob HB hb
    clear hb
    refine hK.out _ _ ⟨Cl0 B3, Cl1 B3, Cl2 B3, Cl0 B2, Cl1 B2, Cl2 B2⟩ (fun hHeld => ?_)
    clear hK K
    refine norm_ (a' := ?_) ?_ ?_
    rotate_left
    ·
     show Act.put _ (some 16) _ = _
     simp only [Nrm, Option.some.injEq, List.setIfInBounds_toArray, List.set_cons_zero, List.set_cons_succ, i64_w, i32_w]
     rfl
    refine one_ (i := 4) (N := some 17) (Bt 8 95) rfl rfl (by kernel_rfl) (by decide) (fun K hK => ?_)
    refine goes_ Tryz.func55 (by kernel_rfl) rfl #[.bool false, .slice A116 k116 c116] (by rfl) rfl rfl (by (try simp only [List.map_toArray, List.map_cons, List.map_nil]); first | done | rfl) ?_
    with_reducible refine (ref_IMake.run false _ _ _ (pd b) (L2 + 2) _ H117.1.na (by have := HL.out; omega)).mono ?_
    rintro e w121 ⟨s121, A121, k121, c121, rfl, hr121, hz121, hu121, hb⟩
    refine ⟨_, rfl, ?_⟩
    have H122 := Aside0.mk hr121
    have Z121 := Aside0.mk (And.intro hz121 hu121)
    clear hr121 hz121 hu121
    replace H10 := As (H10.1.be hb)
    replace H20 := As (H20.1.be hb)
    replace H25 := As (H25.1.be hb)
    replace H30 := As (H30.1.be hb)
    replace H107 := As (H107.1.be hb)
    replace H117 := As (H117.1.be hb)
    replace B2 := Bb B2 hb
    replace B3 := Bb B3 hb
    replace B5 := Bb B5 hb
    replace B6 := Bb B6 hb
    replace HB := Ob HB hb
    clear hb
    refine hK.out _ _ ⟨Cl0 B3, Cl1 B3, Cl2 B3, Cl0 B2, Cl1 B2, Cl2 B2⟩ (fun hHeld => ?_)
    clear hK K
    refine norm_ (a' := ?_) ?_ ?_
    rotate_left
    ·
     show Act.put _ (some 17) _ = _
     simp only [Nrm, Option.some.injEq, List.setIfInBounds_toArray, List.set_cons_zero, List.set_cons_succ, i64_w, i32_w]
     rfl
    refine one_ (i := 5) (N := some 18) (Bt 8 127) rfl rfl (by kernel_rfl) (by decide) (fun K hK => ?_)
    refine goes_ Tryz.func54 (by kernel_rfl) rfl #[.agg #[.bool s106, .slice A106 k106 c106], .agg #[.bool s121, .slice A121 k121 c121]] (by rfl) rfl rfl (by (try simp only [List.map_toArray, List.map_cons, List.map_nil]); first | done | rfl) ?_
    with_reducible refine (ref_IMul.run s106 s121 _ _ _ _ _ _ n106 (pd b) (L3 + 2) (L2 + 2) _ H107.1.na H122.1.na (by have := HL.out; omega)).mono ?_
    rintro e w126 ⟨s126, A126, k126, c126, rfl, hr126, hz126, hu126, hb⟩
    refine ⟨_, rfl, ?_⟩
    have H127 := Aside0.mk hr126
    have Z126 := Aside0.mk (And.intro hz126 hu126)
    clear hr126 hz126 hu126
    replace H10 := As (H10.1.be hb)
    replace H20 := As (H20.1.be hb)
    replace H25 := As (H25.1.be hb)
    replace H30 := As (H30.1.be hb)
    replace H107 := As (H107.1.be hb)
    replace H117 := As (H117.1.be hb)
    replace H122 := As (H122.1.be hb)
    replace B2 := Bb B2 hb
    replace B3 := Bb B3 hb
    replace B5 := Bb B5 hb
    replace B6 := Bb B6 hb
    replace HB := Ob HB hb
    clear hb
    refine hK.out _ _ ⟨Cl0 B3, Cl1 B3, Cl2 B3, Cl0 B2, Cl1 B2, Cl2 B2⟩ (fun hHeld => ?_)
    clear hK K
    refine norm_ (a' := ?_) ?_ ?_
    rotate_left
    ·
     show Act.put _ (some 18) _ = _
     simp only [Nrm, Option.some.injEq, List.setIfInBounds_toArray, List.set_cons_zero, List.set_cons_succ, i64_w, i32_w]
     rfl
    refine last_ (i := 7) (N := none) (Bt 8 255) rfl rfl (by kernel_rfl) (by decide) (fun K hK => ?_)
    (try clear cb6_0)
    have cb6_0 := Cl0 B6
    (try clear fb6_0)
    have fb6_0 := Fz B6 0
    (try clear cb6_1)
    have cb6_1 := Cl1 B6
    (try clear fb6_1)
    have fb6_1 := Fz B6 1
    refine skip_ (w1 := ?_) (by rfl) rfl ?_ ?_
    rotate_left
    ·
     go_simp
     rfl
    generalize hw : ((w126.setCell ⟨g6, 0, none⟩ (.bool s126)).setCell ⟨g6, 1, none⟩ (.slice A126 k126 c126)) = w136
    replace hw := Eq.symm hw
    have ho : Only w126 w136 g6 := (by rw [hw]; exact Only.setg (Only.setg (Only.refl _ _) 0 _) 1 _)
    have hB2 : w136.heap[g6]? = some (.cells #[.bool s126, .slice A126 k126 c126] 32 (0, 0)) := (by rw [hw]; exact (blk_put (blk_put B6.out 0 _ rfl) 1 _ rfl))
    replace H10 := As (H10.1.o2 ho B6)
    replace H20 := As (H20.1.o2 ho B6)
    replace H25 := As (H25.1.o2 ho B6)
    replace H30 := As (H30.1.o2 ho B6)
    replace H107 := As (H107.1.o2 ho B6)
    replace H117 := As (H117.1.o2 ho B6)
    replace H122 := As (H122.1.o2 ho B6)
    replace H127 := As (H127.1.o2 ho B6)
    replace B2 := Oo B2 ho NE2_6
    replace B3 := Oo B3 ho NE3_6
    replace B5 := Oo B5 ho NE5_6
    replace HB := Lo HB ho G6
    replace B6 := As hB2
    clear hw ho hB2
    refine hK.out _ _ ?_
    clear hK K
    refine done_ (by kernel_rfl) ?_
    rename World => w140
   rotate_left
  rotate_left 4
  focus
   refine box_step (by rfl) (N := 6) (by rfl) (cs := #[.bool false, .slice none 0 0]) (t := 32) ?hr ?_
   (case hr => first | (go_simp; done) | (go_simp; rfl))
   intro g6 hgx w131 hbx hb
   have B6 := As hbx
   have NE2_6 := Nn B2 hgx
   have NE3_6 := Nn B3 hgx
   have NE5_6 := Nn B5 hgx
   have G6 := Gg HB hgx
   replace H10 := As (H10.1.be hb)
   replace H20 := As (H20.1.be hb)
   replace H25 := As (H25.1.be hb)
   replace H30 := As (H30.1.be hb)
   replace B2 := Bb B2 hb
   replace B3 := Bb B3 hb
   replace B5 := Bb B5 hb
   replace HB := Ob HB hb
   clear hbx hb hgx
   refine hK.out _ _ ⟨Cl0 B3, Cl1 B3, Cl2 B3, Cl0 B2, Cl1 B2, Cl2 B2⟩ (fun hHeld => ?_)
   clear hK K
   refine norm_ (a' := ?_) ?_ ?_
   rotate_left
   ·
    show Act.put _ (some 6) _ = _
    simp only [Nrm, Option.some.injEq, List.setIfInBounds_toArray, List.set_cons_zero, List.set_cons_succ, i64_w, i32_w]
    rfl
   refine one_ (i := 1) (N := some 14) (Bt 8 71) rfl rfl (by kernel_rfl) (by decide) (fun K hK => ?_)
   refine goes_ Tryz.func51 (by kernel_rfl) rfl #[.agg #[.bool t, .slice D m e, .slice E p f]] (by rfl) rfl rfl (by (try simp only [List.map_toArray, List.map_cons, List.map_nil]); first | done | rfl) ?_
   with_reducible refine (ref_top.run t _ _ _ _ _ _ x y L3 L4 _ (H93.1.be HB.1) (H94.1.be HB.1) (by have := HL.out; omega)).mono ?_
   rintro e w106 ⟨s106, A106, k106, c106, n106, rfl, hr106, hz106, hb⟩
   refine ⟨_, rfl, ?_⟩
   have H107 := As hr106
   have T106 := As hz106
   clear hr106 hz106
   replace H10 := As (H10.1.be hb)
   replace H20 := As (H20.1.be hb)
   replace H25 := As (H25.1.be hb)
   replace H30 := As (H30.1.be hb)
   replace B2 := Bb B2 hb
   replace B3 := Bb B3 hb
   replace B5 := Bb B5 hb
   replace B6 := Bb B6 hb
   replace HB := Ob HB hb
   clear hb
   refine hK.out _ _ ⟨Cl0 B3, Cl1 B3, Cl2 B3, Cl0 B2, Cl1 B2, Cl2 B2⟩ (fun hHeld => ?_)
   clear hK K
   refine norm_ (a' := ?_) ?_ ?_
   rotate_left
   ·
    show Act.put _ (some 14) _ = _
    simp only [Nrm, Option.some.injEq, List.setIfInBounds_toArray, List.set_cons_zero, List.set_cons_succ, i64_w, i32_w]
    rfl
   refine one_ (i := 3) (N := some 16) (Bt 8 79) rfl rfl (by kernel_rfl) (by decide) (fun K hK => ?_)
   refine goes_ Tryz.func56 (by kernel_rfl) rfl #[.agg #[.bool s, .slice A k c, .slice B l d]] (by rfl) rfl rfl (by (try simp only [List.map_toArray, List.map_cons, List.map_nil]); first | done | rfl) ?_
   with_reducible refine (ref_low.run s _ _ _ _ _ _ b L2 _ (H92.1.be HB.1) (by have := HL.out; omega)).mono ?_
   rintro e w116 ⟨A116, k116, c116, rfl, hr116, hb⟩
   refine ⟨_, rfl, ?_⟩
   have H117 := As hr116
   clear hr116
   replace H10 := As (H10.1.be hb)
   replace H20 := As (H20.1.be hb)
   replace H25 := As (H25.1.be hb)
   replace H30 := As (H30.1.be hb)
   replace H107 := As (H107.1.be hb)
   replace B2 := Bb B2 hb
   replace B3 := Bb B3 hb
   replace B5 := Bb B5 hb
   replace B6 := Bb B6 hb
   replace HB := Ob HB hb
   clear hb
   refine hK.out _ _ ⟨Cl0 B3, Cl1 B3, Cl2 B3, Cl0 B2, Cl1 B2, Cl2 B2⟩ (fun hHeld => ?_)
   clear hK K
   refine norm_ (a' := ?_) ?_ ?_
   rotate_left
   ·
    show Act.put _ (some 16) _ = _
    simp only [Nrm, Option.some.injEq, List.setIfInBounds_toArray, List.set_cons_zero, List.set_cons_succ, i64_w, i32_w]
    rfl
   refine one_ (i := 4) (N := some 17) (Bt 8 95) rfl rfl (by kernel_rfl) (by decide) (fun K hK => ?_)
   refine goes_ Tryz.func55 (by kernel_rfl) rfl #[.bool false, .slice A116 k116 c116] (by rfl) rfl rfl (by (try simp only [List.map_toArray, List.map_cons, List.map_nil]); first | done | rfl) ?_
   with_reducible refine (ref_IMake.run false _ _ _ (pd b) (L2 + 2) _ H117.1.na (by have := HL.out; omega)).mono ?_
   rintro e w121 ⟨s121, A121, k121, c121, rfl, hr121, hz121, hu121, hb⟩
   refine ⟨_, rfl, ?_⟩
   have H122 := Aside0.mk hr121
   have Z121 := Aside0.mk (And.intro hz121 hu121)
   clear hr121 hz121 hu121
   replace H10 := As (H10.1.be hb)
   replace H20 := As (H20.1.be hb)
   replace H25 := As (H25.1.be hb)
   replace H30 := As (H30.1.be hb)
   replace H107 := As (H107.1.be hb)
   replace H117 := As (H117.1.be hb)
   replace B2 := Bb B2 hb
   replace B3 := Bb B3 hb
   replace B5 := Bb B5 hb
   replace B6 := Bb B6 hb
   replace HB := Ob HB hb
   clear hb
   refine hK.out _ _ ⟨Cl0 B3, Cl1 B3, Cl2 B3, Cl0 B2, Cl1 B2, Cl2 B2⟩ (fun hHeld => ?_)
   clear hK K
   refine norm_ (a' := ?_) ?_ ?_
   rotate_left
   ·
    show Act.put _ (some 17) _ = _
    simp only [Nrm, Option.some.injEq, List.setIfInBounds_toArray, List.set_cons_zero, List.set_cons_succ, i64_w, i32_w]
    rfl
   refine one_ (i := 5) (N := some 18) (Bt 8 127) rfl rfl (by kernel_rfl) (by decide) (fun K hK => ?_)
   refine goes_ Tryz.func54 (by kernel_rfl) rfl #[.agg #[.bool s106, .slice A106 k106 c106], .agg #[.bool s121, .slice A121 k121 c121]] (by rfl) rfl rfl (by (try simp only [List.map_toArray, List.map_cons, List.map_nil]); first | done | rfl) ?_
   with_reducible refine (ref_IMul.run s106 s121 _ _ _ _ _ _ n106 (pd b) (L3 + 2) (L2 + 2) _ H107.1.na H122.1.na (by have := HL.out; omega)).mono ?_
   rintro e w126 ⟨s126, A126, k126, c126, rfl, hr126, hz126, hu126, hb⟩
   refine ⟨_, rfl, ?_⟩
   have H127 := Aside0.mk hr126
   have Z126 := Aside0.mk (And.intro hz126 hu126)
   clear hr126 hz126 hu126
   replace H10 := As (H10.1.be hb)
   replace H20 := As (H20.1.be hb)
   replace H25 := As (H25.1.be hb)
   replace H30 := As (H30.1.be hb)
   replace H107 := As (H107.1.be hb)
   replace H117 := As (H117.1.be hb)
   replace H122 := As (H122.1.be hb)
   replace B2 := Bb B2 hb
   replace B3 := Bb B3 hb
   replace B5 := Bb B5 hb
   replace B6 := Bb B6 hb
   replace HB := Ob HB hb
   clear hb
   refine hK.out _ _ ⟨Cl0 B3, Cl1 B3, Cl2 B3, Cl0 B2, Cl1 B2, Cl2 B2⟩ (fun hHeld => ?_)
   clear hK K
   refine norm_ (a' := ?_) ?_ ?_
   rotate_left
   ·
    show Act.put _ (some 18) _ = _
    simp only [Nrm, Option.some.injEq, List.setIfInBounds_toArray, List.set_cons_zero, List.set_cons_succ, i64_w, i32_w]
    rfl
   refine last_ (i := 7) (N := none) (Bt 8 255) rfl rfl (by kernel_rfl) (by decide) (fun K hK => ?_)
   (try clear cb6_0)
   have cb6_0 := Cl0 B6
   (try clear fb6_0)
   have fb6_0 := Fz B6 0
   (try clear cb6_1)
   have cb6_1 := Cl1 B6
   (try clear fb6_1)
   have fb6_1 := Fz B6 1
   refine skip_ (w1 := ?_) (by rfl) rfl ?_ ?_
   rotate_left
   ·
    go_simp
    rfl
   generalize hw : ((w126.setCell ⟨g6, 0, none⟩ (.bool s126)).setCell ⟨g6, 1, none⟩ (.slice A126 k126 c126)) = w136
   replace hw := Eq.symm hw
   have ho : Only w126 w136 g6 := (by rw [hw]; exact Only.setg (Only.setg (Only.refl _ _) 0 _) 1 _)
   have hB2 : w136.heap[g6]? = some (.cells #[.bool s126, .slice A126 k126 c126] 32 (0, 0)) := (by rw [hw]; exact (blk_put (blk_put B6.out 0 _ rfl) 1 _ rfl))
   replace H10 := As (H10.1.o2 ho B6)
   replace H20 := As (H20.1.o2 ho B6)
   replace H25 := As (H25.1.o2 ho B6)
   replace H30 := As (H30.1.o2 ho B6)
   replace H107 := As (H107.1.o2 ho B6)
   replace H117 := As (H117.1.o2 ho B6)
   replace H122 := As (H122.1.o2 ho B6)
   replace H127 := As (H127.1.o2 ho B6)
   replace B2 := Oo B2 ho NE2_6
   replace B3 := Oo B3 ho NE3_6
   replace B5 := Oo B5 ho NE5_6
   replace HB := Lo HB ho G6
   replace B6 := As hB2
   clear hw ho hB2
   refine hK.out _ _ ?_
   clear hK K
   refine done_ (by kernel_rfl) ?_
   rename World => w140
  rotate_left
  all_goals
   (try clear cb5_0)
   have cb5_0 := Cl0 B5
   (try clear cb5_1)
   have cb5_1 := Cl1 B5
   (try clear cb6_0)
   have cb6_0 := Cl0 B6
   (try clear cb6_1)
   have cb6_1 := Cl1 B6
   go_wp2_with (first | (go_at_call 57; (with_reducible refine (ref_ICmp.run s29 s126 _ _ _ _ _ _ (n9 * (pd y)) (n106 * (pd b)) ((L1 + 2) + (L4 + 2)) ((L3 + 2) + (L2 + 2)) _ H30.1.na H127.1.na (by have := HL.out; omega)).mono ?_); rintro e w142 ⟨rfl, hb⟩; replace H10 := As (H10.1.be hb); replace H20 := As (H20.1.be hb); replace H25 := As (H25.1.be hb); replace H30 := As (H30.1.be hb); replace H107 := As (H107.1.be hb); replace H117 := As (H117.1.be hb); replace H122 := As (H122.1.be hb); replace H127 := As (H127.1.be hb); replace B2 := Bb B2 hb; replace B3 := Bb B3 hb; replace B5 := Bb B5 hb; replace B6 := Bb B6 hb; replace HB := Ob HB hb; clear hb))
   go_ret
   refine ⟨?_, HB.out⟩
   have e24 := Z24.out.1
   have e29 := Z29.out.1
   have e121 := Z121.out.1
   have e126 := Z126.out.1
   have e9 := T9.out
   have e106 := T106.out
   simp only [e24, e29, e121, e126, e9, e106]
   simp only [zi, Bool.false_eq_true, if_false]
   rfl
end Go.Proofs.YtnmfmiemkcaocaaGreat.Hand
namespace Go.Proofs.YtnmfmiemkcaocaaGreat.Hand
open Go.RowKit Go.Proofs.YtnmfmiemkcaocaaGreatW.PrintWords Go.Proofs.YtnmfmiemkcaocaaGreatW.PrintLast Go.Proofs.YtnmfmiemkcaocaaGreatW.PrintMore
set_option linter.unusedVariables false
set_option linter.unusedSimpArgs false
theorem ref_GValid.run (ps qs : List Int) (P Q : Option Addr) (cp cq : Nat) (w : World) (hp : Kd.C (Kd.int .i64) w P ps.length ps) (hq : Kd.C (Kd.int .i64) w Q qs.length qs) :
  Calls Tryz.prog 27 #[.agg #[.slice P ps.length cp, .slice Q qs.length cq]] w fun e w' => e = .returned (.int .i64 (gridV ps qs)) ∧ Below w.heap.size w w' := by
 have HP := Aside0.mk hp
 have HQ := Aside0.mk hq
 have HB := Aside0.mk (Below.refl w.heap.size w)
 clear hp hq
 by_cases c1 : 21 < ps.length
 ·
  have k1 : decide ((21 : Int) < (ps.length : Int)) = true := decide_eq_true (by omega)
  have D := Aside0.mk (show gridV ps qs = 5 by unfold gridV; rw [if_pos c1])
  clear c1
  go_enter Tryz.func27, Tryz.ntmps27
  go_wp2_with (first | ((with_reducible refine gate_dst (N := 1) rfl ?_); refine box_event (by rfl) (N := 1) (by rfl) (cs := #[.slice P ps.length cp, .slice Q qs.length cq]) (t := 27) ?hr ?_; (case hr => first | (go_simp; done) | (go_simp; rfl)); intro g hg w1 hbx hb; have B0 := As hbx; replace HB := As hb; have hc0 := Cl0 B0; have hc1 := Cl1 B0; clear hg hbx hb))
  go_ret
  exact ⟨by rw [D.out]; rfl, HB.out⟩
 have k1 : decide ((21 : Int) < (ps.length : Int)) = false := decide_eq_false (by omega)
 by_cases c2 : ps.length = 0
 ·
  have k2 : ((ps.length : Int) == 0) = true := by rw [c2]; rfl
  have D := Aside0.mk (show gridV ps qs = 20 by unfold gridV; rw [if_neg c1, if_pos c2])
  clear c1 c2
  go_enter Tryz.func27, Tryz.ntmps27
  go_wp2_with (first | ((with_reducible refine gate_dst (N := 1) rfl ?_); refine box_event (by rfl) (N := 1) (by rfl) (cs := #[.slice P ps.length cp, .slice Q qs.length cq]) (t := 27) ?hr ?_; (case hr => first | (go_simp; done) | (go_simp; rfl)); intro g hg w1 hbx hb; have B0 := As hbx; replace HB := As hb; have hc0 := Cl0 B0; have hc1 := Cl1 B0; clear hg hbx hb))
  go_ret
  exact ⟨by rw [D.out]; rfl, HB.out⟩
 have k2 : ((ps.length : Int) == 0) = false := by rw [beq_eq_false_iff_ne]; omega
 by_cases c3 : qs.length = ps.length
 rotate_left
 ·
  have k3 : ((qs.length : Int) == (ps.length : Int)) = false := by rw [beq_eq_false_iff_ne]; omega
  have k3n : (qs.length == ps.length) = false := by rw [beq_eq_false_iff_ne]; omega
  have D := Aside0.mk (show gridV ps qs = 1 by unfold gridV; rw [if_neg c1, if_neg c2, if_pos c3])
  clear c1 c2 c3
  go_enter Tryz.func27, Tryz.ntmps27
  go_wp2_with (first | ((with_reducible refine gate_dst (N := 1) rfl ?_); refine box_event (by rfl) (N := 1) (by rfl) (cs := #[.slice P ps.length cp, .slice Q qs.length cq]) (t := 27) ?hr ?_; (case hr => first | (go_simp; done) | (go_simp; rfl)); intro g hg w1 hbx hb; have B0 := As hbx; replace HB := As hb; have hc0 := Cl0 B0; have hc1 := Cl1 B0; clear hg hbx hb))
  go_ret
  exact ⟨by rw [D.out]; rfl, HB.out⟩
 have k3 : ((qs.length : Int) == (ps.length : Int)) = true := by rw [beq_iff_eq]; omega
 have k3n : (qs.length == ps.length) = true := by rw [beq_iff_eq]; omega
 have D := Aside0.mk (show ps.length ≤ 21 ∧ ps.length ≠ 0 ∧ qs.length = ps.length ∧ 0 < ps.length from ⟨by omega, c2, c3, by omega⟩)
 obtain ⟨N1, hN1⟩ : ∃ n, ps.length - 1 = n := ⟨_, rfl⟩
 have HN1 := Aside0.mk hN1
 clear c1 c2 c3 hN1
 go_enter Tryz.func27, Tryz.ntmps27
 go_wp2_with (first | ((with_reducible refine gate_dst (N := 1) rfl ?_); refine box_event (by rfl) (N := 1) (by rfl) (cs := #[.slice P ps.length cp, .slice Q qs.length cq]) (t := 27) ?hr ?_; (case hr => first | (go_simp; done) | (go_simp; rfl)); intro g hg w1 hbx hb; have B0 := As hbx; replace HB := As hb; have hc0 := Cl0 B0; have hc1 := Cl1 B0; clear hg hbx hb))
 go_loopg [4] ps.length (fun kq v4 w' => ∃ i : Int, v4 = .int .i64 i ∧ Aside0 (i + kq = (ps.length : Int) ∧ kq ≤ ps.length) ∧ Aside0 (∀ j, j < i.toNat → offAt ps qs j = false) ∧ w' = w1)
 case atStart => exact ⟨0, rfl, ⟨by omega, Nat.le_refl _⟩, ⟨fun j hj => absurd hj (by simp)⟩, rfl⟩
 case round =>
  obtain ⟨i, rfl, HI, HN, hww⟩ := hrel
  subst hww
  by_cases ci : i < (ps.length : Int)
  ·
   have d1 : decide (i < (ps.length : Int)) = true := decide_eq_true ci
   have p1 : 0 ≤ i := by have := HI.out; omega
   obtain ⟨g1, hk⟩ : ∃ g1, gk = g1 + 1 := ⟨gk - 1, by have := HI.out; omega⟩
   subst hk
   obtain ⟨ad1, ea, hx⟩ := Kd.at_int HP.out i p1 ci
   subst ea
   replace hx := pw_cell_below HB.out hx
   obtain ⟨x, hxe⟩ : ∃ x, rd ps i = x := ⟨_, rfl⟩
   rw [hxe] at hx
   obtain ⟨bd, eb, hy⟩ := Kd.at_int HQ.out i p1 (by rw [D.out.2.2.1]; exact ci)
   subst eb
   replace hy := pw_cell_below HB.out hy
   obtain ⟨y, hye⟩ : ∃ y, rd qs i = y := ⟨_, rfl⟩
   rw [hye] at hy
   obtain ⟨i1, hi1⟩ : ∃ i1, IntKind.i64.wrap (i + 1) = i1 := ⟨_, rfl⟩
   have E := Aside0.mk (show 0 ≤ i ∧ i < (ps.length : Int) ∧ ps.getD i.toNat 0 = x ∧ qs.getD i.toNat 0 = y from ⟨p1, ci, hxe, hye⟩)
   have p2 := eq_true p1
   have q1 := eq_true ci
   have q2 : (i < (qs.length : Int)) = True := eq_true (by rw [D.out.2.2.1]; exact ci)
   clear p1 ci hxe hye
   have bad : (x < -1000 ∨ 1000 < x ∨ y < 1 ∨ 1000 < y) → Aside0 (gridV ps qs = 3) := fun hbad => ⟨by
    obtain ⟨h0, h1, h2, h3⟩ := E.out
    have hoff : offAt ps qs i.toNat = true := by
     unfold offAt
     rw [h2, h3]
     rcases hbad with h | h | h | h
     ·
      rw [decide_eq_false (Int.not_le.2 h)]; rfl
     ·
      rw [decide_eq_false (Int.not_le.2 h), Bool.and_false]; rfl
     ·
      rw [decide_eq_false (Int.not_le.2 h), Bool.and_false]; rfl
     ·
      rw [decide_eq_false (Int.not_le.2 h), Bool.and_false]; rfl
    unfold gridV
    rw [if_neg (by have := D.out; omega), if_neg D.out.2.1, if_neg (fun h => h D.out.2.2.1), if_pos (any_of (by omega) hoff)]⟩
   by_cases e0 : x < -1000
   focus
    have F := bad (.inl e0)
    have m1 : decide (x < -1000) = true := decide_eq_true e0
    clear e0 bad
   rotate_right
   focus
    have m1 : decide (x < -1000) = false := decide_eq_false e0
    by_cases e1 : 1000 < x
    focus
     have F := bad (.inr (.inl e1))
     have m2 : decide (1000 < x) = true := decide_eq_true e1
     clear e0 e1 bad
    rotate_right
    focus
     have m2 : decide (1000 < x) = false := decide_eq_false e1
     by_cases e2 : y < 1
     focus
      have F := bad (.inr (.inr (.inl e2)))
      have m3 : decide (y < 1) = true := decide_eq_true e2
      clear e0 e1 e2 bad
     rotate_right
     focus
      have m3 : decide (y < 1) = false := decide_eq_false e2
      by_cases e3 : 1000 < y
      focus
       have F := bad (.inr (.inr (.inr e3)))
       have m4 : decide (1000 < y) = true := decide_eq_true e3
       clear e0 e1 e2 e3 bad
      rotate_right
      ·
       have m4 : decide (1000 < y) = false := decide_eq_false e3
       have F := Aside0.mk (show -1000 ≤ x ∧ x ≤ 1000 ∧ 1 ≤ y ∧ y ≤ 1000 by omega)
       clear e0 e1 e2 e3 bad
       go_wp2
       go_roundg g1
       case measure => omega
       case rel =>
        obtain ⟨h0, h1, h2, h3⟩ := E.out
        have hD := D.out
        have hI := HI.out
        have ei1 : i1 = i + 1 := by rw [← hi1, i64_w]; unfold wrap64; omega
        refine ⟨i1, rfl, ⟨by omega, by omega⟩, ⟨fun j hj => ?_⟩, rfl⟩
        rcases Nat.lt_or_ge j i.toNat with hh | hh
        ·
         exact HN.out j hh
        ·
         obtain ⟨f0, f1, f2, f3⟩ := F.out
         rw [show j = i.toNat by omega]
         unfold offAt
         rw [h2, h3]
         simp [f0, f1, f2, f3]
   all_goals
    go_wp2
    go_ret
    exact ⟨by rw [F.out]; rfl, HB.out⟩
  ·
   have d1 : decide (i < (ps.length : Int)) = false := decide_eq_false ci
   have HF := Aside0.mk (show ∀ j, j < ps.length → offAt ps qs j = false from fun j hj => HN.out j (by omega))
   clear ci
   go_wp2
   go_loopg [5] N1 (fun kq v5 w' => ∃ i : Int, v5 = .int .i64 i ∧ Aside0 (i + kq = (N1 : Int) + 1 ∧ kq ≤ N1) ∧ Aside0 (∀ j, j + 1 < i.toNat → decide (ps.getD (j + 1) 0 ≤ ps.getD j 0) = false) ∧ Aside0 (∃ n, w' = wr.drewN n))
   case atStart => exact ⟨1, rfl, ⟨by omega, Nat.le_refl _⟩, ⟨fun j hj => absurd hj (by simp)⟩, ⟨0, rfl⟩⟩
   case round =>
    obtain ⟨k1, rfl, HK, HU, HW⟩ := hrel
    obtain ⟨nd, hnd⟩ := HW.out
    subst hnd
    by_cases ck : k1 < (ps.length : Int)
    ·
     have d2 : decide (k1 < (ps.length : Int)) = true := decide_eq_true ck
     obtain ⟨g2, hk⟩ : ∃ g1, gk = g1 + 1 := ⟨gk - 1, by have := HK.out; have := HN1.out; have := D.out; omega⟩
     subst hk
     obtain ⟨k, hk1⟩ : ∃ x, IntKind.i64.wrap (k1 - 1) = x := ⟨_, rfl⟩
     have ek1 : k = k1 - 1 := by have := HK.out; have := HN1.out; have := D.out; rw [← hk1, i64_w]; unfold wrap64; omega
     obtain ⟨k2, hk2⟩ : ∃ x, IntKind.i64.wrap (k1 + 1) = x := ⟨_, rfl⟩
     have ek2 : k2 = k1 + 1 := by have := HK.out; have := HN1.out; have := D.out; rw [← hk2, i64_w]; unfold wrap64; omega
     have p1 : 0 ≤ k := by have := HK.out; omega
     obtain ⟨ad1, ea, hx⟩ := Kd.at_int HP.out k p1 (by omega)
     subst ea
     replace hx := pw_cell_below HB.out hx
     obtain ⟨x, hxe⟩ : ∃ x, rd ps k = x := ⟨_, rfl⟩
     rw [hxe] at hx
     obtain ⟨ad2, ea, hy⟩ := Kd.at_int HP.out k1 (by omega) ck
     cases ea
     replace hy := pw_cell_below HB.out hy
     obtain ⟨y, hye⟩ : ∃ y, rd ps k1 = y := ⟨_, rfl⟩
     rw [hye] at hy
     have E := Aside0.mk (show 0 ≤ k ∧ k1 < (ps.length : Int) ∧ ps.getD k.toNat 0 = x ∧ ps.getD (k.toNat + 1) 0 = y ∧ k1 = k + 1 ∧ k2 = k1 + 1 from ⟨p1, ck, hxe, by rw [← hye]; unfold rd; congr 1; omega, by omega, ek2⟩)
     have p2 := eq_true p1
     have q1 : (k < (ps.length : Int)) = True := eq_true (by omega)
     have p3 : (0 ≤ k1) = True := eq_true (by omega)
     have q3 : (k1 < (ps.length : Int)) = True := eq_true ck
     clear hxe hye p1 ck ek1 ek2
     by_cases e : y ≤ x
     ·
      have m : decide (y ≤ x) = true := decide_eq_true e
      have F := Aside0.mk e
      clear e
      go_wp2
      go_quiet (fail)
      go_wp2
      go_ret
      refine ⟨?_, by first | exact pw_below_drewN (pw_below_drewN HB.out _) _ | exact pw_below_drewN HB.out _⟩
      obtain ⟨h0, h1, h2, h3, h4, h5⟩ := E.out
      rw [show gridV ps qs = 23 by
       unfold gridV
       rw [if_neg (by have := D.out; omega), if_neg D.out.2.1, if_neg (fun h => h D.out.2.2.1), if_neg (by rw [none_of HF.out]; exact Bool.false_ne_true), if_pos (any_of (i := k.toNat) (by have := HN1.out; omega) (by rw [h2, h3]; exact decide_eq_true F.out))]]
      rfl
     ·
      have m : decide (y ≤ x) = false := decide_eq_false e
      have F := Aside0.mk (Int.not_le.1 e)
      clear e
      go_wp2
      go_quiet (fail)
      go_wp2
      go_roundg g2
      case measure => omega
      case rel =>
       obtain ⟨h0, h1, h2, h3, h4, h5⟩ := E.out
       have hK := HK.out
       refine ⟨k2, rfl, ⟨by omega, by omega⟩, ⟨fun j hj => ?_⟩, by ((try refine Aside0.mk ?_); (first | exact ⟨_, rfl⟩ | (simp only [World.drewN_drewN]; exact ⟨_, rfl⟩)))⟩
       rcases Nat.lt_or_ge (j + 1) k1.toNat with hh | hh
       ·
        exact HU.out j hh
       ·
        rw [show j = k.toNat by omega, h2, h3]
        exact decide_eq_false (Int.not_le.2 F.out)
    ·
     have d2 : decide (k1 < (ps.length : Int)) = false := decide_eq_false ck
     have HV := Aside0.mk (show ∀ j, j < ps.length - 1 → decide (ps.getD (j + 1) 0 ≤ ps.getD j 0) = false from fun j hj => HU.out j (by omega))
     clear ck
     go_wp2
     go_ret
     refine ⟨?_, by first | exact pw_below_drewN (pw_below_drewN HB.out _) _ | exact pw_below_drewN HB.out _⟩
     rw [show gridV ps qs = 0 by
      unfold gridV
      rw [if_neg (by have := D.out; omega), if_neg D.out.2.1, if_neg (fun h => h D.out.2.2.1), if_neg (by rw [none_of HF.out]; exact Bool.false_ne_true), if_neg (by rw [none_of HV.out]; exact Bool.false_ne_true)]]
     rfl
end Go.Proofs.YtnmfmiemkcaocaaGreat.Hand
