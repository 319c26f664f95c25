/- Parts of the proof, joined: IntC, RatA. No condition. -/
import Derived.Test.YtnmfmiemkcaocaaGreatQb2
set_option maxHeartbeats 8000000
set_option maxRecDepth 100000
namespace Go.Proofs.YtnmfmiemkcaocaaGreat.Hand
open Go.RowKit Go.Proofs.YtnmfmiemkcaocaaGreatW.PrintWords Go.Proofs.YtnmfmiemkcaocaaGreatW.PrintLast Go.Proofs.YtnmfmiemkcaocaaGreatW.PrintMore
set_option linter.unusedVariables false
set_option linter.unusedSimpArgs false
theorem nat_SubGe.run (v u : Value) (a b L : Nat) (w : World) (hv : NA w v a L) (hu : NA w u b L) (hL : L ≤ 1000000000) (hab : b ≤ a) :
  Calls Tryz.prog 118 #[v, u] w fun e w' => ∃ r, e = .returned (.tuple #[r, .bool true]) ∧ NC w' r (a - b) L ∧ Below w.heap.size w w' := by
 refine (nat_Sub.run v u a b L w hv hu hL).mono ?_
 rintro e w' ⟨hb, ⟨h1, _⟩ | ⟨_, r, h2, h3⟩⟩
 ·
  omega
 ·
  exact ⟨r, h2, h3, hb⟩
theorem nat_SubLt.run (v u : Value) (a b L : Nat) (w : World) (hv : NA w v a L) (hu : NA w u b L) (hL : L ≤ 1000000000) (hab : a < b) :
  Calls Tryz.prog 118 #[v, u] w fun e w' => e = .returned (.tuple #[.slice none 0 0, .bool false]) ∧ Below w.heap.size w w' := by
 refine (nat_Sub.run v u a b L w hv hu hL).mono ?_
 rintro e w' ⟨hb, ⟨_, h1⟩ | ⟨h2, _⟩⟩
 ·
  exact ⟨h1, hb⟩
 ·
  omega
theorem cmpZ_lt {x y : Int} (h : x < y) : cmpZ x y = -1 := by unfold cmpZ; rw [if_pos h]
theorem cmpZ_gt {x y : Int} (h : y < x) : cmpZ x y = 1 := by unfold cmpZ; rw [if_neg (by omega), if_pos h]
theorem cmpZ_eq {x : Int} : cmpZ x x = 0 := by unfold cmpZ; rw [if_neg (by omega), if_neg (by omega)]
theorem cmpZ_cases (x y : Int) : (x < y ∧ cmpZ x y = -1) ∨ (y < x ∧ cmpZ x y = 1) ∨ (x = y ∧ cmpZ x y = 0) := by
 rcases Int.lt_trichotomy x y with h | h | h
 ·
  exact .inl ⟨h, cmpZ_lt h⟩
 ·
  exact .inr (.inr ⟨h, by rw [h]; exact cmpZ_eq⟩)
 ·
  exact .inr (.inl ⟨h, cmpZ_gt h⟩)
theorem cmpN_Z (a b : Nat) : cmpN a b = cmpZ a b := by
 unfold cmpN cmpZ
 rcases Nat.lt_trichotomy a b with h | h | h
 ·
  rw [if_pos h, if_pos (by omega)]
 ·
  rw [if_neg (by omega), if_neg (by omega), if_neg (by omega), if_neg (by omega)]
 ·
  rw [if_neg (by omega), if_pos h, if_neg (by omega), if_pos (by omega)]
theorem cmp_less {x y : Int} (h : cmpZ x 0 < cmpZ y 0) : -1 = cmpZ x y := by
 rcases cmpZ_cases x 0 with ⟨h1, e1⟩ | ⟨h1, e1⟩ | ⟨h1, e1⟩ <;> rcases cmpZ_cases y 0 with ⟨h2, e2⟩ | ⟨h2, e2⟩ | ⟨h2, e2⟩ <;> rw [e1, e2] at h <;> first | exact (cmpZ_lt (by omega)).symm | omega
theorem cmp_more {x y : Int} (h : cmpZ y 0 < cmpZ x 0) : 1 = cmpZ x y := by
 rcases cmpZ_cases x 0 with ⟨h1, e1⟩ | ⟨h1, e1⟩ | ⟨h1, e1⟩ <;> rcases cmpZ_cases y 0 with ⟨h2, e2⟩ | ⟨h2, e2⟩ | ⟨h2, e2⟩ <;> rw [e1, e2] at h <;> first | exact (cmpZ_gt (by omega)).symm | omega
theorem zi_neg {s : Bool} {a : Nat} (h : cmpZ (zi s a) 0 < 0) : s = true ∧ 0 < a := by
 rcases cmpZ_cases (zi s a) 0 with ⟨k1, e1⟩ | ⟨k1, e1⟩ | ⟨k1, e1⟩
 ·
  cases s <;> unfold zi at k1 <;> simp at k1 ⊢ <;> omega
 ·
  rw [e1] at h; omega
 ·
  rw [e1] at h; omega
theorem zi_pos {s : Bool} {a : Nat} (h : 0 ≤ cmpZ (zi s a) 0) : zi s a = a := by
 rcases cmpZ_cases (zi s a) 0 with ⟨k1, e1⟩ | ⟨k1, e1⟩ | ⟨k1, e1⟩
 ·
  rw [e1] at h; omega
 ·
  cases s <;> unfold zi at * <;> simp at k1 ⊢ <;> omega
 ·
  cases s <;> unfold zi at * <;> simp at k1 ⊢ <;> omega
theorem cmp_neg {s t : Bool} {a b : Nat} (h1 : cmpZ (zi t b) 0 ≤ cmpZ (zi s a) 0) (h2 : cmpZ (zi s a) 0 ≤ cmpZ (zi t b) 0) (h3 : cmpZ (zi s a) 0 < 0) : cmpN b a = cmpZ (zi s a) (zi t b) := by
 obtain ⟨rfl, ha⟩ := zi_neg h3
 obtain ⟨rfl, hb⟩ := zi_neg (s := t) (a := b) (by omega)
 rw [cmpN_Z]
 show cmpZ (b : Int) a = cmpZ (-(a : Int)) (-(b : Int))
 rcases cmpZ_cases (b : Int) a with ⟨k3, e3⟩ | ⟨k3, e3⟩ | ⟨k3, e3⟩
 ·
  rw [e3, cmpZ_lt (by omega)]
 ·
  rw [e3, cmpZ_gt (by omega)]
 ·
  rw [e3, show (b : Int) = a from k3, cmpZ_eq]
theorem cmp_pos {s t : Bool} {a b : Nat} (h1 : cmpZ (zi t b) 0 ≤ cmpZ (zi s a) 0) (h2 : cmpZ (zi s a) 0 ≤ cmpZ (zi t b) 0) (h3 : 0 ≤ cmpZ (zi s a) 0) : cmpN a b = cmpZ (zi s a) (zi t b) := by
 rw [cmpN_Z, zi_pos h3, zi_pos (by omega)]
theorem integer_Add.run (s t : Bool) (A B : Option Addr) (k c l d a b L1 L2 : Nat) (w : World) (hv : NA w (.slice A k c) a L1) (hu : NA w (.slice B l d) b L2) (hL : L1 + L2 ≤ 400000000) :
  Calls Tryz.prog 101 #[.agg #[.bool s, .slice A k c], .agg #[.bool t, .slice B l d]] w fun e w' => ∃ u A k c n, e = .returned (.agg #[.bool u, .slice A k c]) ∧ NC w' (.slice A k c) n (L1 + L2 + 1) ∧ zi u n = zi s a + zi t b ∧ (u = true → n ≠ 0) ∧ Below w.heap.size w w' := by
 have H91 := Aside0.mk hv
 have H92 := Aside0.mk hu
 have HL := Aside0.mk hL
 have HB := Aside0.mk (Below.refl w.heap.size w)
 clear hv hu hL
 rcases Nat.lt_or_ge a b with hab | hab
 ·
  have HAB := Aside0.mk hab
  clear hab
  cases s <;> cases t
  ·
   go_enter Tryz.func101, Tryz.ntmps101
   go_wp2_with (first | ((with_reducible refine gate_dst (N := 4) rfl ?_); refine box_event (by rfl) (N := 4) (by rfl) (cs := #[.bool false, .slice none 0 0]) (t := 32) ?hr ?_; (case hr => first | (go_simp; done) | (go_simp; rfl)); intro g4 hgx w3 hbx hb; have B4 := As hbx; have NE2_4 := Nn B2 hgx; have NE3_4 := Nn B3 hgx; have G4 := Gg HB hgx; replace B2 := Bb B2 hb; replace B3 := Bb B3 hb; replace HB := Ob HB hb; clear hbx hb hgx; (try clear cb2_0); have cb2_0 := Cl0 B2; (try clear cb3_0); have cb3_0 := Cl0 B3) | ((with_reducible refine gate_dst (N := 3) rfl ?_); refine box_event (by rfl) (N := 3) (by rfl) (cs := #[.bool false, .slice B l d]) (t := 32) ?hr ?_; (case hr => first | (go_simp; done) | (go_simp; rfl)); intro g3 hgx w2 hbx hb; have B3 := As hbx; have NE2_3 := Nn B2 hgx; have G3 := Gg HB hgx; replace B2 := Bb B2 hb; replace HB := Ob HB hb; clear hbx hb hgx) | ((with_reducible refine gate_dst (N := 2) rfl ?_); refine box_event (by rfl) (N := 2) (by rfl) (cs := #[.bool false, .slice A k c]) (t := 32) ?hr ?_; (case hr => first | (go_simp; done) | (go_simp; rfl)); intro g2 hgx w1 hbx hb; have B2 := As hbx; have G2 := Gg HB hgx; replace HB := Ob HB hb; clear hbx hb hgx))
   replace B2 := Bd B2
   replace B3 := Bd B3
   replace B4 := Bd B4
   replace HB := Od HB
   refine start_ (n := 9) (S := fun w' => w'.cell? ⟨g2, 0, none⟩ = some (.bool false) ∧ w'.cell? ⟨g2, 1, none⟩ = some (.slice A k c) ∧ w'.cell? ⟨g3, 1, none⟩ = some (.slice B l d)) (ds := [8]) (Bt 9 0) (by kernel_rfl) rfl (by kernel_rfl) ⟨Cl0 B2, Cl1 B2, Cl1 B3⟩ (fun hHeld => ?_)
   generalize w3.drew = w4 at hHeld B2 B3 B4 HB ⊢
   refine pure_ (i := 0) (N := some 14) (v := ?_) (a' := ?_) (Bt 9 1) rfl rfl (by kernel_rfl) (fun _ _ _ h => h) (Or.inl ⟨by rfl, ?_⟩) ?_ ?_
   rotate_left
   ·
    intro w'
    go_simp
    with_reducible rfl
   rotate_left
   ·
    simp only [Nrm, Option.some.injEq, List.setIfInBounds_toArray, List.set_cons_zero, List.set_cons_succ, i64_w, i32_w]
    rfl
   refine pure_ (i := 2) (N := some 16) (v := ?_) (a' := ?_) (Bt 9 5) rfl rfl (by kernel_rfl) (fun _ _ _ h => h) (Or.inl ⟨by rfl, ?_⟩) ?_ ?_
   rotate_left
   ·
    intro w'
    go_simp
    with_reducible rfl
   rotate_left
   ·
    simp only [Nrm, Option.some.injEq, List.setIfInBounds_toArray, List.set_cons_zero, List.set_cons_succ, i64_w, i32_w]
    rfl
   refine pure_ (i := 4) (N := some 18) (v := ?_) (a' := ?_) (Bt 9 21) rfl rfl (by kernel_rfl) (fun _ _ _ h => h) (Or.inl ⟨by rfl, ?_⟩) ?_ ?_
   rotate_left
   ·
    intro w'
    go_simp
    with_reducible rfl
   rotate_left
   ·
    simp only [Nrm, Option.some.injEq, List.setIfInBounds_toArray, List.set_cons_zero, List.set_cons_succ, i64_w, i32_w]
    rfl
   refine take_ (i := 1) (N := some 15) (v := ?_) (a' := ?_) (Bt 9 23) rfl rfl (by kernel_rfl) (fun _ _ _ h => h) (Or.inl ⟨by rfl, ?_⟩) hHeld ?_ ?_
   rotate_left
   ·
    rintro w' ⟨s0, s1, s2⟩
    go_simp
    with_reducible rfl
   rotate_left
   ·
    simp only [Nrm, Option.some.injEq, List.setIfInBounds_toArray, List.set_cons_zero, List.set_cons_succ, i64_w, i32_w]
    rfl
   refine take_ (i := 3) (N := some 17) (v := ?_) (a' := ?_) (Bt 9 31) rfl rfl (by kernel_rfl) (fun _ _ _ h => h) (Or.inl ⟨by rfl, ?_⟩) hHeld ?_ ?_
   rotate_left
   ·
    rintro w' ⟨s0, s1, s2⟩
    go_simp
    with_reducible rfl
   rotate_left
   ·
    simp only [Nrm, Option.some.injEq, List.setIfInBounds_toArray, List.set_cons_zero, List.set_cons_succ, i64_w, i32_w]
    rfl
   refine take_ (i := 5) (N := some 19) (v := ?_) (a' := ?_) (Bt 9 63) rfl rfl (by kernel_rfl) (fun _ _ _ h => h) (Or.inl ⟨by rfl, ?_⟩) hHeld ?_ ?_
   rotate_left
   ·
    rintro w' ⟨s0, s1, s2⟩
    go_simp
    with_reducible rfl
   rotate_left
   ·
    simp only [Nrm, Option.some.injEq, List.setIfInBounds_toArray, List.set_cons_zero, List.set_cons_succ, i64_w, i32_w]
    rfl
   refine one_ (i := 6) (N := some 20) (Bt 9 127) rfl rfl (by kernel_rfl) (by decide) (fun K hK => ?_)
   refine goes_ Tryz.func92 (by kernel_rfl) rfl #[.slice A k c, .slice B l d] (by rfl) rfl rfl (by (try simp only [List.map_toArray, List.map_cons, List.map_nil]); first | done | rfl) ?_
   with_reducible refine (nat_Add.run _ _ a b (L1 + L2) _ ((H91.1.be HB.1).mono (by omega)) ((H92.1.be HB.1).mono (by omega)) (by have := HL.out; omega)).mono ?_
   rintro e w35 ⟨r35, rfl, hr35, hb⟩
   refine ⟨_, rfl, ?_⟩
   obtain ⟨A35, k35, c35, rfl⟩ := hr35.sl
   have H36 := Aside0.mk hr35
   clear hr35
   replace B2 := Bb B2 hb
   replace B3 := Bb B3 hb
   replace B4 := Bb B4 hb
   replace HB := Ob HB hb
   clear hb
   refine hK.out _ _ ⟨Cl0 B2, Cl1 B2, Cl1 B3⟩ (fun hHeld => ?_)
   clear hK K
   refine norm_ (a' := ?_) ?_ ?_
   rotate_left
   ·
    show Act.put _ (some 20) _ = _
    simp only [Nrm, Option.some.injEq, List.setIfInBounds_toArray, List.set_cons_zero, List.set_cons_succ, i64_w, i32_w]
    rfl
   refine one_ (i := 7) (N := some 21) (Bt 9 255) rfl rfl (by kernel_rfl) (by decide) (fun K hK => ?_)
   refine goes_ Tryz.func69 (by kernel_rfl) rfl #[.bool false, .slice A35 k35 c35] (by rfl) rfl rfl (by (try simp only [List.map_toArray, List.map_cons, List.map_nil]); first | done | rfl) ?_
   with_reducible refine (integer_Make.run _ _ (a + b) (L1 + L2 + 1) _ H36.1.na (by have := HL.out; omega)).mono ?_
   rintro e w40 ⟨s40, A40, k40, c40, rfl, hr40, hz40, hu40, hb⟩
   refine ⟨_, rfl, ?_⟩
   have H41 := Aside0.mk hr40
   have Z40 := Aside0.mk (And.intro hz40 hu40)
   clear hr40 hz40 hu40
   replace H36 := As (H36.1.be hb)
   replace B2 := Bb B2 hb
   replace B3 := Bb B3 hb
   replace B4 := Bb B4 hb
   replace HB := Ob HB hb
   clear hb
   refine hK.out _ _ ⟨Cl0 B2, Cl1 B2, Cl1 B3⟩ (fun hHeld => ?_)
   clear hK K
   refine norm_ (a' := ?_) ?_ ?_
   rotate_left
   ·
    show Act.put _ (some 21) _ = _
    simp only [Nrm, Option.some.injEq, List.setIfInBounds_toArray, List.set_cons_zero, List.set_cons_succ, i64_w, i32_w]
    rfl
   refine last_ (i := 8) (N := none) (Bt 9 511) rfl rfl (by kernel_rfl) (by decide) (fun K hK => ?_)
   (try clear cb4_0)
   have cb4_0 := Cl0 B4
   (try clear fb4_0)
   have fb4_0 := Fz B4 0
   (try clear cb4_1)
   have cb4_1 := Cl1 B4
   (try clear fb4_1)
   have fb4_1 := Fz B4 1
   refine skip_ (w1 := ?_) (by rfl) rfl ?_ ?_
   rotate_left
   ·
    go_simp
    rfl
   generalize hw : ((w40.setCell ⟨g4, 0, none⟩ (.bool s40)).setCell ⟨g4, 1, none⟩ (.slice A40 k40 c40)) = w45
   replace hw := Eq.symm hw
   have ho : Only w40 w45 g4 := (by rw [hw]; exact Only.setg (Only.setg (Only.refl _ _) 0 _) 1 _)
   have hB2 : w45.heap[g4]? = some (.cells #[.bool s40, .slice A40 k40 c40] 32 (0, 0)) := (by rw [hw]; exact (blk_put (blk_put B4.out 0 _ rfl) 1 _ rfl))
   replace H36 := As (H36.1.o2 ho B4)
   replace H41 := As (H41.1.o2 ho B4)
   replace B2 := Oo B2 ho NE2_4
   replace B3 := Oo B3 ho NE3_4
   replace HB := Lo HB ho G4
   replace B4 := As hB2
   clear hw ho hB2
   refine hK.out _ _ ?_
   clear hK K
   refine done_ (by kernel_rfl) ?_
   go_wp2
   try simp only [Exit.inBlock, Exit.then]
   refine bodyPost_ret (results_cell_row rfl _ _ g4 32 #[.bool s40, .slice A40 k40 c40] (0, 0) _ rfl B4.out Tryz.underlying32 rfl (by kernel_rfl)) rfl ?_
   refine ⟨_, _, _, _, _, rfl, (H41.1).mono (by omega), ?_, Z40.out.2, HB.out⟩
   have hz := Z40.out.1
   have hab := HAB.out
   rw [hz]
   unfold zi
   simp
   try omega
  ·
   go_enter Tryz.func101, Tryz.ntmps101
   go_wp2_with (first | ((with_reducible refine gate_store (t := 32) (p := 4) rfl ?_); refine Sto (t := 32) (p := 4) (by rfl) (.tmp 46) (by rfl) (by rfl) g4 #[.bool s8, .slice A8 k8 c8] (by rfl) (by first | rfl | (go_simp; done) | (go_simp; rfl)) B4 (by kernel_rfl) rfl (by kernel_rfl) ?_; intro w10 ho hB2; replace H7 := As (H7.1.o2 ho B4); replace H9 := As (H9.1.o2 ho B4); replace B2 := Oo B2 ho NE2_4; replace B3 := Oo B3 ho NE3_4; replace HB := Lo HB ho G4; replace B4 := hB2; clear ho hB2) | (go_at_call 69; (with_reducible refine (integer_Make.run _ _ (b - a) (L2 + L1) _ H7.1.na (by have := HL.out; omega)).mono ?_); rintro e w8 ⟨s8, A8, k8, c8, rfl, hr8, hz8, hu8, hb⟩; have H9 := Aside0.mk hr8; have Z8 := Aside0.mk (And.intro hz8 hu8); clear hr8 hz8 hu8; replace H7 := As (H7.1.be hb); replace B2 := Bb B2 hb; replace B3 := Bb B3 hb; replace B4 := Bb B4 hb; replace HB := Ob HB hb; clear hb) | (go_at_call 118; (with_reducible refine (nat_SubGe.run _ _ b a (L2 + L1) _ ((H92.1.be HB.1).mono (by omega)) ((H91.1.be HB.1).mono (by omega)) (by have := HL.out; omega) (Nat.le_of_lt HAB.out)).mono ?_); rintro e w6 ⟨r6, rfl, hr6, hb⟩; obtain ⟨A6, k6, c6, rfl⟩ := hr6.sl; have H7 := Aside0.mk hr6; clear hr6; replace B2 := Bb B2 hb; replace B3 := Bb B3 hb; replace B4 := Bb B4 hb; replace HB := Ob HB hb; clear hb; (try clear cb3_0); have cb3_0 := Cl0 B3) | (go_at_call 118; (with_reducible refine (nat_SubLt.run _ _ a b (L1 + L2) _ ((H91.1.be HB.1).mono (by omega)) ((H92.1.be HB.1).mono (by omega)) (by have := HL.out; omega) (HAB.out)).mono ?_); rintro e w4 ⟨rfl, hb⟩; replace B2 := Bb B2 hb; replace B3 := Bb B3 hb; replace B4 := Bb B4 hb; replace HB := Ob HB hb; clear hb; (try clear cb3_1); have cb3_1 := Cl1 B3; (try clear cb2_1); have cb2_1 := Cl1 B2) | ((with_reducible refine gate_dst (N := 4) rfl ?_); refine box_event (by rfl) (N := 4) (by rfl) (cs := #[.bool false, .slice none 0 0]) (t := 32) ?hr ?_; (case hr => first | (go_simp; done) | (go_simp; rfl)); intro g4 hgx w3 hbx hb; have B4 := As hbx; have NE2_4 := Nn B2 hgx; have NE3_4 := Nn B3 hgx; have G4 := Gg HB hgx; replace B2 := Bb B2 hb; replace B3 := Bb B3 hb; replace HB := Ob HB hb; clear hbx hb hgx; (try clear cb2_0); have cb2_0 := Cl0 B2; (try clear cb3_0); have cb3_0 := Cl0 B3; (try clear cb2_1); have cb2_1 := Cl1 B2; (try clear cb3_1); have cb3_1 := Cl1 B3) | ((with_reducible refine gate_dst (N := 3) rfl ?_); refine box_event (by rfl) (N := 3) (by rfl) (cs := #[.bool true, .slice B l d]) (t := 32) ?hr ?_; (case hr => first | (go_simp; done) | (go_simp; rfl)); intro g3 hgx w2 hbx hb; have B3 := As hbx; have NE2_3 := Nn B2 hgx; have G3 := Gg HB hgx; replace B2 := Bb B2 hb; replace HB := Ob HB hb; clear hbx hb hgx) | ((with_reducible refine gate_dst (N := 2) rfl ?_); refine box_event (by rfl) (N := 2) (by rfl) (cs := #[.bool false, .slice A k c]) (t := 32) ?hr ?_; (case hr => first | (go_simp; done) | (go_simp; rfl)); intro g2 hgx w1 hbx hb; have B2 := As hbx; have G2 := Gg HB hgx; replace HB := Ob HB hb; clear hbx hb hgx))
   try simp only [Exit.inBlock, Exit.then]
   refine bodyPost_ret (results_cell_row rfl _ _ g4 32 #[.bool s8, .slice A8 k8 c8] (0, 0) _ rfl B4.out Tryz.underlying32 rfl (by kernel_rfl)) rfl ?_
   refine ⟨_, _, _, _, _, rfl, (H9.1).mono (by omega), ?_, Z8.out.2, HB.out⟩
   have hz := Z8.out.1
   have hab := HAB.out
   rw [hz]
   unfold zi
   simp
   try omega
  ·
   go_enter Tryz.func101, Tryz.ntmps101
   go_wp2_with (first | ((with_reducible refine gate_store (t := 32) (p := 4) rfl ?_); refine Sto (t := 32) (p := 4) (by rfl) (.tmp 46) (by rfl) (by rfl) g4 #[.bool s8, .slice A8 k8 c8] (by rfl) (by first | rfl | (go_simp; done) | (go_simp; rfl)) B4 (by kernel_rfl) rfl (by kernel_rfl) ?_; intro w10 ho hB2; replace H7 := As (H7.1.o2 ho B4); replace H9 := As (H9.1.o2 ho B4); replace B2 := Oo B2 ho NE2_4; replace B3 := Oo B3 ho NE3_4; replace HB := Lo HB ho G4; replace B4 := hB2; clear ho hB2) | (go_at_call 69; (with_reducible refine (integer_Make.run _ _ (b - a) (L2 + L1) _ H7.1.na (by have := HL.out; omega)).mono ?_); rintro e w8 ⟨s8, A8, k8, c8, rfl, hr8, hz8, hu8, hb⟩; have H9 := Aside0.mk hr8; have Z8 := Aside0.mk (And.intro hz8 hu8); clear hr8 hz8 hu8; replace H7 := As (H7.1.be hb); replace B2 := Bb B2 hb; replace B3 := Bb B3 hb; replace B4 := Bb B4 hb; replace HB := Ob HB hb; clear hb) | (go_at_call 118; (with_reducible refine (nat_SubGe.run _ _ b a (L2 + L1) _ ((H92.1.be HB.1).mono (by omega)) ((H91.1.be HB.1).mono (by omega)) (by have := HL.out; omega) (Nat.le_of_lt HAB.out)).mono ?_); rintro e w6 ⟨r6, rfl, hr6, hb⟩; obtain ⟨A6, k6, c6, rfl⟩ := hr6.sl; have H7 := Aside0.mk hr6; clear hr6; replace B2 := Bb B2 hb; replace B3 := Bb B3 hb; replace B4 := Bb B4 hb; replace HB := Ob HB hb; clear hb; (try clear cb3_0); have cb3_0 := Cl0 B3) | (go_at_call 118; (with_reducible refine (nat_SubLt.run _ _ a b (L1 + L2) _ ((H91.1.be HB.1).mono (by omega)) ((H92.1.be HB.1).mono (by omega)) (by have := HL.out; omega) (HAB.out)).mono ?_); rintro e w4 ⟨rfl, hb⟩; replace B2 := Bb B2 hb; replace B3 := Bb B3 hb; replace B4 := Bb B4 hb; replace HB := Ob HB hb; clear hb; (try clear cb3_1); have cb3_1 := Cl1 B3; (try clear cb2_1); have cb2_1 := Cl1 B2) | ((with_reducible refine gate_dst (N := 4) rfl ?_); refine box_event (by rfl) (N := 4) (by rfl) (cs := #[.bool false, .slice none 0 0]) (t := 32) ?hr ?_; (case hr => first | (go_simp; done) | (go_simp; rfl)); intro g4 hgx w3 hbx hb; have B4 := As hbx; have NE2_4 := Nn B2 hgx; have NE3_4 := Nn B3 hgx; have G4 := Gg HB hgx; replace B2 := Bb B2 hb; replace B3 := Bb B3 hb; replace HB := Ob HB hb; clear hbx hb hgx; (try clear cb2_0); have cb2_0 := Cl0 B2; (try clear cb3_0); have cb3_0 := Cl0 B3; (try clear cb2_1); have cb2_1 := Cl1 B2; (try clear cb3_1); have cb3_1 := Cl1 B3) | ((with_reducible refine gate_dst (N := 3) rfl ?_); refine box_event (by rfl) (N := 3) (by rfl) (cs := #[.bool false, .slice B l d]) (t := 32) ?hr ?_; (case hr => first | (go_simp; done) | (go_simp; rfl)); intro g3 hgx w2 hbx hb; have B3 := As hbx; have NE2_3 := Nn B2 hgx; have G3 := Gg HB hgx; replace B2 := Bb B2 hb; replace HB := Ob HB hb; clear hbx hb hgx) | ((with_reducible refine gate_dst (N := 2) rfl ?_); refine box_event (by rfl) (N := 2) (by rfl) (cs := #[.bool true, .slice A k c]) (t := 32) ?hr ?_; (case hr => first | (go_simp; done) | (go_simp; rfl)); intro g2 hgx w1 hbx hb; have B2 := As hbx; have G2 := Gg HB hgx; replace HB := Ob HB hb; clear hbx hb hgx))
   try simp only [Exit.inBlock, Exit.then]
   refine bodyPost_ret (results_cell_row rfl _ _ g4 32 #[.bool s8, .slice A8 k8 c8] (0, 0) _ rfl B4.out Tryz.underlying32 rfl (by kernel_rfl)) rfl ?_
   refine ⟨_, _, _, _, _, rfl, (H9.1).mono (by omega), ?_, Z8.out.2, HB.out⟩
   have hz := Z8.out.1
   have hab := HAB.out
   rw [hz]
   unfold zi
   simp
   try omega
  ·
   go_enter Tryz.func101, Tryz.ntmps101
   go_wp2_with (first | ((with_reducible refine gate_dst (N := 4) rfl ?_); refine box_event (by rfl) (N := 4) (by rfl) (cs := #[.bool false, .slice none 0 0]) (t := 32) ?hr ?_; (case hr => first | (go_simp; done) | (go_simp; rfl)); intro g4 hgx w3 hbx hb; have B4 := As hbx; have NE2_4 := Nn B2 hgx; have NE3_4 := Nn B3 hgx; have G4 := Gg HB hgx; replace B2 := Bb B2 hb; replace B3 := Bb B3 hb; replace HB := Ob HB hb; clear hbx hb hgx; (try clear cb2_0); have cb2_0 := Cl0 B2; (try clear cb3_0); have cb3_0 := Cl0 B3) | ((with_reducible refine gate_dst (N := 3) rfl ?_); refine box_event (by rfl) (N := 3) (by rfl) (cs := #[.bool true, .slice B l d]) (t := 32) ?hr ?_; (case hr => first | (go_simp; done) | (go_simp; rfl)); intro g3 hgx w2 hbx hb; have B3 := As hbx; have NE2_3 := Nn B2 hgx; have G3 := Gg HB hgx; replace B2 := Bb B2 hb; replace HB := Ob HB hb; clear hbx hb hgx) | ((with_reducible refine gate_dst (N := 2) rfl ?_); refine box_event (by rfl) (N := 2) (by rfl) (cs := #[.bool true, .slice A k c]) (t := 32) ?hr ?_; (case hr => first | (go_simp; done) | (go_simp; rfl)); intro g2 hgx w1 hbx hb; have B2 := As hbx; have G2 := Gg HB hgx; replace HB := Ob HB hb; clear hbx hb hgx))
   replace B2 := Bd B2
   replace B3 := Bd B3
   replace B4 := Bd B4
   replace HB := Od HB
   refine start_ (n := 9) (S := fun w' => w'.cell? ⟨g2, 0, none⟩ = some (.bool true) ∧ w'.cell? ⟨g2, 1, none⟩ = some (.slice A k c) ∧ w'.cell? ⟨g3, 1, none⟩ = some (.slice B l d)) (ds := [8]) (Bt 9 0) (by kernel_rfl) rfl (by kernel_rfl) ⟨Cl0 B2, Cl1 B2, Cl1 B3⟩ (fun hHeld => ?_)
   generalize w3.drew = w4 at hHeld B2 B3 B4 HB ⊢
   refine pure_ (i := 0) (N := some 14) (v := ?_) (a' := ?_) (Bt 9 1) rfl rfl (by kernel_rfl) (fun _ _ _ h => h) (Or.inl ⟨by rfl, ?_⟩) ?_ ?_
   rotate_left
   ·
    intro w'
    go_simp
    with_reducible rfl
   rotate_left
   ·
    simp only [Nrm, Option.some.injEq, List.setIfInBounds_toArray, List.set_cons_zero, List.set_cons_succ, i64_w, i32_w]
    rfl
   refine pure_ (i := 2) (N := some 16) (v := ?_) (a' := ?_) (Bt 9 5) rfl rfl (by kernel_rfl) (fun _ _ _ h => h) (Or.inl ⟨by rfl, ?_⟩) ?_ ?_
   rotate_left
   ·
    intro w'
    go_simp
    with_reducible rfl
   rotate_left
   ·
    simp only [Nrm, Option.some.injEq, List.setIfInBounds_toArray, List.set_cons_zero, List.set_cons_succ, i64_w, i32_w]
    rfl
   refine pure_ (i := 4) (N := some 18) (v := ?_) (a' := ?_) (Bt 9 21) rfl rfl (by kernel_rfl) (fun _ _ _ h => h) (Or.inl ⟨by rfl, ?_⟩) ?_ ?_
   rotate_left
   ·
    intro w'
    go_simp
    with_reducible rfl
   rotate_left
   ·
    simp only [Nrm, Option.some.injEq, List.setIfInBounds_toArray, List.set_cons_zero, List.set_cons_succ, i64_w, i32_w]
    rfl
   refine take_ (i := 1) (N := some 15) (v := ?_) (a' := ?_) (Bt 9 23) rfl rfl (by kernel_rfl) (fun _ _ _ h => h) (Or.inl ⟨by rfl, ?_⟩) hHeld ?_ ?_
   rotate_left
   ·
    rintro w' ⟨s0, s1, s2⟩
    go_simp
    with_reducible rfl
   rotate_left
   ·
    simp only [Nrm, Option.some.injEq, List.setIfInBounds_toArray, List.set_cons_zero, List.set_cons_succ, i64_w, i32_w]
    rfl
   refine take_ (i := 3) (N := some 17) (v := ?_) (a' := ?_) (Bt 9 31) rfl rfl (by kernel_rfl) (fun _ _ _ h => h) (Or.inl ⟨by rfl, ?_⟩) hHeld ?_ ?_
   rotate_left
   ·
    rintro w' ⟨s0, s1, s2⟩
    go_simp
    with_reducible rfl
   rotate_left
   ·
    simp only [Nrm, Option.some.injEq, List.setIfInBounds_toArray, List.set_cons_zero, List.set_cons_succ, i64_w, i32_w]
    rfl
   refine take_ (i := 5) (N := some 19) (v := ?_) (a' := ?_) (Bt 9 63) rfl rfl (by kernel_rfl) (fun _ _ _ h => h) (Or.inl ⟨by rfl, ?_⟩) hHeld ?_ ?_
   rotate_left
   ·
    rintro w' ⟨s0, s1, s2⟩
    go_simp
    with_reducible rfl
   rotate_left
   ·
    simp only [Nrm, Option.some.injEq, List.setIfInBounds_toArray, List.set_cons_zero, List.set_cons_succ, i64_w, i32_w]
    rfl
   refine one_ (i := 6) (N := some 20) (Bt 9 127) rfl rfl (by kernel_rfl) (by decide) (fun K hK => ?_)
   refine goes_ Tryz.func92 (by kernel_rfl) rfl #[.slice A k c, .slice B l d] (by rfl) rfl rfl (by (try simp only [List.map_toArray, List.map_cons, List.map_nil]); first | done | rfl) ?_
   with_reducible refine (nat_Add.run _ _ a b (L1 + L2) _ ((H91.1.be HB.1).mono (by omega)) ((H92.1.be HB.1).mono (by omega)) (by have := HL.out; omega)).mono ?_
   rintro e w35 ⟨r35, rfl, hr35, hb⟩
   refine ⟨_, rfl, ?_⟩
   obtain ⟨A35, k35, c35, rfl⟩ := hr35.sl
   have H36 := Aside0.mk hr35
   clear hr35
   replace B2 := Bb B2 hb
   replace B3 := Bb B3 hb
   replace B4 := Bb B4 hb
   replace HB := Ob HB hb
   clear hb
   refine hK.out _ _ ⟨Cl0 B2, Cl1 B2, Cl1 B3⟩ (fun hHeld => ?_)
   clear hK K
   refine norm_ (a' := ?_) ?_ ?_
   rotate_left
   ·
    show Act.put _ (some 20) _ = _
    simp only [Nrm, Option.some.injEq, List.setIfInBounds_toArray, List.set_cons_zero, List.set_cons_succ, i64_w, i32_w]
    rfl
   refine one_ (i := 7) (N := some 21) (Bt 9 255) rfl rfl (by kernel_rfl) (by decide) (fun K hK => ?_)
   refine goes_ Tryz.func69 (by kernel_rfl) rfl #[.bool true, .slice A35 k35 c35] (by rfl) rfl rfl (by (try simp only [List.map_toArray, List.map_cons, List.map_nil]); first | done | rfl) ?_
   with_reducible refine (integer_Make.run _ _ (a + b) (L1 + L2 + 1) _ H36.1.na (by have := HL.out; omega)).mono ?_
   rintro e w40 ⟨s40, A40, k40, c40, rfl, hr40, hz40, hu40, hb⟩
   refine ⟨_, rfl, ?_⟩
   have H41 := Aside0.mk hr40
   have Z40 := Aside0.mk (And.intro hz40 hu40)
   clear hr40 hz40 hu40
   replace H36 := As (H36.1.be hb)
   replace B2 := Bb B2 hb
   replace B3 := Bb B3 hb
   replace B4 := Bb B4 hb
   replace HB := Ob HB hb
   clear hb
   refine hK.out _ _ ⟨Cl0 B2, Cl1 B2, Cl1 B3⟩ (fun hHeld => ?_)
   clear hK K
   refine norm_ (a' := ?_) ?_ ?_
   rotate_left
   ·
    show Act.put _ (some 21) _ = _
    simp only [Nrm, Option.some.injEq, List.setIfInBounds_toArray, List.set_cons_zero, List.set_cons_succ, i64_w, i32_w]
    rfl
   refine last_ (i := 8) (N := none) (Bt 9 511) rfl rfl (by kernel_rfl) (by decide) (fun K hK => ?_)
   (try clear cb4_0)
   have cb4_0 := Cl0 B4
   (try clear fb4_0)
   have fb4_0 := Fz B4 0
   (try clear cb4_1)
   have cb4_1 := Cl1 B4
   (try clear fb4_1)
   have fb4_1 := Fz B4 1
   refine skip_ (w1 := ?_) (by rfl) rfl ?_ ?_
   rotate_left
   ·
    go_simp
    rfl
   generalize hw : ((w40.setCell ⟨g4, 0, none⟩ (.bool s40)).setCell ⟨g4, 1, none⟩ (.slice A40 k40 c40)) = w45
   replace hw := Eq.symm hw
   have ho : Only w40 w45 g4 := (by rw [hw]; exact Only.setg (Only.setg (Only.refl _ _) 0 _) 1 _)
   have hB2 : w45.heap[g4]? = some (.cells #[.bool s40, .slice A40 k40 c40] 32 (0, 0)) := (by rw [hw]; exact (blk_put (blk_put B4.out 0 _ rfl) 1 _ rfl))
   replace H36 := As (H36.1.o2 ho B4)
   replace H41 := As (H41.1.o2 ho B4)
   replace B2 := Oo B2 ho NE2_4
   replace B3 := Oo B3 ho NE3_4
   replace HB := Lo HB ho G4
   replace B4 := As hB2
   clear hw ho hB2
   refine hK.out _ _ ?_
   clear hK K
   refine done_ (by kernel_rfl) ?_
   go_wp2
   try simp only [Exit.inBlock, Exit.then]
   refine bodyPost_ret (results_cell_row rfl _ _ g4 32 #[.bool s40, .slice A40 k40 c40] (0, 0) _ rfl B4.out Tryz.underlying32 rfl (by kernel_rfl)) rfl ?_
   refine ⟨_, _, _, _, _, rfl, (H41.1).mono (by omega), ?_, Z40.out.2, HB.out⟩
   have hz := Z40.out.1
   have hab := HAB.out
   rw [hz]
   unfold zi
   simp
   try omega
 ·
  have HAB := Aside0.mk hab
  clear hab
  cases s <;> cases t
  ·
   go_enter Tryz.func101, Tryz.ntmps101
   go_wp2_with (first | ((with_reducible refine gate_dst (N := 4) rfl ?_); refine box_event (by rfl) (N := 4) (by rfl) (cs := #[.bool false, .slice none 0 0]) (t := 32) ?hr ?_; (case hr => first | (go_simp; done) | (go_simp; rfl)); intro g4 hgx w3 hbx hb; have B4 := As hbx; have NE2_4 := Nn B2 hgx; have NE3_4 := Nn B3 hgx; have G4 := Gg HB hgx; replace B2 := Bb B2 hb; replace B3 := Bb B3 hb; replace HB := Ob HB hb; clear hbx hb hgx; (try clear cb2_0); have cb2_0 := Cl0 B2; (try clear cb3_0); have cb3_0 := Cl0 B3) | ((with_reducible refine gate_dst (N := 3) rfl ?_); refine box_event (by rfl) (N := 3) (by rfl) (cs := #[.bool false, .slice B l d]) (t := 32) ?hr ?_; (case hr => first | (go_simp; done) | (go_simp; rfl)); intro g3 hgx w2 hbx hb; have B3 := As hbx; have NE2_3 := Nn B2 hgx; have G3 := Gg HB hgx; replace B2 := Bb B2 hb; replace HB := Ob HB hb; clear hbx hb hgx) | ((with_reducible refine gate_dst (N := 2) rfl ?_); refine box_event (by rfl) (N := 2) (by rfl) (cs := #[.bool false, .slice A k c]) (t := 32) ?hr ?_; (case hr => first | (go_simp; done) | (go_simp; rfl)); intro g2 hgx w1 hbx hb; have B2 := As hbx; have G2 := Gg HB hgx; replace HB := Ob HB hb; clear hbx hb hgx))
   replace B2 := Bd B2
   replace B3 := Bd B3
   replace B4 := Bd B4
   replace HB := Od HB
   refine start_ (n := 9) (S := fun w' => w'.cell? ⟨g2, 0, none⟩ = some (.bool false) ∧ w'.cell? ⟨g2, 1, none⟩ = some (.slice A k c) ∧ w'.cell? ⟨g3, 1, none⟩ = some (.slice B l d)) (ds := [8]) (Bt 9 0) (by kernel_rfl) rfl (by kernel_rfl) ⟨Cl0 B2, Cl1 B2, Cl1 B3⟩ (fun hHeld => ?_)
   generalize w3.drew = w4 at hHeld B2 B3 B4 HB ⊢
   refine pure_ (i := 0) (N := some 14) (v := ?_) (a' := ?_) (Bt 9 1) rfl rfl (by kernel_rfl) (fun _ _ _ h => h) (Or.inl ⟨by rfl, ?_⟩) ?_ ?_
   rotate_left
   ·
    intro w'
    go_simp
    with_reducible rfl
   rotate_left
   ·
    simp only [Nrm, Option.some.injEq, List.setIfInBounds_toArray, List.set_cons_zero, List.set_cons_succ, i64_w, i32_w]
    rfl
   refine pure_ (i := 2) (N := some 16) (v := ?_) (a' := ?_) (Bt 9 5) rfl rfl (by kernel_rfl) (fun _ _ _ h => h) (Or.inl ⟨by rfl, ?_⟩) ?_ ?_
   rotate_left
   ·
    intro w'
    go_simp
    with_reducible rfl
   rotate_left
   ·
    simp only [Nrm, Option.some.injEq, List.setIfInBounds_toArray, List.set_cons_zero, List.set_cons_succ, i64_w, i32_w]
    rfl
   refine pure_ (i := 4) (N := some 18) (v := ?_) (a' := ?_) (Bt 9 21) rfl rfl (by kernel_rfl) (fun _ _ _ h => h) (Or.inl ⟨by rfl, ?_⟩) ?_ ?_
   rotate_left
   ·
    intro w'
    go_simp
    with_reducible rfl
   rotate_left
   ·
    simp only [Nrm, Option.some.injEq, List.setIfInBounds_toArray, List.set_cons_zero, List.set_cons_succ, i64_w, i32_w]
    rfl
   refine take_ (i := 1) (N := some 15) (v := ?_) (a' := ?_) (Bt 9 23) rfl rfl (by kernel_rfl) (fun _ _ _ h => h) (Or.inl ⟨by rfl, ?_⟩) hHeld ?_ ?_
   rotate_left
   ·
    rintro w' ⟨s0, s1, s2⟩
    go_simp
    with_reducible rfl
   rotate_left
   ·
    simp only [Nrm, Option.some.injEq, List.setIfInBounds_toArray, List.set_cons_zero, List.set_cons_succ, i64_w, i32_w]
    rfl
   refine take_ (i := 3) (N := some 17) (v := ?_) (a' := ?_) (Bt 9 31) rfl rfl (by kernel_rfl) (fun _ _ _ h => h) (Or.inl ⟨by rfl, ?_⟩) hHeld ?_ ?_
   rotate_left
   ·
    rintro w' ⟨s0, s1, s2⟩
    go_simp
    with_reducible rfl
   rotate_left
   ·
    simp only [Nrm, Option.some.injEq, List.setIfInBounds_toArray, List.set_cons_zero, List.set_cons_succ, i64_w, i32_w]
    rfl
   refine take_ (i := 5) (N := some 19) (v := ?_) (a' := ?_) (Bt 9 63) rfl rfl (by kernel_rfl) (fun _ _ _ h => h) (Or.inl ⟨by rfl, ?_⟩) hHeld ?_ ?_
   rotate_left
   ·
    rintro w' ⟨s0, s1, s2⟩
    go_simp
    with_reducible rfl
   rotate_left
   ·
    simp only [Nrm, Option.some.injEq, List.setIfInBounds_toArray, List.set_cons_zero, List.set_cons_succ, i64_w, i32_w]
    rfl
   refine one_ (i := 6) (N := some 20) (Bt 9 127) rfl rfl (by kernel_rfl) (by decide) (fun K hK => ?_)
   refine goes_ Tryz.func92 (by kernel_rfl) rfl #[.slice A k c, .slice B l d] (by rfl) rfl rfl (by (try simp only [List.map_toArray, List.map_cons, List.map_nil]); first | done | rfl) ?_
   with_reducible refine (nat_Add.run _ _ a b (L1 + L2) _ ((H91.1.be HB.1).mono (by omega)) ((H92.1.be HB.1).mono (by omega)) (by have := HL.out; omega)).mono ?_
   rintro e w35 ⟨r35, rfl, hr35, hb⟩
   refine ⟨_, rfl, ?_⟩
   obtain ⟨A35, k35, c35, rfl⟩ := hr35.sl
   have H36 := Aside0.mk hr35
   clear hr35
   replace B2 := Bb B2 hb
   replace B3 := Bb B3 hb
   replace B4 := Bb B4 hb
   replace HB := Ob HB hb
   clear hb
   refine hK.out _ _ ⟨Cl0 B2, Cl1 B2, Cl1 B3⟩ (fun hHeld => ?_)
   clear hK K
   refine norm_ (a' := ?_) ?_ ?_
   rotate_left
   ·
    show Act.put _ (some 20) _ = _
    simp only [Nrm, Option.some.injEq, List.setIfInBounds_toArray, List.set_cons_zero, List.set_cons_succ, i64_w, i32_w]
    rfl
   refine one_ (i := 7) (N := some 21) (Bt 9 255) rfl rfl (by kernel_rfl) (by decide) (fun K hK => ?_)
   refine goes_ Tryz.func69 (by kernel_rfl) rfl #[.bool false, .slice A35 k35 c35] (by rfl) rfl rfl (by (try simp only [List.map_toArray, List.map_cons, List.map_nil]); first | done | rfl) ?_
   with_reducible refine (integer_Make.run _ _ (a + b) (L1 + L2 + 1) _ H36.1.na (by have := HL.out; omega)).mono ?_
   rintro e w40 ⟨s40, A40, k40, c40, rfl, hr40, hz40, hu40, hb⟩
   refine ⟨_, rfl, ?_⟩
   have H41 := Aside0.mk hr40
   have Z40 := Aside0.mk (And.intro hz40 hu40)
   clear hr40 hz40 hu40
   replace H36 := As (H36.1.be hb)
   replace B2 := Bb B2 hb
   replace B3 := Bb B3 hb
   replace B4 := Bb B4 hb
   replace HB := Ob HB hb
   clear hb
   refine hK.out _ _ ⟨Cl0 B2, Cl1 B2, Cl1 B3⟩ (fun hHeld => ?_)
   clear hK K
   refine norm_ (a' := ?_) ?_ ?_
   rotate_left
   ·
    show Act.put _ (some 21) _ = _
    simp only [Nrm, Option.some.injEq, List.setIfInBounds_toArray, List.set_cons_zero, List.set_cons_succ, i64_w, i32_w]
    rfl
   refine last_ (i := 8) (N := none) (Bt 9 511) rfl rfl (by kernel_rfl) (by decide) (fun K hK => ?_)
   (try clear cb4_0)
   have cb4_0 := Cl0 B4
   (try clear fb4_0)
   have fb4_0 := Fz B4 0
   (try clear cb4_1)
   have cb4_1 := Cl1 B4
   (try clear fb4_1)
   have fb4_1 := Fz B4 1
   refine skip_ (w1 := ?_) (by rfl) rfl ?_ ?_
   rotate_left
   ·
    go_simp
    rfl
   generalize hw : ((w40.setCell ⟨g4, 0, none⟩ (.bool s40)).setCell ⟨g4, 1, none⟩ (.slice A40 k40 c40)) = w45
   replace hw := Eq.symm hw
   have ho : Only w40 w45 g4 := (by rw [hw]; exact Only.setg (Only.setg (Only.refl _ _) 0 _) 1 _)
   have hB2 : w45.heap[g4]? = some (.cells #[.bool s40, .slice A40 k40 c40] 32 (0, 0)) := (by rw [hw]; exact (blk_put (blk_put B4.out 0 _ rfl) 1 _ rfl))
   replace H36 := As (H36.1.o2 ho B4)
   replace H41 := As (H41.1.o2 ho B4)
   replace B2 := Oo B2 ho NE2_4
   replace B3 := Oo B3 ho NE3_4
   replace HB := Lo HB ho G4
   replace B4 := As hB2
   clear hw ho hB2
   refine hK.out _ _ ?_
   clear hK K
   refine done_ (by kernel_rfl) ?_
   go_wp2
   try simp only [Exit.inBlock, Exit.then]
   refine bodyPost_ret (results_cell_row rfl _ _ g4 32 #[.bool s40, .slice A40 k40 c40] (0, 0) _ rfl B4.out Tryz.underlying32 rfl (by kernel_rfl)) rfl ?_
   refine ⟨_, _, _, _, _, rfl, (H41.1).mono (by omega), ?_, Z40.out.2, HB.out⟩
   have hz := Z40.out.1
   have hab := HAB.out
   rw [hz]
   unfold zi
   simp
   try omega
  ·
   go_enter Tryz.func101, Tryz.ntmps101
   go_wp2_with (first | ((with_reducible refine gate_store (t := 32) (p := 4) rfl ?_); refine Sto (t := 32) (p := 4) (by rfl) (.tmp 34) (by rfl) (by rfl) g4 #[.bool s6, .slice A6 k6 c6] (by rfl) (by first | rfl | (go_simp; done) | (go_simp; rfl)) B4 (by kernel_rfl) rfl (by kernel_rfl) ?_; intro w8 ho hB2; replace H5 := As (H5.1.o2 ho B4); replace H7 := As (H7.1.o2 ho B4); replace B2 := Oo B2 ho NE2_4; replace B3 := Oo B3 ho NE3_4; replace HB := Lo HB ho G4; replace B4 := hB2; clear ho hB2) | (go_at_call 69; (with_reducible refine (integer_Make.run _ _ (a - b) (L1 + L2) _ H5.1.na (by have := HL.out; omega)).mono ?_); rintro e w6 ⟨s6, A6, k6, c6, rfl, hr6, hz6, hu6, hb⟩; have H7 := Aside0.mk hr6; have Z6 := Aside0.mk (And.intro hz6 hu6); clear hr6 hz6 hu6; replace H5 := As (H5.1.be hb); replace B2 := Bb B2 hb; replace B3 := Bb B3 hb; replace B4 := Bb B4 hb; replace HB := Ob HB hb; clear hb) | (go_at_call 118; (with_reducible refine (nat_SubGe.run _ _ a b (L1 + L2) _ ((H91.1.be HB.1).mono (by omega)) ((H92.1.be HB.1).mono (by omega)) (by have := HL.out; omega) (HAB.out)).mono ?_); rintro e w4 ⟨r4, rfl, hr4, hb⟩; obtain ⟨A4, k4, c4, rfl⟩ := hr4.sl; have H5 := Aside0.mk hr4; clear hr4; replace B2 := Bb B2 hb; replace B3 := Bb B3 hb; replace B4 := Bb B4 hb; replace HB := Ob HB hb; clear hb; (try clear cb2_0); have cb2_0 := Cl0 B2) | ((with_reducible refine gate_dst (N := 4) rfl ?_); refine box_event (by rfl) (N := 4) (by rfl) (cs := #[.bool false, .slice none 0 0]) (t := 32) ?hr ?_; (case hr => first | (go_simp; done) | (go_simp; rfl)); intro g4 hgx w3 hbx hb; have B4 := As hbx; have NE2_4 := Nn B2 hgx; have NE3_4 := Nn B3 hgx; have G4 := Gg HB hgx; replace B2 := Bb B2 hb; replace B3 := Bb B3 hb; replace HB := Ob HB hb; clear hbx hb hgx; (try clear cb2_0); have cb2_0 := Cl0 B2; (try clear cb3_0); have cb3_0 := Cl0 B3; (try clear cb2_1); have cb2_1 := Cl1 B2; (try clear cb3_1); have cb3_1 := Cl1 B3) | ((with_reducible refine gate_dst (N := 3) rfl ?_); refine box_event (by rfl) (N := 3) (by rfl) (cs := #[.bool true, .slice B l d]) (t := 32) ?hr ?_; (case hr => first | (go_simp; done) | (go_simp; rfl)); intro g3 hgx w2 hbx hb; have B3 := As hbx; have NE2_3 := Nn B2 hgx; have G3 := Gg HB hgx; replace B2 := Bb B2 hb; replace HB := Ob HB hb; clear hbx hb hgx) | ((with_reducible refine gate_dst (N := 2) rfl ?_); refine box_event (by rfl) (N := 2) (by rfl) (cs := #[.bool false, .slice A k c]) (t := 32) ?hr ?_; (case hr => first | (go_simp; done) | (go_simp; rfl)); intro g2 hgx w1 hbx hb; have B2 := As hbx; have G2 := Gg HB hgx; replace HB := Ob HB hb; clear hbx hb hgx))
   try simp only [Exit.inBlock, Exit.then]
   refine bodyPost_ret (results_cell_row rfl _ _ g4 32 #[.bool s6, .slice A6 k6 c6] (0, 0) _ rfl B4.out Tryz.underlying32 rfl (by kernel_rfl)) rfl ?_
   refine ⟨_, _, _, _, _, rfl, (H7.1).mono (by omega), ?_, Z6.out.2, HB.out⟩
   have hz := Z6.out.1
   have hab := HAB.out
   rw [hz]
   unfold zi
   simp
   try omega
  ·
   go_enter Tryz.func101, Tryz.ntmps101
   go_wp2_with (first | ((with_reducible refine gate_store (t := 32) (p := 4) rfl ?_); refine Sto (t := 32) (p := 4) (by rfl) (.tmp 34) (by rfl) (by rfl) g4 #[.bool s6, .slice A6 k6 c6] (by rfl) (by first | rfl | (go_simp; done) | (go_simp; rfl)) B4 (by kernel_rfl) rfl (by kernel_rfl) ?_; intro w8 ho hB2; replace H5 := As (H5.1.o2 ho B4); replace H7 := As (H7.1.o2 ho B4); replace B2 := Oo B2 ho NE2_4; replace B3 := Oo B3 ho NE3_4; replace HB := Lo HB ho G4; replace B4 := hB2; clear ho hB2) | (go_at_call 69; (with_reducible refine (integer_Make.run _ _ (a - b) (L1 + L2) _ H5.1.na (by have := HL.out; omega)).mono ?_); rintro e w6 ⟨s6, A6, k6, c6, rfl, hr6, hz6, hu6, hb⟩; have H7 := Aside0.mk hr6; have Z6 := Aside0.mk (And.intro hz6 hu6); clear hr6 hz6 hu6; replace H5 := As (H5.1.be hb); replace B2 := Bb B2 hb; replace B3 := Bb B3 hb; replace B4 := Bb B4 hb; replace HB := Ob HB hb; clear hb) | (go_at_call 118; (with_reducible refine (nat_SubGe.run _ _ a b (L1 + L2) _ ((H91.1.be HB.1).mono (by omega)) ((H92.1.be HB.1).mono (by omega)) (by have := HL.out; omega) (HAB.out)).mono ?_); rintro e w4 ⟨r4, rfl, hr4, hb⟩; obtain ⟨A4, k4, c4, rfl⟩ := hr4.sl; have H5 := Aside0.mk hr4; clear hr4; replace B2 := Bb B2 hb; replace B3 := Bb B3 hb; replace B4 := Bb B4 hb; replace HB := Ob HB hb; clear hb; (try clear cb2_0); have cb2_0 := Cl0 B2) | ((with_reducible refine gate_dst (N := 4) rfl ?_); refine box_event (by rfl) (N := 4) (by rfl) (cs := #[.bool false, .slice none 0 0]) (t := 32) ?hr ?_; (case hr => first | (go_simp; done) | (go_simp; rfl)); intro g4 hgx w3 hbx hb; have B4 := As hbx; have NE2_4 := Nn B2 hgx; have NE3_4 := Nn B3 hgx; have G4 := Gg HB hgx; replace B2 := Bb B2 hb; replace B3 := Bb B3 hb; replace HB := Ob HB hb; clear hbx hb hgx; (try clear cb2_0); have cb2_0 := Cl0 B2; (try clear cb3_0); have cb3_0 := Cl0 B3; (try clear cb2_1); have cb2_1 := Cl1 B2; (try clear cb3_1); have cb3_1 := Cl1 B3) | ((with_reducible refine gate_dst (N := 3) rfl ?_); refine box_event (by rfl) (N := 3) (by rfl) (cs := #[.bool false, .slice B l d]) (t := 32) ?hr ?_; (case hr => first | (go_simp; done) | (go_simp; rfl)); intro g3 hgx w2 hbx hb; have B3 := As hbx; have NE2_3 := Nn B2 hgx; have G3 := Gg HB hgx; replace B2 := Bb B2 hb; replace HB := Ob HB hb; clear hbx hb hgx) | ((with_reducible refine gate_dst (N := 2) rfl ?_); refine box_event (by rfl) (N := 2) (by rfl) (cs := #[.bool true, .slice A k c]) (t := 32) ?hr ?_; (case hr => first | (go_simp; done) | (go_simp; rfl)); intro g2 hgx w1 hbx hb; have B2 := As hbx; have G2 := Gg HB hgx; replace HB := Ob HB hb; clear hbx hb hgx))
   try simp only [Exit.inBlock, Exit.then]
   refine bodyPost_ret (results_cell_row rfl _ _ g4 32 #[.bool s6, .slice A6 k6 c6] (0, 0) _ rfl B4.out Tryz.underlying32 rfl (by kernel_rfl)) rfl ?_
   refine ⟨_, _, _, _, _, rfl, (H7.1).mono (by omega), ?_, Z6.out.2, HB.out⟩
   have hz := Z6.out.1
   have hab := HAB.out
   rw [hz]
   unfold zi
   simp
   try omega
  ·
   go_enter Tryz.func101, Tryz.ntmps101
   go_wp2_with (first | ((with_reducible refine gate_dst (N := 4) rfl ?_); refine box_event (by rfl) (N := 4) (by rfl) (cs := #[.bool false, .slice none 0 0]) (t := 32) ?hr ?_; (case hr => first | (go_simp; done) | (go_simp; rfl)); intro g4 hgx w3 hbx hb; have B4 := As hbx; have NE2_4 := Nn B2 hgx; have NE3_4 := Nn B3 hgx; have G4 := Gg HB hgx; replace B2 := Bb B2 hb; replace B3 := Bb B3 hb; replace HB := Ob HB hb; clear hbx hb hgx; (try clear cb2_0); have cb2_0 := Cl0 B2; (try clear cb3_0); have cb3_0 := Cl0 B3) | ((with_reducible refine gate_dst (N := 3) rfl ?_); refine box_event (by rfl) (N := 3) (by rfl) (cs := #[.bool true, .slice B l d]) (t := 32) ?hr ?_; (case hr => first | (go_simp; done) | (go_simp; rfl)); intro g3 hgx w2 hbx hb; have B3 := As hbx; have NE2_3 := Nn B2 hgx; have G3 := Gg HB hgx; replace B2 := Bb B2 hb; replace HB := Ob HB hb; clear hbx hb hgx) | ((with_reducible refine gate_dst (N := 2) rfl ?_); refine box_event (by rfl) (N := 2) (by rfl) (cs := #[.bool true, .slice A k c]) (t := 32) ?hr ?_; (case hr => first | (go_simp; done) | (go_simp; rfl)); intro g2 hgx w1 hbx hb; have B2 := As hbx; have G2 := Gg HB hgx; replace HB := Ob HB hb; clear hbx hb hgx))
   replace B2 := Bd B2
   replace B3 := Bd B3
   replace B4 := Bd B4
   replace HB := Od HB
   refine start_ (n := 9) (S := fun w' => w'.cell? ⟨g2, 0, none⟩ = some (.bool true) ∧ w'.cell? ⟨g2, 1, none⟩ = some (.slice A k c) ∧ w'.cell? ⟨g3, 1, none⟩ = some (.slice B l d)) (ds := [8]) (Bt 9 0) (by kernel_rfl) rfl (by kernel_rfl) ⟨Cl0 B2, Cl1 B2, Cl1 B3⟩ (fun hHeld => ?_)
   generalize w3.drew = w4 at hHeld B2 B3 B4 HB ⊢
   refine pure_ (i := 0) (N := some 14) (v := ?_) (a' := ?_) (Bt 9 1) rfl rfl (by kernel_rfl) (fun _ _ _ h => h) (Or.inl ⟨by rfl, ?_⟩) ?_ ?_
   rotate_left
   ·
    intro w'
    go_simp
    with_reducible rfl
   rotate_left
   ·
    simp only [Nrm, Option.some.injEq, List.setIfInBounds_toArray, List.set_cons_zero, List.set_cons_succ, i64_w, i32_w]
    rfl
   refine pure_ (i := 2) (N := some 16) (v := ?_) (a' := ?_) (Bt 9 5) rfl rfl (by kernel_rfl) (fun _ _ _ h => h) (Or.inl ⟨by rfl, ?_⟩) ?_ ?_
   rotate_left
   ·
    intro w'
    go_simp
    with_reducible rfl
   rotate_left
   ·
    simp only [Nrm, Option.some.injEq, List.setIfInBounds_toArray, List.set_cons_zero, List.set_cons_succ, i64_w, i32_w]
    rfl
   refine pure_ (i := 4) (N := some 18) (v := ?_) (a' := ?_) (Bt 9 21) rfl rfl (by kernel_rfl) (fun _ _ _ h => h) (Or.inl ⟨by rfl, ?_⟩) ?_ ?_
   rotate_left
   ·
    intro w'
    go_simp
    with_reducible rfl
   rotate_left
   ·
    simp only [Nrm, Option.some.injEq, List.setIfInBounds_toArray, List.set_cons_zero, List.set_cons_succ, i64_w, i32_w]
    rfl
   refine take_ (i := 1) (N := some 15) (v := ?_) (a' := ?_) (Bt 9 23) rfl rfl (by kernel_rfl) (fun _ _ _ h => h) (Or.inl ⟨by rfl, ?_⟩) hHeld ?_ ?_
   rotate_left
   ·
    rintro w' ⟨s0, s1, s2⟩
    go_simp
    with_reducible rfl
   rotate_left
   ·
    simp only [Nrm, Option.some.injEq, List.setIfInBounds_toArray, List.set_cons_zero, List.set_cons_succ, i64_w, i32_w]
    rfl
   refine take_ (i := 3) (N := some 17) (v := ?_) (a' := ?_) (Bt 9 31) rfl rfl (by kernel_rfl) (fun _ _ _ h => h) (Or.inl ⟨by rfl, ?_⟩) hHeld ?_ ?_
   rotate_left
   ·
    rintro w' ⟨s0, s1, s2⟩
    go_simp
    with_reducible rfl
   rotate_left
   ·
    simp only [Nrm, Option.some.injEq, List.setIfInBounds_toArray, List.set_cons_zero, List.set_cons_succ, i64_w, i32_w]
    rfl
   refine take_ (i := 5) (N := some 19) (v := ?_) (a' := ?_) (Bt 9 63) rfl rfl (by kernel_rfl) (fun _ _ _ h => h) (Or.inl ⟨by rfl, ?_⟩) hHeld ?_ ?_
   rotate_left
   ·
    rintro w' ⟨s0, s1, s2⟩
    go_simp
    with_reducible rfl
   rotate_left
   ·
    simp only [Nrm, Option.some.injEq, List.setIfInBounds_toArray, List.set_cons_zero, List.set_cons_succ, i64_w, i32_w]
    rfl
   refine one_ (i := 6) (N := some 20) (Bt 9 127) rfl rfl (by kernel_rfl) (by decide) (fun K hK => ?_)
   refine goes_ Tryz.func92 (by kernel_rfl) rfl #[.slice A k c, .slice B l d] (by rfl) rfl rfl (by (try simp only [List.map_toArray, List.map_cons, List.map_nil]); first | done | rfl) ?_
   with_reducible refine (nat_Add.run _ _ a b (L1 + L2) _ ((H91.1.be HB.1).mono (by omega)) ((H92.1.be HB.1).mono (by omega)) (by have := HL.out; omega)).mono ?_
   rintro e w35 ⟨r35, rfl, hr35, hb⟩
   refine ⟨_, rfl, ?_⟩
   obtain ⟨A35, k35, c35, rfl⟩ := hr35.sl
   have H36 := Aside0.mk hr35
   clear hr35
   replace B2 := Bb B2 hb
   replace B3 := Bb B3 hb
   replace B4 := Bb B4 hb
   replace HB := Ob HB hb
   clear hb
   refine hK.out _ _ ⟨Cl0 B2, Cl1 B2, Cl1 B3⟩ (fun hHeld => ?_)
   clear hK K
   refine norm_ (a' := ?_) ?_ ?_
   rotate_left
   ·
    show Act.put _ (some 20) _ = _
    simp only [Nrm, Option.some.injEq, List.setIfInBounds_toArray, List.set_cons_zero, List.set_cons_succ, i64_w, i32_w]
    rfl
   refine one_ (i := 7) (N := some 21) (Bt 9 255) rfl rfl (by kernel_rfl) (by decide) (fun K hK => ?_)
   refine goes_ Tryz.func69 (by kernel_rfl) rfl #[.bool true, .slice A35 k35 c35] (by rfl) rfl rfl (by (try simp only [List.map_toArray, List.map_cons, List.map_nil]); first | done | rfl) ?_
   with_reducible refine (integer_Make.run _ _ (a + b) (L1 + L2 + 1) _ H36.1.na (by have := HL.out; omega)).mono ?_
   rintro e w40 ⟨s40, A40, k40, c40, rfl, hr40, hz40, hu40, hb⟩
   refine ⟨_, rfl, ?_⟩
   have H41 := Aside0.mk hr40
   have Z40 := Aside0.mk (And.intro hz40 hu40)
   clear hr40 hz40 hu40
   replace H36 := As (H36.1.be hb)
   replace B2 := Bb B2 hb
   replace B3 := Bb B3 hb
   replace B4 := Bb B4 hb
   replace HB := Ob HB hb
   clear hb
   refine hK.out _ _ ⟨Cl0 B2, Cl1 B2, Cl1 B3⟩ (fun hHeld => ?_)
   clear hK K
   refine norm_ (a' := ?_) ?_ ?_
   rotate_left
   ·
    show Act.put _ (some 21) _ = _
    simp only [Nrm, Option.some.injEq, List.setIfInBounds_toArray, List.set_cons_zero, List.set_cons_succ, i64_w, i32_w]
    rfl
   refine last_ (i := 8) (N := none) (Bt 9 511) rfl rfl (by kernel_rfl) (by decide) (fun K hK => ?_)
   (try clear cb4_0)
   have cb4_0 := Cl0 B4
   (try clear fb4_0)
   have fb4_0 := Fz B4 0
   (try clear cb4_1)
   have cb4_1 := Cl1 B4
   (try clear fb4_1)
   have fb4_1 := Fz B4 1
   refine skip_ (w1 := ?_) (by rfl) rfl ?_ ?_
   rotate_left
   ·
    go_simp
    rfl
   generalize hw : ((w40.setCell ⟨g4, 0, none⟩ (.bool s40)).setCell ⟨g4, 1, none⟩ (.slice A40 k40 c40)) = w45
   replace hw := Eq.symm hw
   have ho : Only w40 w45 g4 := (by rw [hw]; exact Only.setg (Only.setg (Only.refl _ _) 0 _) 1 _)
   have hB2 : w45.heap[g4]? = some (.cells #[.bool s40, .slice A40 k40 c40] 32 (0, 0)) := (by rw [hw]; exact (blk_put (blk_put B4.out 0 _ rfl) 1 _ rfl))
   replace H36 := As (H36.1.o2 ho B4)
   replace H41 := As (H41.1.o2 ho B4)
   replace B2 := Oo B2 ho NE2_4
   replace B3 := Oo B3 ho NE3_4
   replace HB := Lo HB ho G4
   replace B4 := As hB2
   clear hw ho hB2
   refine hK.out _ _ ?_
   clear hK K
   refine done_ (by kernel_rfl) ?_
   go_wp2
   try simp only [Exit.inBlock, Exit.then]
   refine bodyPost_ret (results_cell_row rfl _ _ g4 32 #[.bool s40, .slice A40 k40 c40] (0, 0) _ rfl B4.out Tryz.underlying32 rfl (by kernel_rfl)) rfl ?_
   refine ⟨_, _, _, _, _, rfl, (H41.1).mono (by omega), ?_, Z40.out.2, HB.out⟩
   have hz := Z40.out.1
   have hab := HAB.out
   rw [hz]
   unfold zi
   simp
   try omega
theorem integer_Sub.run (s t : Bool) (A B : Option Addr) (k c l d a b L1 L2 : Nat) (w : World) (hv : NA w (.slice A k c) a L1) (hu : NA w (.slice B l d) b L2) (hL : L1 + L2 ≤ 400000000) :
  Calls Tryz.prog 102 #[.agg #[.bool s, .slice A k c], .agg #[.bool t, .slice B l d]] w fun e w' => ∃ u A k c n, e = .returned (.agg #[.bool u, .slice A k c]) ∧ NC w' (.slice A k c) n (L1 + L2 + 1) ∧ zi u n = zi s a - zi t b ∧ (u = true → n ≠ 0) ∧ Below w.heap.size w w' := by
 have H91 := Aside0.mk hv
 have H92 := Aside0.mk hu
 have HL := Aside0.mk hL
 have HB := Aside0.mk (Below.refl w.heap.size w)
 clear hv hu hL
 go_enter Tryz.func102, Tryz.ntmps102
 go_wp2_with (first | ((with_reducible refine gate_dst (N := 4) rfl ?_); refine box_event (by rfl) (N := 4) (by rfl) (cs := #[.bool false, .slice none 0 0]) (t := 32) ?hr ?_; (case hr => first | (go_simp; done) | (go_simp; rfl)); intro g4 hgx w3 hbx hb; have B4 := As hbx; have NE2_4 := Nn B2 hgx; have NE3_4 := Nn B3 hgx; have G4 := Gg HB hgx; replace B2 := Bb B2 hb; replace B3 := Bb B3 hb; replace HB := Ob HB hb; clear hbx hb hgx) | ((with_reducible refine gate_dst (N := 3) rfl ?_); refine box_event (by rfl) (N := 3) (by rfl) (cs := #[.bool t, .slice B l d]) (t := 32) ?hr ?_; (case hr => first | (go_simp; done) | (go_simp; rfl)); intro g3 hgx w2 hbx hb; have B3 := As hbx; have NE2_3 := Nn B2 hgx; have G3 := Gg HB hgx; replace B2 := Bb B2 hb; replace HB := Ob HB hb; clear hbx hb hgx) | ((with_reducible refine gate_dst (N := 2) rfl ?_); refine box_event (by rfl) (N := 2) (by rfl) (cs := #[.bool s, .slice A k c]) (t := 32) ?hr ?_; (case hr => first | (go_simp; done) | (go_simp; rfl)); intro g2 hgx w1 hbx hb; have B2 := As hbx; have G2 := Gg HB hgx; replace HB := Ob HB hb; clear hbx hb hgx))
 replace B2 := Bd B2
 replace B3 := Bd B3
 replace B4 := Bd B4
 replace HB := Od HB
 refine start_ (n := 5) (S := fun w' => w'.cell? ⟨g2, 0, none⟩ = some (.bool s) ∧ w'.cell? ⟨g2, 1, none⟩ = some (.slice A k c) ∧ w'.cell? ⟨g3, 0, none⟩ = some (.bool t) ∧ w'.cell? ⟨g3, 1, none⟩ = some (.slice B l d)) (ds := [4]) (Bt 5 0) (by kernel_rfl) rfl (by kernel_rfl) ⟨Cl0 B2, Cl1 B2, Cl0 B3, Cl1 B3⟩ (fun hHeld => ?_)
 generalize w3.drew = w4 at hHeld B2 B3 B4 HB ⊢
 refine take_ (i := 0) (N := some 5) (v := ?_) (a' := ?_) (Bt 5 1) rfl rfl (by kernel_rfl) (fun _ _ _ h => h) (Or.inl ⟨by rfl, ?_⟩) hHeld ?_ ?_
 rotate_left
 ·
  rintro w' ⟨s0, s1, s2, s3⟩
  go_simp
  with_reducible rfl
 rotate_left
 ·
  simp only [Nrm, Option.some.injEq, List.setIfInBounds_toArray, List.set_cons_zero, List.set_cons_succ, i64_w, i32_w]
  rfl
 refine take_ (i := 1) (N := some 6) (v := ?_) (a' := ?_) (Bt 5 3) rfl rfl (by kernel_rfl) (fun _ _ _ h => h) (Or.inl ⟨by rfl, ?_⟩) hHeld ?_ ?_
 rotate_left
 ·
  rintro w' ⟨s0, s1, s2, s3⟩
  go_simp
  with_reducible rfl
 rotate_left
 ·
  simp only [Nrm, Option.some.injEq, List.setIfInBounds_toArray, List.set_cons_zero, List.set_cons_succ, i64_w, i32_w]
  rfl
 refine one_ (i := 2) (N := some 7) (Bt 5 7) rfl rfl (by kernel_rfl) (by decide) (fun K hK => ?_)
 refine goes_ Tryz.func119 (by kernel_rfl) rfl #[.agg #[.bool t, .slice B l d]] (by rfl) rfl rfl (by (try simp only [List.map_toArray, List.map_cons, List.map_nil]); first | done | rfl) ?_
 with_reducible refine (integer_Neg.run t _ _ _ b L2 _ (H92.1.be HB.1) (by have := HL.out; omega)).mono ?_
 rintro e w15 ⟨s15, A15, k15, c15, rfl, hr15, hz15, hu15, hb⟩
 refine ⟨_, rfl, ?_⟩
 have H16 := Aside0.mk hr15
 have Z15 := Aside0.mk (And.intro hz15 hu15)
 clear hr15 hz15 hu15
 replace B2 := Bb B2 hb
 replace B3 := Bb B3 hb
 replace B4 := Bb B4 hb
 replace HB := Ob HB hb
 clear hb
 refine hK.out _ _ ⟨Cl0 B2, Cl1 B2, Cl0 B3, Cl1 B3⟩ (fun hHeld => ?_)
 clear hK K
 refine norm_ (a' := ?_) ?_ ?_
 rotate_left
 ·
  show Act.put _ (some 7) _ = _
  simp only [Nrm, Option.some.injEq, List.setIfInBounds_toArray, List.set_cons_zero, List.set_cons_succ, i64_w, i32_w]
  rfl
 refine one_ (i := 3) (N := some 8) (Bt 5 15) rfl rfl (by kernel_rfl) (by decide) (fun K hK => ?_)
 refine goes_ Tryz.func101 (by kernel_rfl) rfl #[.agg #[.bool s, .slice A k c], .agg #[.bool s15, .slice A15 k15 c15]] (by rfl) rfl rfl (by (try simp only [List.map_toArray, List.map_cons, List.map_nil]); first | done | rfl) ?_
 with_reducible refine (integer_Add.run s s15 _ _ _ _ _ _ a b L1 L2 _ (H91.1.be HB.1) H16.1.na (by have := HL.out; omega)).mono ?_
 rintro e w20 ⟨s20, A20, k20, c20, n20, rfl, hr20, hz20, hu20, hb⟩
 refine ⟨_, rfl, ?_⟩
 have H21 := Aside0.mk hr20
 have Z20 := Aside0.mk (And.intro hz20 hu20)
 clear hr20 hz20 hu20
 replace H16 := As (H16.1.be hb)
 replace B2 := Bb B2 hb
 replace B3 := Bb B3 hb
 replace B4 := Bb B4 hb
 replace HB := Ob HB hb
 clear hb
 refine hK.out _ _ ⟨Cl0 B2, Cl1 B2, Cl0 B3, Cl1 B3⟩ (fun hHeld => ?_)
 clear hK K
 refine norm_ (a' := ?_) ?_ ?_
 rotate_left
 ·
  show Act.put _ (some 8) _ = _
  simp only [Nrm, Option.some.injEq, List.setIfInBounds_toArray, List.set_cons_zero, List.set_cons_succ, i64_w, i32_w]
  rfl
 refine last_ (i := 4) (N := none) (Bt 5 31) rfl rfl (by kernel_rfl) (by decide) (fun K hK => ?_)
 (try clear cb4_0)
 have cb4_0 := Cl0 B4
 (try clear fb4_0)
 have fb4_0 := Fz B4 0
 (try clear cb4_1)
 have cb4_1 := Cl1 B4
 (try clear fb4_1)
 have fb4_1 := Fz B4 1
 refine skip_ (w1 := ?_) (by rfl) rfl ?_ ?_
 rotate_left
 ·
  go_simp
  rfl
 generalize hw : ((w20.setCell ⟨g4, 0, none⟩ (.bool s20)).setCell ⟨g4, 1, none⟩ (.slice A20 k20 c20)) = w25
 replace hw := Eq.symm hw
 have ho : Only w20 w25 g4 := (by rw [hw]; exact Only.setg (Only.setg (Only.refl _ _) 0 _) 1 _)
 have hB2 : w25.heap[g4]? = some (.cells #[.bool s20, .slice A20 k20 c20] 32 (0, 0)) := (by rw [hw]; exact (blk_put (blk_put B4.out 0 _ rfl) 1 _ rfl))
 replace H16 := As (H16.1.o2 ho B4)
 replace H21 := As (H21.1.o2 ho B4)
 replace B2 := Oo B2 ho NE2_4
 replace B3 := Oo B3 ho NE3_4
 replace HB := Lo HB ho G4
 replace B4 := As hB2
 clear hw ho hB2
 refine hK.out _ _ ?_
 clear hK K
 refine done_ (by kernel_rfl) ?_
 go_wp2
 try simp only [Exit.inBlock, Exit.then]
 refine bodyPost_ret (results_cell_row rfl _ _ g4 32 #[.bool s20, .slice A20 k20 c20] (0, 0) _ rfl B4.out Tryz.underlying32 rfl (by kernel_rfl)) rfl ?_
 refine ⟨_, _, _, _, _, rfl, (H21.1).mono (by omega), ?_, Z20.out.2, HB.out⟩
 have hz := Z20.out.1
 have hy := Z15.out.1
 rw [hz, hy]
 omega
theorem integer_Cmp.run (s t : Bool) (A B : Option Addr) (k c l d a b L1 L2 : Nat) (w : World) (hv : NA w (.slice A k c) a L1) (hu : NA w (.slice B l d) b L2) (hL : L1 + L2 ≤ 400000000) :
  Calls Tryz.prog 40 #[.agg #[.bool s, .slice A k c], .agg #[.bool t, .slice B l d]] w fun e w' => e = .returned (.int .i64 (cmpZ (zi s a) (zi t b))) ∧ Below w.heap.size w w' := by
 have H91 := Aside0.mk hv
 have H92 := Aside0.mk hu
 have HL := Aside0.mk hL
 have HB := Aside0.mk (Below.refl w.heap.size w)
 clear hv hu hL
 by_cases c1 : cmpZ (zi s a) 0 < cmpZ (zi t b) 0
 ·
  have k1 : decide (cmpZ (zi s a) 0 < cmpZ (zi t b) 0) = true := decide_eq_true c1
  have D1 := Aside0.mk c1
  clear c1
  go_enter Tryz.func40, Tryz.ntmps40
  go_wp2_with (first | ((with_reducible refine gate_dst (N := 3) rfl ?_); refine box_event (by rfl) (N := 3) (by rfl) (cs := #[.bool t, .slice B l d]) (t := 32) ?hr ?_; (case hr => first | (go_simp; done) | (go_simp; rfl)); intro g3 hgx w2 hbx hb; have B3 := As hbx; have NE2_3 := Nn B2 hgx; have G3 := Gg HB hgx; replace B2 := Bb B2 hb; replace HB := Ob HB hb; clear hbx hb hgx) | ((with_reducible refine gate_dst (N := 2) rfl ?_); refine box_event (by rfl) (N := 2) (by rfl) (cs := #[.bool s, .slice A k c]) (t := 32) ?hr ?_; (case hr => first | (go_simp; done) | (go_simp; rfl)); intro g2 hgx w1 hbx hb; have B2 := As hbx; have G2 := Gg HB hgx; replace HB := Ob HB hb; clear hbx hb hgx))
  replace B2 := Bd B2
  replace B3 := Bd B3
  replace HB := Od HB
  refine start_ (n := 6) (S := fun w' => w'.cell? ⟨g2, 0, none⟩ = some (.bool s) ∧ w'.cell? ⟨g2, 1, none⟩ = some (.slice A k c) ∧ w'.cell? ⟨g3, 0, none⟩ = some (.bool t) ∧ w'.cell? ⟨g3, 1, none⟩ = some (.slice B l d)) (ds := []) (Bt 6 0) (by kernel_rfl) rfl (by kernel_rfl) ⟨Cl0 B2, Cl1 B2, Cl0 B3, Cl1 B3⟩ (fun hHeld => ?_)
  generalize w2.drew = w3 at hHeld B2 B3 HB ⊢
  refine take_ (i := 0) (N := some 7) (v := ?_) (a' := ?_) (Bt 6 1) rfl rfl (by kernel_rfl) (fun _ _ _ h => h) (Or.inl ⟨by rfl, ?_⟩) hHeld ?_ ?_
  rotate_left
  ·
   rintro w' ⟨s0, s1, s2, s3⟩
   go_simp
   with_reducible rfl
  rotate_left
  ·
   simp only [Nrm, Option.some.injEq, List.setIfInBounds_toArray, List.set_cons_zero, List.set_cons_succ, i64_w, i32_w]
   rfl
  refine take_ (i := 2) (N := some 9) (v := ?_) (a' := ?_) (Bt 6 5) rfl rfl (by kernel_rfl) (fun _ _ _ h => h) (Or.inl ⟨by rfl, ?_⟩) hHeld ?_ ?_
  rotate_left
  ·
   rintro w' ⟨s0, s1, s2, s3⟩
   go_simp
   with_reducible rfl
  rotate_left
  ·
   simp only [Nrm, Option.some.injEq, List.setIfInBounds_toArray, List.set_cons_zero, List.set_cons_succ, i64_w, i32_w]
   rfl
  refine one_ (i := 1) (N := some 8) (Bt 6 7) rfl rfl (by kernel_rfl) (by decide) (fun K hK => ?_)
  refine goes_ Tryz.func42 (by kernel_rfl) rfl #[.agg #[.bool s, .slice A k c]] (by rfl) rfl rfl (by (try simp only [List.map_toArray, List.map_cons, List.map_nil]); first | done | rfl) ?_
  with_reducible refine (integer_Sign.run s _ _ _ a L1 _ (H91.1.be HB.1) (by have := HL.out; omega)).mono ?_
  rintro e w9 ⟨rfl, hb⟩
  refine ⟨_, rfl, ?_⟩
  replace B2 := Bb B2 hb
  replace B3 := Bb B3 hb
  replace HB := Ob HB hb
  clear hb
  refine hK.out _ _ ⟨Cl0 B2, Cl1 B2, Cl0 B3, Cl1 B3⟩ (fun hHeld => ?_)
  clear hK K
  refine norm_ (a' := ?_) ?_ ?_
  rotate_left
  ·
   show Act.put _ (some 8) _ = _
   simp only [Nrm, Option.some.injEq, List.setIfInBounds_toArray, List.set_cons_zero, List.set_cons_succ, i64_w, i32_w]
   rfl
  refine one_ (i := 3) (N := some 10) (Bt 6 15) rfl rfl (by kernel_rfl) (by decide) (fun K hK => ?_)
  refine goes_ Tryz.func42 (by kernel_rfl) rfl #[.agg #[.bool t, .slice B l d]] (by rfl) rfl rfl (by (try simp only [List.map_toArray, List.map_cons, List.map_nil]); first | done | rfl) ?_
  with_reducible refine (integer_Sign.run t _ _ _ b L2 _ (H92.1.be HB.1) (by have := HL.out; omega)).mono ?_
  rintro e w19 ⟨rfl, hb⟩
  refine ⟨_, rfl, ?_⟩
  replace B2 := Bb B2 hb
  replace B3 := Bb B3 hb
  replace HB := Ob HB hb
  clear hb
  refine hK.out _ _ ⟨Cl0 B2, Cl1 B2, Cl0 B3, Cl1 B3⟩ (fun hHeld => ?_)
  clear hK K
  refine norm_ (a' := ?_) ?_ ?_
  rotate_left
  ·
   show Act.put _ (some 10) _ = _
   simp only [Nrm, Option.some.injEq, List.setIfInBounds_toArray, List.set_cons_zero, List.set_cons_succ, i64_w, i32_w]
   rfl
  refine pure_ (i := 4) (N := some 5) (v := ?_) (a' := ?_) (Bt 6 31) rfl rfl (by kernel_rfl) (fun _ _ _ h => h) (Or.inl ⟨by rfl, ?_⟩) ?_ ?_
  rotate_left
  ·
   intro w'
   go_simp
   with_reducible rfl
  rotate_left
  ·
   simp only [Nrm, Option.some.injEq, List.setIfInBounds_toArray, List.set_cons_zero, List.set_cons_succ, i64_w, i32_w]
   rfl
  refine pure_ (i := 5) (N := some 6) (v := ?_) (a' := ?_) (Bt 6 63) rfl rfl (by kernel_rfl) (fun _ _ _ h => h) (Or.inl ⟨by rfl, ?_⟩) ?_ ?_
  rotate_left
  ·
   intro w'
   go_simp
   with_reducible rfl
  rotate_left
  ·
   simp only [Nrm, Option.some.injEq, List.setIfInBounds_toArray, List.set_cons_zero, List.set_cons_succ, i64_w, i32_w]
   rfl
  refine done_ (by kernel_rfl) ?_
  go_wp2
  go_ret
  refine ⟨?_, HB.out⟩
  rw [← cmp_less D1.out]
  rfl
 ·
  by_cases c2 : cmpZ (zi t b) 0 < cmpZ (zi s a) 0
  ·
   have k1 : decide (cmpZ (zi s a) 0 < cmpZ (zi t b) 0) = false := decide_eq_false c1
   have k2 : decide (cmpZ (zi t b) 0 < cmpZ (zi s a) 0) = true := decide_eq_true c2
   have D1 := Aside0.mk c2
   clear c1 c2
   go_enter Tryz.func40, Tryz.ntmps40
   go_wp2_with (first | ((with_reducible refine gate_dst (N := 3) rfl ?_); refine box_event (by rfl) (N := 3) (by rfl) (cs := #[.bool t, .slice B l d]) (t := 32) ?hr ?_; (case hr => first | (go_simp; done) | (go_simp; rfl)); intro g3 hgx w2 hbx hb; have B3 := As hbx; have NE2_3 := Nn B2 hgx; have G3 := Gg HB hgx; replace B2 := Bb B2 hb; replace HB := Ob HB hb; clear hbx hb hgx) | ((with_reducible refine gate_dst (N := 2) rfl ?_); refine box_event (by rfl) (N := 2) (by rfl) (cs := #[.bool s, .slice A k c]) (t := 32) ?hr ?_; (case hr => first | (go_simp; done) | (go_simp; rfl)); intro g2 hgx w1 hbx hb; have B2 := As hbx; have G2 := Gg HB hgx; replace HB := Ob HB hb; clear hbx hb hgx))
   replace B2 := Bd B2
   replace B3 := Bd B3
   replace HB := Od HB
   refine start_ (n := 6) (S := fun w' => w'.cell? ⟨g2, 0, none⟩ = some (.bool s) ∧ w'.cell? ⟨g2, 1, none⟩ = some (.slice A k c) ∧ w'.cell? ⟨g3, 0, none⟩ = some (.bool t) ∧ w'.cell? ⟨g3, 1, none⟩ = some (.slice B l d)) (ds := []) (Bt 6 0) (by kernel_rfl) rfl (by kernel_rfl) ⟨Cl0 B2, Cl1 B2, Cl0 B3, Cl1 B3⟩ (fun hHeld => ?_)
   generalize w2.drew = w3 at hHeld B2 B3 HB ⊢
   refine take_ (i := 0) (N := some 7) (v := ?_) (a' := ?_) (Bt 6 1) rfl rfl (by kernel_rfl) (fun _ _ _ h => h) (Or.inl ⟨by rfl, ?_⟩) hHeld ?_ ?_
   rotate_left
   ·
    rintro w' ⟨s0, s1, s2, s3⟩
    go_simp
    with_reducible rfl
   rotate_left
   ·
    simp only [Nrm, Option.some.injEq, List.setIfInBounds_toArray, List.set_cons_zero, List.set_cons_succ, i64_w, i32_w]
    rfl
   refine take_ (i := 2) (N := some 9) (v := ?_) (a' := ?_) (Bt 6 5) rfl rfl (by kernel_rfl) (fun _ _ _ h => h) (Or.inl ⟨by rfl, ?_⟩) hHeld ?_ ?_
   rotate_left
   ·
    rintro w' ⟨s0, s1, s2, s3⟩
    go_simp
    with_reducible rfl
   rotate_left
   ·
    simp only [Nrm, Option.some.injEq, List.setIfInBounds_toArray, List.set_cons_zero, List.set_cons_succ, i64_w, i32_w]
    rfl
   refine one_ (i := 1) (N := some 8) (Bt 6 7) rfl rfl (by kernel_rfl) (by decide) (fun K hK => ?_)
   refine goes_ Tryz.func42 (by kernel_rfl) rfl #[.agg #[.bool s, .slice A k c]] (by rfl) rfl rfl (by (try simp only [List.map_toArray, List.map_cons, List.map_nil]); first | done | rfl) ?_
   with_reducible refine (integer_Sign.run s _ _ _ a L1 _ (H91.1.be HB.1) (by have := HL.out; omega)).mono ?_
   rintro e w9 ⟨rfl, hb⟩
   refine ⟨_, rfl, ?_⟩
   replace B2 := Bb B2 hb
   replace B3 := Bb B3 hb
   replace HB := Ob HB hb
   clear hb
   refine hK.out _ _ ⟨Cl0 B2, Cl1 B2, Cl0 B3, Cl1 B3⟩ (fun hHeld => ?_)
   clear hK K
   refine norm_ (a' := ?_) ?_ ?_
   rotate_left
   ·
    show Act.put _ (some 8) _ = _
    simp only [Nrm, Option.some.injEq, List.setIfInBounds_toArray, List.set_cons_zero, List.set_cons_succ, i64_w, i32_w]
    rfl
   refine one_ (i := 3) (N := some 10) (Bt 6 15) rfl rfl (by kernel_rfl) (by decide) (fun K hK => ?_)
   refine goes_ Tryz.func42 (by kernel_rfl) rfl #[.agg #[.bool t, .slice B l d]] (by rfl) rfl rfl (by (try simp only [List.map_toArray, List.map_cons, List.map_nil]); first | done | rfl) ?_
   with_reducible refine (integer_Sign.run t _ _ _ b L2 _ (H92.1.be HB.1) (by have := HL.out; omega)).mono ?_
   rintro e w19 ⟨rfl, hb⟩
   refine ⟨_, rfl, ?_⟩
   replace B2 := Bb B2 hb
   replace B3 := Bb B3 hb
   replace HB := Ob HB hb
   clear hb
   refine hK.out _ _ ⟨Cl0 B2, Cl1 B2, Cl0 B3, Cl1 B3⟩ (fun hHeld => ?_)
   clear hK K
   refine norm_ (a' := ?_) ?_ ?_
   rotate_left
   ·
    show Act.put _ (some 10) _ = _
    simp only [Nrm, Option.some.injEq, List.setIfInBounds_toArray, List.set_cons_zero, List.set_cons_succ, i64_w, i32_w]
    rfl
   refine pure_ (i := 4) (N := some 5) (v := ?_) (a' := ?_) (Bt 6 31) rfl rfl (by kernel_rfl) (fun _ _ _ h => h) (Or.inl ⟨by rfl, ?_⟩) ?_ ?_
   rotate_left
   ·
    intro w'
    go_simp
    with_reducible rfl
   rotate_left
   ·
    simp only [Nrm, Option.some.injEq, List.setIfInBounds_toArray, List.set_cons_zero, List.set_cons_succ, i64_w, i32_w]
    rfl
   refine pure_ (i := 5) (N := some 6) (v := ?_) (a' := ?_) (Bt 6 63) rfl rfl (by kernel_rfl) (fun _ _ _ h => h) (Or.inl ⟨by rfl, ?_⟩) ?_ ?_
   rotate_left
   ·
    intro w'
    go_simp
    with_reducible rfl
   rotate_left
   ·
    simp only [Nrm, Option.some.injEq, List.setIfInBounds_toArray, List.set_cons_zero, List.set_cons_succ, i64_w, i32_w]
    rfl
   refine done_ (by kernel_rfl) ?_
   go_wp2
   go_ret
   refine ⟨?_, HB.out⟩
   rw [← cmp_more D1.out]
   rfl
  ·
   by_cases c3 : cmpZ (zi s a) 0 < 0
   ·
    have k1 : decide (cmpZ (zi s a) 0 < cmpZ (zi t b) 0) = false := decide_eq_false c1
    have k2 : decide (cmpZ (zi t b) 0 < cmpZ (zi s a) 0) = false := decide_eq_false c2
    have k3 : decide (cmpZ (zi s a) 0 < 0) = true := decide_eq_true c3
    have D1 := Aside0.mk (And.intro (Int.not_lt.1 c1) (And.intro (Int.not_lt.1 c2) c3))
    clear c1 c2 c3
    go_enter Tryz.func40, Tryz.ntmps40
    go_wp2_with (first | ((with_reducible refine gate_dst (N := 3) rfl ?_); refine box_event (by rfl) (N := 3) (by rfl) (cs := #[.bool t, .slice B l d]) (t := 32) ?hr ?_; (case hr => first | (go_simp; done) | (go_simp; rfl)); intro g3 hgx w2 hbx hb; have B3 := As hbx; have NE2_3 := Nn B2 hgx; have G3 := Gg HB hgx; replace B2 := Bb B2 hb; replace HB := Ob HB hb; clear hbx hb hgx) | ((with_reducible refine gate_dst (N := 2) rfl ?_); refine box_event (by rfl) (N := 2) (by rfl) (cs := #[.bool s, .slice A k c]) (t := 32) ?hr ?_; (case hr => first | (go_simp; done) | (go_simp; rfl)); intro g2 hgx w1 hbx hb; have B2 := As hbx; have G2 := Gg HB hgx; replace HB := Ob HB hb; clear hbx hb hgx))
    replace B2 := Bd B2
    replace B3 := Bd B3
    replace HB := Od HB
    refine start_ (n := 6) (S := fun w' => w'.cell? ⟨g2, 0, none⟩ = some (.bool s) ∧ w'.cell? ⟨g2, 1, none⟩ = some (.slice A k c) ∧ w'.cell? ⟨g3, 0, none⟩ = some (.bool t) ∧ w'.cell? ⟨g3, 1, none⟩ = some (.slice B l d)) (ds := []) (Bt 6 0) (by kernel_rfl) rfl (by kernel_rfl) ⟨Cl0 B2, Cl1 B2, Cl0 B3, Cl1 B3⟩ (fun hHeld => ?_)
    generalize w2.drew = w3 at hHeld B2 B3 HB ⊢
    refine take_ (i := 0) (N := some 7) (v := ?_) (a' := ?_) (Bt 6 1) rfl rfl (by kernel_rfl) (fun _ _ _ h => h) (Or.inl ⟨by rfl, ?_⟩) hHeld ?_ ?_
    rotate_left
    ·
     rintro w' ⟨s0, s1, s2, s3⟩
     go_simp
     with_reducible rfl
    rotate_left
    ·
     simp only [Nrm, Option.some.injEq, List.setIfInBounds_toArray, List.set_cons_zero, List.set_cons_succ, i64_w, i32_w]
     rfl
    refine take_ (i := 2) (N := some 9) (v := ?_) (a' := ?_) (Bt 6 5) rfl rfl (by kernel_rfl) (fun _ _ _ h => h) (Or.inl ⟨by rfl, ?_⟩) hHeld ?_ ?_
    rotate_left
    ·
     rintro w' ⟨s0, s1, s2, s3⟩
     go_simp
     with_reducible rfl
    rotate_left
    ·
     simp only [Nrm, Option.some.injEq, List.setIfInBounds_toArray, List.set_cons_zero, List.set_cons_succ, i64_w, i32_w]
     rfl
    refine one_ (i := 1) (N := some 8) (Bt 6 7) rfl rfl (by kernel_rfl) (by decide) (fun K hK => ?_)
    refine goes_ Tryz.func42 (by kernel_rfl) rfl #[.agg #[.bool s, .slice A k c]] (by rfl) rfl rfl (by (try simp only [List.map_toArray, List.map_cons, List.map_nil]); first | done | rfl) ?_
    with_reducible refine (integer_Sign.run s _ _ _ a L1 _ (H91.1.be HB.1) (by have := HL.out; omega)).mono ?_
    rintro e w9 ⟨rfl, hb⟩
    refine ⟨_, rfl, ?_⟩
    replace B2 := Bb B2 hb
    replace B3 := Bb B3 hb
    replace HB := Ob HB hb
    clear hb
    refine hK.out _ _ ⟨Cl0 B2, Cl1 B2, Cl0 B3, Cl1 B3⟩ (fun hHeld => ?_)
    clear hK K
    refine norm_ (a' := ?_) ?_ ?_
    rotate_left
    ·
     show Act.put _ (some 8) _ = _
     simp only [Nrm, Option.some.injEq, List.setIfInBounds_toArray, List.set_cons_zero, List.set_cons_succ, i64_w, i32_w]
     rfl
    refine one_ (i := 3) (N := some 10) (Bt 6 15) rfl rfl (by kernel_rfl) (by decide) (fun K hK => ?_)
    refine goes_ Tryz.func42 (by kernel_rfl) rfl #[.agg #[.bool t, .slice B l d]] (by rfl) rfl rfl (by (try simp only [List.map_toArray, List.map_cons, List.map_nil]); first | done | rfl) ?_
    with_reducible refine (integer_Sign.run t _ _ _ b L2 _ (H92.1.be HB.1) (by have := HL.out; omega)).mono ?_
    rintro e w19 ⟨rfl, hb⟩
    refine ⟨_, rfl, ?_⟩
    replace B2 := Bb B2 hb
    replace B3 := Bb B3 hb
    replace HB := Ob HB hb
    clear hb
    refine hK.out _ _ ⟨Cl0 B2, Cl1 B2, Cl0 B3, Cl1 B3⟩ (fun hHeld => ?_)
    clear hK K
    refine norm_ (a' := ?_) ?_ ?_
    rotate_left
    ·
     show Act.put _ (some 10) _ = _
     simp only [Nrm, Option.some.injEq, List.setIfInBounds_toArray, List.set_cons_zero, List.set_cons_succ, i64_w, i32_w]
     rfl
    refine pure_ (i := 4) (N := some 5) (v := ?_) (a' := ?_) (Bt 6 31) rfl rfl (by kernel_rfl) (fun _ _ _ h => h) (Or.inl ⟨by rfl, ?_⟩) ?_ ?_
    rotate_left
    ·
     intro w'
     go_simp
     with_reducible rfl
    rotate_left
    ·
     simp only [Nrm, Option.some.injEq, List.setIfInBounds_toArray, List.set_cons_zero, List.set_cons_succ, i64_w, i32_w]
     rfl
    refine pure_ (i := 5) (N := some 6) (v := ?_) (a' := ?_) (Bt 6 63) rfl rfl (by kernel_rfl) (fun _ _ _ h => h) (Or.inl ⟨by rfl, ?_⟩) ?_ ?_
    rotate_left
    ·
     intro w'
     go_simp
     with_reducible rfl
    rotate_left
    ·
     simp only [Nrm, Option.some.injEq, List.setIfInBounds_toArray, List.set_cons_zero, List.set_cons_succ, i64_w, i32_w]
     rfl
    refine done_ (by kernel_rfl) ?_
    (try clear cb3_1)
    have cb3_1 := Cl1 B3
    (try clear cb2_1)
    have cb2_1 := Cl1 B2
    go_wp2_with (first | (go_at_call 68; (with_reducible refine (nat_Cmp.run _ _ b a (L2 + L1) _ ((H92.1.be HB.1).mono (by omega)) ((H91.1.be HB.1).mono (by omega)) (by have := HL.out; omega)).mono ?_); rintro e w34 ⟨rfl, nd34, hw⟩; have hb : Below w19.heap.size w19 w34 := (by rw [hw]; exact below_drewN' _ _); clear hw; replace B2 := Bb B2 hb; replace B3 := Bb B3 hb; replace HB := Ob HB hb; clear hb))
    go_ret
    refine ⟨?_, HB.out⟩
    rw [← cmp_neg D1.out.1 D1.out.2.1 D1.out.2.2]
    rfl
   ·
    have k1 : decide (cmpZ (zi s a) 0 < cmpZ (zi t b) 0) = false := decide_eq_false c1
    have k2 : decide (cmpZ (zi t b) 0 < cmpZ (zi s a) 0) = false := decide_eq_false c2
    have k3 : decide (cmpZ (zi s a) 0 < 0) = false := decide_eq_false c3
    have D1 := Aside0.mk (And.intro (Int.not_lt.1 c1) (And.intro (Int.not_lt.1 c2) (Int.not_lt.1 c3)))
    clear c1 c2 c3
    go_enter Tryz.func40, Tryz.ntmps40
    go_wp2_with (first | ((with_reducible refine gate_dst (N := 3) rfl ?_); refine box_event (by rfl) (N := 3) (by rfl) (cs := #[.bool t, .slice B l d]) (t := 32) ?hr ?_; (case hr => first | (go_simp; done) | (go_simp; rfl)); intro g3 hgx w2 hbx hb; have B3 := As hbx; have NE2_3 := Nn B2 hgx; have G3 := Gg HB hgx; replace B2 := Bb B2 hb; replace HB := Ob HB hb; clear hbx hb hgx) | ((with_reducible refine gate_dst (N := 2) rfl ?_); refine box_event (by rfl) (N := 2) (by rfl) (cs := #[.bool s, .slice A k c]) (t := 32) ?hr ?_; (case hr => first | (go_simp; done) | (go_simp; rfl)); intro g2 hgx w1 hbx hb; have B2 := As hbx; have G2 := Gg HB hgx; replace HB := Ob HB hb; clear hbx hb hgx))
    replace B2 := Bd B2
    replace B3 := Bd B3
    replace HB := Od HB
    refine start_ (n := 6) (S := fun w' => w'.cell? ⟨g2, 0, none⟩ = some (.bool s) ∧ w'.cell? ⟨g2, 1, none⟩ = some (.slice A k c) ∧ w'.cell? ⟨g3, 0, none⟩ = some (.bool t) ∧ w'.cell? ⟨g3, 1, none⟩ = some (.slice B l d)) (ds := []) (Bt 6 0) (by kernel_rfl) rfl (by kernel_rfl) ⟨Cl0 B2, Cl1 B2, Cl0 B3, Cl1 B3⟩ (fun hHeld => ?_)
    generalize w2.drew = w3 at hHeld B2 B3 HB ⊢
    refine take_ (i := 0) (N := some 7) (v := ?_) (a' := ?_) (Bt 6 1) rfl rfl (by kernel_rfl) (fun _ _ _ h => h) (Or.inl ⟨by rfl, ?_⟩) hHeld ?_ ?_
    rotate_left
    ·
     rintro w' ⟨s0, s1, s2, s3⟩
     go_simp
     with_reducible rfl
    rotate_left
    ·
     simp only [Nrm, Option.some.injEq, List.setIfInBounds_toArray, List.set_cons_zero, List.set_cons_succ, i64_w, i32_w]
     rfl
    refine take_ (i := 2) (N := some 9) (v := ?_) (a' := ?_) (Bt 6 5) rfl rfl (by kernel_rfl) (fun _ _ _ h => h) (Or.inl ⟨by rfl, ?_⟩) hHeld ?_ ?_
    rotate_left
    ·
     rintro w' ⟨s0, s1, s2, s3⟩
     go_simp
     with_reducible rfl
    rotate_left
    ·
     simp only [Nrm, Option.some.injEq, List.setIfInBounds_toArray, List.set_cons_zero, List.set_cons_succ, i64_w, i32_w]
     rfl
    refine one_ (i := 1) (N := some 8) (Bt 6 7) rfl rfl (by kernel_rfl) (by decide) (fun K hK => ?_)
    refine goes_ Tryz.func42 (by kernel_rfl) rfl #[.agg #[.bool s, .slice A k c]] (by rfl) rfl rfl (by (try simp only [List.map_toArray, List.map_cons, List.map_nil]); first | done | rfl) ?_
    with_reducible refine (integer_Sign.run s _ _ _ a L1 _ (H91.1.be HB.1) (by have := HL.out; omega)).mono ?_
    rintro e w9 ⟨rfl, hb⟩
    refine ⟨_, rfl, ?_⟩
    replace B2 := Bb B2 hb
    replace B3 := Bb B3 hb
    replace HB := Ob HB hb
    clear hb
    refine hK.out _ _ ⟨Cl0 B2, Cl1 B2, Cl0 B3, Cl1 B3⟩ (fun hHeld => ?_)
    clear hK K
    refine norm_ (a' := ?_) ?_ ?_
    rotate_left
    ·
     show Act.put _ (some 8) _ = _
     simp only [Nrm, Option.some.injEq, List.setIfInBounds_toArray, List.set_cons_zero, List.set_cons_succ, i64_w, i32_w]
     rfl
    refine one_ (i := 3) (N := some 10) (Bt 6 15) rfl rfl (by kernel_rfl) (by decide) (fun K hK => ?_)
    refine goes_ Tryz.func42 (by kernel_rfl) rfl #[.agg #[.bool t, .slice B l d]] (by rfl) rfl rfl (by (try simp only [List.map_toArray, List.map_cons, List.map_nil]); first | done | rfl) ?_
    with_reducible refine (integer_Sign.run t _ _ _ b L2 _ (H92.1.be HB.1) (by have := HL.out; omega)).mono ?_
    rintro e w19 ⟨rfl, hb⟩
    refine ⟨_, rfl, ?_⟩
    replace B2 := Bb B2 hb
    replace B3 := Bb B3 hb
    replace HB := Ob HB hb
    clear hb
    refine hK.out _ _ ⟨Cl0 B2, Cl1 B2, Cl0 B3, Cl1 B3⟩ (fun hHeld => ?_)
    clear hK K
    refine norm_ (a' := ?_) ?_ ?_
    rotate_left
    ·
     show Act.put _ (some 10) _ = _
     simp only [Nrm, Option.some.injEq, List.setIfInBounds_toArray, List.set_cons_zero, List.set_cons_succ, i64_w, i32_w]
     rfl
    refine pure_ (i := 4) (N := some 5) (v := ?_) (a' := ?_) (Bt 6 31) rfl rfl (by kernel_rfl) (fun _ _ _ h => h) (Or.inl ⟨by rfl, ?_⟩) ?_ ?_
    rotate_left
    ·
     intro w'
     go_simp
     with_reducible rfl
    rotate_left
    ·
     simp only [Nrm, Option.some.injEq, List.setIfInBounds_toArray, List.set_cons_zero, List.set_cons_succ, i64_w, i32_w]
     rfl
    refine pure_ (i := 5) (N := some 6) (v := ?_) (a' := ?_) (Bt 6 63) rfl rfl (by kernel_rfl) (fun _ _ _ h => h) (Or.inl ⟨by rfl, ?_⟩) ?_ ?_
    rotate_left
    ·
     intro w'
     go_simp
     with_reducible rfl
    rotate_left
    ·
     simp only [Nrm, Option.some.injEq, List.setIfInBounds_toArray, List.set_cons_zero, List.set_cons_succ, i64_w, i32_w]
     rfl
    refine done_ (by kernel_rfl) ?_
    (try clear cb2_1)
    have cb2_1 := Cl1 B2
    (try clear cb3_1)
    have cb3_1 := Cl1 B3
    go_wp2_with (first | (go_at_call 68; (with_reducible refine (nat_Cmp.run _ _ a b (L1 + L2) _ ((H91.1.be HB.1).mono (by omega)) ((H92.1.be HB.1).mono (by omega)) (by have := HL.out; omega)).mono ?_); rintro e w34 ⟨rfl, nd34, hw⟩; have hb : Below w19.heap.size w19 w34 := (by rw [hw]; exact below_drewN' _ _); clear hw; replace B2 := Bb B2 hb; replace B3 := Bb B3 hb; replace HB := Ob HB hb; clear hb))
    go_ret
    refine ⟨?_, HB.out⟩
    rw [← cmp_pos D1.out.1 D1.out.2.1 D1.out.2.2]
    rfl
theorem integer_Of.run (n : Int) (w : World) (h0 : -1000000000 ≤ n) (h1 : n ≤ 1000000000) :
  Calls Tryz.prog 47 #[.int .i64 n] w fun e w' => ∃ u A k c, e = .returned (.agg #[.bool u, .slice A k c]) ∧ NC w' (.slice A k c) n.natAbs 2 ∧ zi u n.natAbs = n ∧ (u = true → n.natAbs ≠ 0) ∧ Below w.heap.size w w' := by
 have HB := Aside0.mk (Below.refl w.heap.size w)
 obtain ⟨m, hm⟩ : ∃ m, n.natAbs = m := ⟨_, rfl⟩
 rw [hm]
 have HM := Aside0.mk (show m < 18446744073709551616 by omega)
 by_cases c : n < 0
 ·
  have k1 : decide (n < 0) = true := decide_eq_true c
  obtain ⟨n1, hn1⟩ : ∃ x, IntKind.i64.wrap (n + 1) = x := ⟨_, rfl⟩
  obtain ⟨n2, hn2⟩ : ∃ x, IntKind.i64.wrap (-n1) = x := ⟨_, rfl⟩
  have e1 : n1 = n + 1 := by rw [← hn1, i64_w]; unfold wrap64; omega
  have e2 : n2 = -n1 := by rw [← hn2, i64_w]; unfold wrap64; omega
  have hn3 : IntKind.u64.wrap n2 = n2 := u64_small _ (by omega) (by omega)
  have hn4 : IntKind.u64.wrap (n2 + 1) = (m : Int) := by rw [u64_small _ (by omega) (by omega)]; omega
  have HE := Aside0.mk (show n < 0 ∧ n = -(m : Int) from ⟨c, by omega⟩)
  clear hm c e1 e2 h0 h1
  go_enter Tryz.func47, Tryz.ntmps47
  go_wp2_with (first | ((with_reducible refine gate_store (t := 32) (p := 2) rfl ?_); refine Sto (t := 32) (p := 2) (by rfl) (.tmp 11) (by rfl) (by rfl) g2 #[.bool true, .slice A2 k2 c2] (by rfl) (by first | rfl | (go_simp; done) | (go_simp; rfl)) B2 (by kernel_rfl) rfl (by kernel_rfl) ?_; intro w4 ho hB2; replace H3 := As (H3.1.o2 ho B2); replace HB := Lo HB ho G2; replace B2 := hB2; clear ho hB2) | (go_at_call 67; (with_reducible refine (nat_Of.run m _ HM.out).mono ?_); rintro e w2 ⟨r2, rfl, hr2, hb⟩; obtain ⟨A2, k2, c2, rfl⟩ := hr2.sl; have H3 := Aside0.mk hr2; clear hr2; replace B2 := Bb B2 hb; replace HB := Ob HB hb; clear hb) | ((with_reducible refine gate_dst (N := 2) rfl ?_); refine box_event (by rfl) (N := 2) (by rfl) (cs := #[.bool false, .slice none 0 0]) (t := 32) ?hr ?_; (case hr => first | (go_simp; done) | (go_simp; rfl)); intro g2 hgx w1 hbx hb; have B2 := As hbx; have G2 := Gg HB hgx; replace HB := Ob HB hb; clear hbx hb hgx))
  try simp only [Exit.inBlock, Exit.then]
  refine bodyPost_ret (results_cell_row rfl _ _ g2 32 #[.bool true, .slice A2 k2 c2] (0, 0) _ rfl B2.out Tryz.underlying32 rfl (by kernel_rfl)) rfl ?_
  refine ⟨_, _, _, _, rfl, H3.1, ?_, ?_, HB.out⟩
  ·
   have := HE.out; unfold zi; simp; omega
  ·
   have := HE.out; intro h; first | (simp at h; done) | omega
 ·
  have k1 : decide (n < 0) = false := decide_eq_false c
  have hn4 : IntKind.u64.wrap n = (m : Int) := by rw [u64_small _ (by omega) (by omega)]; omega
  have HE := Aside0.mk (show n = (m : Int) by omega)
  clear hm c h0 h1
  go_enter Tryz.func47, Tryz.ntmps47
  go_wp2_with (first | ((with_reducible refine gate_store (t := 32) (p := 2) rfl ?_); refine Sto (t := 32) (p := 2) (by rfl) (.tmp 15) (by rfl) (by rfl) g2 #[.bool false, .slice A2 k2 c2] (by rfl) (by first | rfl | (go_simp; done) | (go_simp; rfl)) B2 (by kernel_rfl) rfl (by kernel_rfl) ?_; intro w4 ho hB2; replace H3 := As (H3.1.o2 ho B2); replace HB := Lo HB ho G2; replace B2 := hB2; clear ho hB2) | (go_at_call 67; (with_reducible refine (nat_Of.run m _ HM.out).mono ?_); rintro e w2 ⟨r2, rfl, hr2, hb⟩; obtain ⟨A2, k2, c2, rfl⟩ := hr2.sl; have H3 := Aside0.mk hr2; clear hr2; replace B2 := Bb B2 hb; replace HB := Ob HB hb; clear hb) | ((with_reducible refine gate_dst (N := 2) rfl ?_); refine box_event (by rfl) (N := 2) (by rfl) (cs := #[.bool false, .slice none 0 0]) (t := 32) ?hr ?_; (case hr => first | (go_simp; done) | (go_simp; rfl)); intro g2 hgx w1 hbx hb; have B2 := As hbx; have G2 := Gg HB hgx; replace HB := Ob HB hb; clear hbx hb hgx))
  try simp only [Exit.inBlock, Exit.then]
  refine bodyPost_ret (results_cell_row rfl _ _ g2 32 #[.bool false, .slice A2 k2 c2] (0, 0) _ rfl B2.out Tryz.underlying32 rfl (by kernel_rfl)) rfl ?_
  refine ⟨_, _, _, _, rfl, H3.1, ?_, ?_, HB.out⟩
  ·
   have := HE.out; unfold zi; simp; omega
  ·
   have := HE.out; intro h; first | (simp at h; done) | omega
end Go.Proofs.YtnmfmiemkcaocaaGreat.Hand
namespace Go.Proofs.YtnmfmiemkcaocaaGreat.Hand
open Go.RowKit Go.Proofs.YtnmfmiemkcaocaaGreatW.PrintWords Go.Proofs.YtnmfmiemkcaocaaGreatW.PrintLast Go.Proofs.YtnmfmiemkcaocaaGreatW.PrintMore
set_option linter.unusedVariables false
set_option linter.unusedSimpArgs false
def pn (s : Bool) (a b : Nat) : Int := if b = 0 then 0 else zi s a
def pd (b : Nat) : Nat := if b = 0 then 1 else b
theorem pd_pos (b : Nat) : 0 < pd b := by unfold pd; split <;> omega
theorem gcd_cross (a b : Nat) : a / Nat.gcd a b * b = a * (b / Nat.gcd a b) := by
 rw [Nat.div_mul_right_comm (Nat.gcd_dvd_left a b), Nat.mul_div_assoc _ (Nat.gcd_dvd_right a b)]
theorem zi_cross (s : Bool) (a b : Nat) : zi s (a / Nat.gcd a b) * (b : Int) = zi s a * ((b / Nat.gcd a b : Nat) : Int) := by
 have h := gcd_cross a b
 have h2 : ((a / Nat.gcd a b : Nat) : Int) * (b : Int) = (a : Int) * ((b / Nat.gcd a b : Nat) : Int) := by rw [← Int.natCast_mul, ← Int.natCast_mul, h]
 cases s
 ·
  exact h2
 ·
  show -((a / Nat.gcd a b : Nat) : Int) * (b : Int) = -(a : Int) * ((b / Nat.gcd a b : Nat) : Int)
  rw [Int.neg_mul, Int.neg_mul, h2]
theorem ratio_zero.run (w : World) :
  Calls Tryz.prog 71 #[] w fun e w' => ∃ A k c, e = .returned (.agg #[.bool false, .slice none 0 0, .slice A k c]) ∧ NC w' (.slice A k c) 1 2 ∧ Below w.heap.size w w' := by
 have HB := Aside0.mk (Below.refl w.heap.size w)
 go_enter Tryz.func71, Tryz.ntmps71
 go_wp2_with (first | ((with_reducible refine gate_store (t := 34) (p := 0) rfl ?_); refine Sto (t := 34) (p := 0) (by rfl) (.tmp 2) (by rfl) (by rfl) g0 #[.bool false, .slice none 0 0, .slice A2 k2 c2] (by rfl) (by first | rfl | (go_simp; done) | (go_simp; rfl)) B0 (by kernel_rfl) rfl (by kernel_rfl) ?_; intro w4 ho hB2; replace H3 := As (H3.1.o3 ho B0); replace HB := Lo HB ho G0; replace B0 := hB2; clear ho hB2) | (go_at_call 67; (with_reducible refine (nat_Of1.run _).mono ?_); rintro e w2 ⟨r2, rfl, hr2, hb⟩; obtain ⟨A2, k2, c2, rfl⟩ := hr2.sl; have H3 := Aside0.mk hr2; clear hr2; replace B0 := Bb B0 hb; replace HB := Ob HB hb; clear hb) | ((with_reducible refine gate_dst (N := 0) rfl ?_); refine box_event (by rfl) (N := 0) (by rfl) (cs := #[.bool false, .slice none 0 0, .slice none 0 0]) (t := 34) ?hr ?_; (case hr => first | (go_simp; done) | (go_simp; rfl)); intro g0 hgx w1 hbx hb; have B0 := As hbx; have G0 := Gg HB hgx; replace HB := Ob HB hb; clear hbx hb hgx))
 try simp only [Exit.inBlock, Exit.then]
 refine bodyPost_ret (results_cell_row rfl _ _ g0 34 #[.bool false, .slice none 0 0, .slice A2 k2 c2] (0, 0) _ rfl B0.out Tryz.underlying34 rfl (by kernel_rfl)) rfl ?_
 exact ⟨_, _, _, rfl, H3.1, HB.out⟩
theorem ratio_lowest.run (s : Bool) (A B : Option Addr) (k c l d a b L1 L2 : Nat) (w : World) (hv : NA w (.slice A k c) a L1) (hu : NA w (.slice B l d) b L2) (hb : 0 < b) (hL : L1 + L2 ≤ 100000000) :
  Calls Tryz.prog 72 #[.agg #[.bool s, .slice A k c], .slice B l d] w fun e w' => ∃ u A k c B l d n m, e = .returned (.agg #[.bool u, .slice A k c, .slice B l d]) ∧ NC w' (.slice A k c) n (L1 + 2) ∧ NC w' (.slice B l d) m (L2 + 2) ∧ 0 < m ∧ zi u n * b = zi s a * m ∧ Below w.heap.size w w' := by
 have HP := Aside0.mk hb
 have H91 := Aside0.mk hv
 have H92 := Aside0.mk hu
 have HL := Aside0.mk hL
 have HB := Aside0.mk (Below.refl w.heap.size w)
 clear hv hu hL
 clear hb
 by_cases ha : a = 0
 ·
  have HA := Aside0.mk ha
  clear ha
  go_enter Tryz.func72, Tryz.ntmps72
  go_wp2_with (first | ((with_reducible refine gate_store (t := 34) (p := 4) rfl ?_); refine Sto (t := 34) (p := 4) (by rfl) (.tmp 25) (by rfl) (by rfl) g4 #[.bool false, .slice none 0 0, .slice A7 k7 c7] (by rfl) (by first | rfl | (go_simp; done) | (go_simp; rfl)) B4 (by kernel_rfl) rfl (by kernel_rfl) ?_; intro w9 ho hB2; replace H4 := As (H4.1.o3 ho B4); replace H8 := As (H8.1.o3 ho B4); replace B2 := Oo B2 ho NE2_4; replace HB := Lo HB ho G4; replace B4 := hB2; clear ho hB2) | (go_at_call 71; (with_reducible refine (ratio_zero.run _).mono ?_); rintro e w7 ⟨A7, k7, c7, rfl, hr7, hb⟩; have H8 := Aside0.mk hr7; clear hr7; replace H4 := As (H4.1.be hb); replace B2 := Bb B2 hb; replace B4 := Bb B4 hb; replace HB := Ob HB hb; clear hb) | (go_at_call 65; (with_reducible refine (nat_Bits.run _ a L1 _ (H91.1.be HB.1) (by have := HL.out; omega)).mono ?_); rintro e w6 ⟨b6, rfl, hw, hi⟩; replace hw := Eq.symm hw; subst hw; have HI6 := Aside0.mk hi; clear hi; have kb6 : (b6 == 0) = true := (by rw [beq_iff_eq]; exact HI6.out.1.2 (HA.out))) | (go_at_call 65; (with_reducible refine (nat_Bits.run _ b L2 _ (H92.1.be HB.1) (by have := HL.out; omega)).mono ?_); rintro e w5 ⟨b5, rfl, hw, hi⟩; replace hw := Eq.symm hw; subst hw; have HI5 := Aside0.mk hi; clear hi; have kb5 : (b5 == 0) = false := (by rw [beq_eq_false_iff_ne]; intro e_; exact (Nat.ne_of_gt HP.out) (HI5.out.1.1 e_)); (try clear cb2_1); have cb2_1 := Cl1 B2) | (go_at_call 99; (with_reducible refine (nat_Gcd.run _ _ a b (L1 + L2) _ ((H91.1.be HB.1).mono (by omega)) ((H92.1.be HB.1).mono (by omega)) (by have := HL.out; omega)).mono ?_); rintro e w3 ⟨r3, rfl, hr3, hb⟩; obtain ⟨A3, k3, c3, rfl⟩ := hr3.sl; have H4 := Aside0.mk hr3; clear hr3; replace B2 := Bb B2 hb; replace B4 := Bb B4 hb; replace HB := Ob HB hb; clear hb) | ((with_reducible refine gate_dst (N := 4) rfl ?_); refine box_event (by rfl) (N := 4) (by rfl) (cs := #[.bool false, .slice none 0 0, .slice none 0 0]) (t := 34) ?hr ?_; (case hr => first | (go_simp; done) | (go_simp; rfl)); intro g4 hgx w2 hbx hb; have B4 := As hbx; have NE2_4 := Nn B2 hgx; have G4 := Gg HB hgx; replace B2 := Bb B2 hb; replace HB := Ob HB hb; clear hbx hb hgx; (try clear cb2_1); have cb2_1 := Cl1 B2) | ((with_reducible refine gate_dst (N := 2) rfl ?_); refine box_event (by rfl) (N := 2) (by rfl) (cs := #[.bool s, .slice A k c]) (t := 32) ?hr ?_; (case hr => first | (go_simp; done) | (go_simp; rfl)); intro g2 hgx w1 hbx hb; have B2 := As hbx; have G2 := Gg HB hgx; replace HB := Ob HB hb; clear hbx hb hgx))
  try simp only [Exit.inBlock, Exit.then]
  refine bodyPost_ret (results_cell_row rfl _ _ g4 34 #[.bool false, .slice none 0 0, .slice A7 k7 c7] (0, 0) _ rfl B4.out Tryz.underlying34 rfl (by kernel_rfl)) rfl ?_
  refine ⟨false, none, 0, 0, _, _, _, 0, 1, rfl, NC.nil _ _, (H8.1).mono (by omega), by omega, ?_, HB.out⟩
  rw [HA.out]
  unfold zi
  cases s <;> simp
 ·
  have HA := Aside0.mk ha
  clear ha
  have HAB := Aside0.mk (And.intro H91.out.lt H92.out.lt)
  go_enter Tryz.func72, Tryz.ntmps72
  go_wp2_with (first | ((with_reducible refine gate_store (t := 34) (p := 4) rfl ?_); refine Sto (t := 34) (p := 4) (by rfl) (.tmp 46) (by rfl) (by rfl) g4 #[.bool s13, .slice A13 k13 c13, .slice A10 k10 c10] (by rfl) (by first | rfl | (go_simp; done) | (go_simp; rfl)) B4 (by kernel_rfl) rfl (by kernel_rfl) ?_; intro w15 ho hB2; replace H4 := As (H4.1.o3 ho B4); replace H8 := As (H8.1.o3 ho B4); replace H9 := As (H9.1.o3 ho B4); replace H11 := As (H11.1.o3 ho B4); replace H12 := As (H12.1.o3 ho B4); replace H14 := As (H14.1.o3 ho B4); replace B2 := Oo B2 ho NE2_4; replace HB := Lo HB ho G4; replace B4 := hB2; clear ho hB2) | (go_at_call 69; (with_reducible refine (integer_Make.run _ _ (a / (Nat.gcd a b)) (L1 + (L1 + L2)) _ H8.1.na (by have := HL.out; omega)).mono ?_); rintro e w13 ⟨s13, A13, k13, c13, rfl, hr13, hz13, hu13, hb⟩; have H14 := Aside0.mk hr13; have Z13 := Aside0.mk (And.intro hz13 hu13); clear hr13 hz13 hu13; replace H4 := As (H4.1.be hb); replace H8 := As (H8.1.be hb); replace H9 := As (H9.1.be hb); replace H11 := As (H11.1.be hb); replace H12 := As (H12.1.be hb); replace B2 := Bb B2 hb; replace B4 := Bb B4 hb; replace HB := Ob HB hb; clear hb) | (go_at_call 100; (with_reducible refine (nat_DivMod.run _ _ b (Nat.gcd a b) (L2 + (L1 + L2)) _ ((H92.1.be HB.1).mono (by omega)) (H4.1.na.mono (by omega)) (Nat.gcd_pos_of_pos_right _ HP.out) (by have := HL.out; omega)).mono ?_); rintro e w10 ⟨q10, r10, rfl, hq10, hr10, hb⟩; obtain ⟨A10, k10, c10, rfl⟩ := hq10.sl; obtain ⟨D10, l10, d10, rfl⟩ := hr10.sl; have H11 := Aside0.mk hq10; have H12 := Aside0.mk hr10; clear hq10 hr10; replace H4 := As (H4.1.be hb); replace H8 := As (H8.1.be hb); replace H9 := As (H9.1.be hb); replace B2 := Bb B2 hb; replace B4 := Bb B4 hb; replace HB := Ob HB hb; clear hb; (try clear cb2_0); have cb2_0 := Cl0 B2) | (go_at_call 100; (with_reducible refine (nat_DivMod.run _ _ a (Nat.gcd a b) (L1 + (L1 + L2)) _ ((H91.1.be HB.1).mono (by omega)) (H4.1.na.mono (by omega)) (Nat.gcd_pos_of_pos_right _ HP.out) (by have := HL.out; omega)).mono ?_); rintro e w7 ⟨q7, r7, rfl, hq7, hr7, hb⟩; obtain ⟨A7, k7, c7, rfl⟩ := hq7.sl; obtain ⟨D7, l7, d7, rfl⟩ := hr7.sl; have H8 := Aside0.mk hq7; have H9 := Aside0.mk hr7; clear hq7 hr7; replace H4 := As (H4.1.be hb); replace B2 := Bb B2 hb; replace B4 := Bb B4 hb; replace HB := Ob HB hb; clear hb) | (go_at_call 65; (with_reducible refine (nat_Bits.run _ a L1 _ (H91.1.be HB.1) (by have := HL.out; omega)).mono ?_); rintro e w6 ⟨b6, rfl, hw, hi⟩; replace hw := Eq.symm hw; subst hw; have HI6 := Aside0.mk hi; clear hi; have kb6 : (b6 == 0) = false := (by rw [beq_eq_false_iff_ne]; intro e_; exact (HA.out) (HI6.out.1.1 e_))) | (go_at_call 65; (with_reducible refine (nat_Bits.run _ b L2 _ (H92.1.be HB.1) (by have := HL.out; omega)).mono ?_); rintro e w5 ⟨b5, rfl, hw, hi⟩; replace hw := Eq.symm hw; subst hw; have HI5 := Aside0.mk hi; clear hi; have kb5 : (b5 == 0) = false := (by rw [beq_eq_false_iff_ne]; intro e_; exact (Nat.ne_of_gt HP.out) (HI5.out.1.1 e_)); (try clear cb2_1); have cb2_1 := Cl1 B2) | (go_at_call 99; (with_reducible refine (nat_Gcd.run _ _ a b (L1 + L2) _ ((H91.1.be HB.1).mono (by omega)) ((H92.1.be HB.1).mono (by omega)) (by have := HL.out; omega)).mono ?_); rintro e w3 ⟨r3, rfl, hr3, hb⟩; obtain ⟨A3, k3, c3, rfl⟩ := hr3.sl; have H4 := Aside0.mk hr3; clear hr3; replace B2 := Bb B2 hb; replace B4 := Bb B4 hb; replace HB := Ob HB hb; clear hb) | ((with_reducible refine gate_dst (N := 4) rfl ?_); refine box_event (by rfl) (N := 4) (by rfl) (cs := #[.bool false, .slice none 0 0, .slice none 0 0]) (t := 34) ?hr ?_; (case hr => first | (go_simp; done) | (go_simp; rfl)); intro g4 hgx w2 hbx hb; have B4 := As hbx; have NE2_4 := Nn B2 hgx; have G4 := Gg HB hgx; replace B2 := Bb B2 hb; replace HB := Ob HB hb; clear hbx hb hgx; (try clear cb2_1); have cb2_1 := Cl1 B2) | ((with_reducible refine gate_dst (N := 2) rfl ?_); refine box_event (by rfl) (N := 2) (by rfl) (cs := #[.bool s, .slice A k c]) (t := 32) ?hr ?_; (case hr => first | (go_simp; done) | (go_simp; rfl)); intro g2 hgx w1 hbx hb; have B2 := As hbx; have G2 := Gg HB hgx; replace HB := Ob HB hb; clear hbx hb hgx))
  try simp only [Exit.inBlock, Exit.then]
  refine bodyPost_ret (results_cell_row rfl _ _ g4 34 #[.bool s13, .slice A13 k13 c13, .slice A10 k10 c10] (0, 0) _ rfl B4.out Tryz.underlying34 rfl (by kernel_rfl)) rfl ?_
  have hx := H14.1
  have hy := H11.1
  refine ⟨_, _, _, _, _, _, _, _, _, rfl, NC.fit hx (Nat.lt_of_le_of_lt (Nat.div_le_self _ _) (Nat.lt_of_lt_of_le HAB.out.1 (pw_le (by omega)))), NC.fit hy (Nat.lt_of_le_of_lt (Nat.div_le_self _ _) (Nat.lt_of_lt_of_le HAB.out.2 (pw_le (by omega)))), Nat.div_pos (Nat.le_of_dvd HP.out (Nat.gcd_dvd_right a b)) (Nat.gcd_pos_of_pos_right _ HP.out), ?_, HB.out⟩
  rw [Z13.out.1]
  exact zi_cross s a b
theorem ratio_parts.run (s : Bool) (A B : Option Addr) (k c l d a b L1 L2 : Nat) (w : World) (hv : NA w (.slice A k c) a L1) (hu : NA w (.slice B l d) b L2) (hL : L1 + L2 ≤ 100000000) :
  Calls Tryz.prog 39 #[.agg #[.bool s, .slice A k c, .slice B l d]] w fun e w' => ∃ u A k c t B l d n m, e = .returned (.tuple #[.agg #[.bool u, .slice A k c], .agg #[.bool t, .slice B l d]]) ∧ NA w' (.slice A k c) n L1 ∧ NC w' (.slice B l d) m (L2 + 2) ∧ zi u n = pn s a b ∧ zi t m = (pd b : Int) ∧ m = pd b ∧ Below w.heap.size w w' := by
 have H91 := Aside0.mk hv
 have H92 := Aside0.mk hu
 have HL := Aside0.mk hL
 have HB := Aside0.mk (Below.refl w.heap.size w)
 clear hv hu hL
 by_cases hb : b = 0
 ·
  have HP := Aside0.mk hb
  clear hb
  go_enter Tryz.func39, Tryz.ntmps39
  go_wp2_with (first | ((with_reducible refine gate_store (t := 32) (p := 3) rfl ?_); refine Sto (t := 32) (p := 3) (by rfl) (.tmp 10) (by rfl) (by rfl) g3 #[.bool s7, .slice A7 k7 c7] (by rfl) (by first | rfl | (go_simp; done) | (go_simp; rfl)) B3 (by kernel_rfl) rfl (by kernel_rfl) ?_; intro w10 ho hB2; replace H6 := As (H6.1.o2 ho B3); replace H8 := As (H8.1.o2 ho B3); replace B1 := Oo B1 ho NE1_3; replace B2 := Oo B2 ho NE2_3; replace HB := Lo HB ho G3; replace B3 := hB2; clear ho hB2) | ((with_reducible refine gate_store (t := 32) (p := 2) rfl ?_); refine Sto (t := 32) (p := 2) (by rfl) (.tmp 8) (by rfl) (by rfl) g2 #[.bool false, .slice none 0 0] (by rfl) (by first | rfl | (go_simp; done) | (go_simp; rfl)) B2 (by kernel_rfl) rfl (by kernel_rfl) ?_; intro w9 ho hB2; replace H6 := As (H6.1.o2 ho B2); replace H8 := As (H8.1.o2 ho B2); replace B1 := Oo B1 ho NE1_2; replace B3 := Ou B3 ho NE2_3; replace HB := Lo HB ho G2; replace B2 := hB2; clear ho hB2) | (go_at_call 66; (with_reducible refine (ratio_whole.run _ _ _ 1 2 _ H6.1.na (by have := HL.out; omega)).mono ?_); rintro e w7 ⟨s7, A7, k7, c7, rfl, hr7, hz7, hu7, hb⟩; have H8 := Aside0.mk hr7; have Z7 := Aside0.mk (And.intro hz7 hu7); clear hr7 hz7 hu7; replace H6 := As (H6.1.be hb); replace B1 := Bb B1 hb; replace B2 := Bb B2 hb; replace B3 := Bb B3 hb; replace HB := Ob HB hb; clear hb) | (go_at_call 67; (with_reducible refine (nat_Of1.run _).mono ?_); rintro e w5 ⟨r5, rfl, hr5, hb⟩; obtain ⟨A5, k5, c5, rfl⟩ := hr5.sl; have H6 := Aside0.mk hr5; clear hr5; replace B1 := Bb B1 hb; replace B2 := Bb B2 hb; replace B3 := Bb B3 hb; replace HB := Ob HB hb; clear hb) | (go_at_call 65; (with_reducible refine (nat_Bits.run _ b L2 _ (H92.1.be HB.1) (by have := HL.out; omega)).mono ?_); rintro e w4 ⟨b4, rfl, hw, hi⟩; replace hw := Eq.symm hw; subst hw; have HI4 := Aside0.mk hi; clear hi; have kb4 : (b4 == 0) = true := (by rw [beq_iff_eq]; exact HI4.out.1.2 (HP.out))) | ((with_reducible refine gate_dst (N := 3) rfl ?_); refine box_event (by rfl) (N := 3) (by rfl) (cs := #[.bool false, .slice none 0 0]) (t := 32) ?hr ?_; (case hr => first | (go_simp; done) | (go_simp; rfl)); intro g3 hgx w3 hbx hb; have B3 := As hbx; have NE1_3 := Nn B1 hgx; have NE2_3 := Nn B2 hgx; have G3 := Gg HB hgx; replace B1 := Bb B1 hb; replace B2 := Bb B2 hb; replace HB := Ob HB hb; clear hbx hb hgx; (try clear cb1_2); have cb1_2 := Cl2 B1) | ((with_reducible refine gate_dst (N := 2) rfl ?_); refine box_event (by rfl) (N := 2) (by rfl) (cs := #[.bool false, .slice none 0 0]) (t := 32) ?hr ?_; (case hr => first | (go_simp; done) | (go_simp; rfl)); intro g2 hgx w2 hbx hb; have B2 := As hbx; have NE1_2 := Nn B1 hgx; have G2 := Gg HB hgx; replace B1 := Bb B1 hb; replace HB := Ob HB hb; clear hbx hb hgx) | ((with_reducible refine gate_dst (N := 1) rfl ?_); refine box_event (by rfl) (N := 1) (by rfl) (cs := #[.bool s, .slice A k c, .slice B l d]) (t := 34) ?hr ?_; (case hr => first | (go_simp; done) | (go_simp; rfl)); intro g1 hgx w1 hbx hb; have B1 := As hbx; have G1 := Gg HB hgx; replace HB := Ob HB hb; clear hbx hb hgx))
  try simp only [Exit.inBlock, Exit.then]
  refine bodyPost_ret (results_cc rfl _ _ g2 g3 32 32 #[.bool false, .slice none 0 0] #[.bool s7, .slice A7 k7 c7] (0, 0) (0, 0) _ _ rfl B2.out Tryz.underlying32 rfl (by kernel_rfl) rfl B3.out Tryz.underlying32 rfl (by kernel_rfl)) rfl ?_
  refine ⟨false, none, 0, 0, _, _, _, _, 0, _, rfl, (NC.nil _ _).na, (H8.1).mono (by omega), ?_, ?_, ?_, HB.out⟩
  ·
   rw [HP.out]; rfl
  ·
   rw [Z7.out.1, HP.out]; rfl
  ·
   rw [HP.out]; rfl
 ·
  have HP := Aside0.mk hb
  clear hb
  go_enter Tryz.func39, Tryz.ntmps39
  go_wp2_with (first | (go_at_call 65; (with_reducible refine (nat_Bits.run _ b L2 _ (H92.1.be HB.1) (by have := HL.out; omega)).mono ?_); rintro e w4 ⟨b4, rfl, hw, hi⟩; replace hw := Eq.symm hw; subst hw; have HI4 := Aside0.mk hi; clear hi; have kb4 : (b4 == 0) = false := (by rw [beq_eq_false_iff_ne]; intro e_; exact (HP.out) (HI4.out.1.1 e_))) | ((with_reducible refine gate_dst (N := 3) rfl ?_); refine box_event (by rfl) (N := 3) (by rfl) (cs := #[.bool false, .slice none 0 0]) (t := 32) ?hr ?_; (case hr => first | (go_simp; done) | (go_simp; rfl)); intro g3 hgx w3 hbx hb; have B3 := As hbx; have NE1_3 := Nn B1 hgx; have NE2_3 := Nn B2 hgx; have G3 := Gg HB hgx; replace B1 := Bb B1 hb; replace B2 := Bb B2 hb; replace HB := Ob HB hb; clear hbx hb hgx; (try clear cb1_2); have cb1_2 := Cl2 B1) | ((with_reducible refine gate_dst (N := 2) rfl ?_); refine box_event (by rfl) (N := 2) (by rfl) (cs := #[.bool false, .slice none 0 0]) (t := 32) ?hr ?_; (case hr => first | (go_simp; done) | (go_simp; rfl)); intro g2 hgx w2 hbx hb; have B2 := As hbx; have NE1_2 := Nn B1 hgx; have G2 := Gg HB hgx; replace B1 := Bb B1 hb; replace HB := Ob HB hb; clear hbx hb hgx) | ((with_reducible refine gate_dst (N := 1) rfl ?_); refine box_event (by rfl) (N := 1) (by rfl) (cs := #[.bool s, .slice A k c, .slice B l d]) (t := 34) ?hr ?_; (case hr => first | (go_simp; done) | (go_simp; rfl)); intro g1 hgx w1 hbx hb; have B1 := As hbx; have G1 := Gg HB hgx; replace HB := Ob HB hb; clear hbx hb hgx))
  replace B1 := Bd B1
  replace B2 := Bd B2
  replace B3 := Bd B3
  replace HB := Od HB
  refine start_ (n := 7) (S := fun w' => w'.cell? ⟨g1, 0, none⟩ = some (.bool s) ∧ w'.cell? ⟨g1, 1, none⟩ = some (.slice A k c) ∧ w'.cell? ⟨g1, 2, none⟩ = some (.slice B l d)) (ds := [5, 6]) (Bt 7 0) (by kernel_rfl) rfl (by kernel_rfl) ⟨Cl0 B1, Cl1 B1, Cl2 B1⟩ (fun hHeld => ?_)
  generalize w3.drew = w5 at hHeld B1 B2 B3 HB ⊢
  refine pure_ (i := 0) (N := some 11) (v := ?_) (a' := ?_) (Bt 7 1) rfl rfl (by kernel_rfl) (fun _ _ _ h => h) (Or.inl ⟨by rfl, ?_⟩) ?_ ?_
  rotate_left
  ·
   intro w'
   go_simp
   with_reducible rfl
  rotate_left
  ·
   simp only [Nrm, Option.some.injEq, List.setIfInBounds_toArray, List.set_cons_zero, List.set_cons_succ, i64_w, i32_w]
   rfl
  refine pure_ (i := 2) (N := some 13) (v := ?_) (a' := ?_) (Bt 7 5) rfl rfl (by kernel_rfl) (fun _ _ _ h => h) (Or.inl ⟨by rfl, ?_⟩) ?_ ?_
  rotate_left
  ·
   intro w'
   go_simp
   with_reducible rfl
  rotate_left
  ·
   simp only [Nrm, Option.some.injEq, List.setIfInBounds_toArray, List.set_cons_zero, List.set_cons_succ, i64_w, i32_w]
   rfl
  refine take_ (i := 1) (N := some 12) (v := ?_) (a' := ?_) (Bt 7 7) rfl rfl (by kernel_rfl) (fun _ _ _ h => h) (Or.inl ⟨by rfl, ?_⟩) hHeld ?_ ?_
  rotate_left
  ·
   rintro w' ⟨s0, s1, s2⟩
   go_simp
   with_reducible rfl
  rotate_left
  ·
   simp only [Nrm, Option.some.injEq, List.setIfInBounds_toArray, List.set_cons_zero, List.set_cons_succ, i64_w, i32_w]
   rfl
  refine take_ (i := 3) (N := some 14) (v := ?_) (a' := ?_) (Bt 7 15) rfl rfl (by kernel_rfl) (fun _ _ _ h => h) (Or.inl ⟨by rfl, ?_⟩) hHeld ?_ ?_
  rotate_left
  ·
   rintro w' ⟨s0, s1, s2⟩
   go_simp
   with_reducible rfl
  rotate_left
  ·
   simp only [Nrm, Option.some.injEq, List.setIfInBounds_toArray, List.set_cons_zero, List.set_cons_succ, i64_w, i32_w]
   rfl
  refine one_ (i := 4) (N := some 15) (Bt 7 31) rfl rfl (by kernel_rfl) (by decide) (fun K hK => ?_)
  refine goes_ Tryz.func66 (by kernel_rfl) rfl #[.slice B l d] (by rfl) rfl rfl (by (try simp only [List.map_toArray, List.map_cons, List.map_nil]); first | done | rfl) ?_
  with_reducible refine (ratio_whole.run _ _ _ b L2 _ (H92.1.be HB.1) (by have := HL.out; omega)).mono ?_
  rintro e w54 ⟨s54, A54, k54, c54, rfl, hr54, hz54, hu54, hb⟩
  refine ⟨_, rfl, ?_⟩
  have H55 := Aside0.mk hr54
  have Z54 := Aside0.mk (And.intro hz54 hu54)
  clear hr54 hz54 hu54
  replace B1 := Bb B1 hb
  replace B2 := Bb B2 hb
  replace B3 := Bb B3 hb
  replace HB := Ob HB hb
  clear hb
  refine hK.out _ _ ⟨Cl0 B1, Cl1 B1, Cl2 B1⟩ (fun hHeld => ?_)
  clear hK K
  refine norm_ (a' := ?_) ?_ ?_
  rotate_left
  ·
   show Act.put _ (some 15) _ = _
   simp only [Nrm, Option.some.injEq, List.setIfInBounds_toArray, List.set_cons_zero, List.set_cons_succ, i64_w, i32_w]
   rfl
  refine last_ (i := 5) (N := none) (Bt 7 63) rfl rfl (by kernel_rfl) (by decide) (fun K hK => ?_)
  (try clear cb2_0)
  have cb2_0 := Cl0 B2
  (try clear fb2_0)
  have fb2_0 := Fz B2 0
  (try clear cb2_1)
  have cb2_1 := Cl1 B2
  (try clear fb2_1)
  have fb2_1 := Fz B2 1
  refine skip_ (w1 := ?_) (by rfl) rfl ?_ ?_
  rotate_left
  ·
   go_simp
   rfl
  generalize hw : ((w54.setCell ⟨g2, 0, none⟩ (.bool s)).setCell ⟨g2, 1, none⟩ (.slice A k c)) = w66
  replace hw := Eq.symm hw
  have ho : Only w54 w66 g2 := (by rw [hw]; exact Only.setg (Only.setg (Only.refl _ _) 0 _) 1 _)
  have hB2 : w66.heap[g2]? = some (.cells #[.bool s, .slice A k c] 32 (0, 0)) := (by rw [hw]; exact (blk_put (blk_put B2.out 0 _ rfl) 1 _ rfl))
  replace H55 := As (H55.1.o2 ho B2)
  replace B1 := Oo B1 ho NE1_2
  replace B3 := Ou B3 ho NE2_3
  replace HB := Lo HB ho G2
  replace B2 := As hB2
  clear hw ho hB2
  refine hK.out _ _ ?_
  clear hK K
  refine last_ (i := 6) (N := none) (Bt 7 127) rfl rfl (by kernel_rfl) (by decide) (fun K hK => ?_)
  (try clear cb3_0)
  have cb3_0 := Cl0 B3
  (try clear fb3_0)
  have fb3_0 := Fz B3 0
  (try clear cb3_1)
  have cb3_1 := Cl1 B3
  (try clear fb3_1)
  have fb3_1 := Fz B3 1
  refine skip_ (w1 := ?_) (by rfl) rfl ?_ ?_
  rotate_left
  ·
   go_simp
   rfl
  generalize hw : ((w66.setCell ⟨g3, 0, none⟩ (.bool s54)).setCell ⟨g3, 1, none⟩ (.slice A54 k54 c54)) = w78
  replace hw := Eq.symm hw
  have ho : Only w66 w78 g3 := (by rw [hw]; exact Only.setg (Only.setg (Only.refl _ _) 0 _) 1 _)
  have hB2 : w78.heap[g3]? = some (.cells #[.bool s54, .slice A54 k54 c54] 32 (0, 0)) := (by rw [hw]; exact (blk_put (blk_put B3.out 0 _ rfl) 1 _ rfl))
  replace H55 := As (H55.1.o2 ho B3)
  replace B1 := Oo B1 ho NE1_3
  replace B2 := Oo B2 ho NE2_3
  replace HB := Lo HB ho G3
  replace B3 := As hB2
  clear hw ho hB2
  refine hK.out _ _ ?_
  clear hK K
  refine done_ (by kernel_rfl) ?_
  go_wp2
  try simp only [Exit.inBlock, Exit.then]
  refine bodyPost_ret (results_cc rfl _ _ g2 g3 32 32 #[.bool s, .slice A k c] #[.bool s54, .slice A54 k54 c54] (0, 0) (0, 0) _ _ rfl B2.out Tryz.underlying32 rfl (by kernel_rfl) rfl B3.out Tryz.underlying32 rfl (by kernel_rfl)) rfl ?_
  refine ⟨_, _, _, _, _, _, _, _, _, _, rfl, (H91.1.be HB.1), (H55.1).mono (by omega), ?_, ?_, ?_, HB.out⟩
  ·
   unfold pn; rw [if_neg HP.out]
  ·
   rw [Z54.out.1]; unfold pd; rw [if_neg HP.out]
  ·
   unfold pd; rw [if_neg HP.out]
theorem ratio_Make.run (s t : Bool) (A B : Option Addr) (k c l d a b L1 L2 : Nat) (w : World) (hv : NA w (.slice A k c) a L1) (hu : NA w (.slice B l d) b L2) (hb : 0 < b) (hL : L1 + L2 ≤ 100000000) :
  Calls Tryz.prog 46 #[.agg #[.bool s, .slice A k c], .agg #[.bool t, .slice B l d]] w fun e w' => ∃ u A k c B l d n m, e = .returned (.tuple #[.agg #[.bool u, .slice A k c, .slice B l d], .bool true]) ∧ NC w' (.slice A k c) n (L1 + 2) ∧ NC w' (.slice B l d) m (L2 + 2) ∧ 0 < m ∧ zi u n * zi t b = zi s a * m ∧ Below w.heap.size w w' := by
 have HP := Aside0.mk hb
 have H91 := Aside0.mk hv
 have H92 := Aside0.mk hu
 have HL := Aside0.mk hL
 have HB := Aside0.mk (Below.refl w.heap.size w)
 clear hv hu hL
 clear hb
 go_enter Tryz.func46, Tryz.ntmps46
 go_wp2_with (first | ((with_reducible refine gate_store (t := 34) (p := 4) rfl ?_); refine Sto (t := 34) (p := 4) (by rfl) (.tmp 21) (by rfl) (by rfl) g4 #[.bool s5, .slice A5 k5 c5, .slice D5 l5 d5] (by rfl) (by first | rfl | (go_simp; done) | (go_simp; rfl)) B4 (by kernel_rfl) rfl (by kernel_rfl) ?_; intro w8 ho hB2; replace H6 := As (H6.1.o3 ho B4); replace H7 := As (H7.1.o3 ho B4); replace B2 := Oo B2 ho NE2_4; replace B3 := Oo B3 ho NE3_4; replace HB := Lo HB ho G4; replace B4 := hB2; clear ho hB2) | (go_at_call 72; (with_reducible refine (ratio_lowest.run _ _ _ _ _ _ _ a b L1 L2 _ (H91.1.be HB.1) (H92.1.be HB.1) (HP.out) (by have := HL.out; omega)).mono ?_); rintro e w5 ⟨s5, A5, k5, c5, D5, l5, d5, n5, m5, rfl, hq5, hr5, hm5, hz5, hb⟩; have H6 := Aside0.mk hq5; have H7 := Aside0.mk hr5; have F5 := Aside0.mk (And.intro hm5 hz5); clear hq5 hr5 hm5 hz5; replace B2 := Bb B2 hb; replace B3 := Bb B3 hb; replace B4 := Bb B4 hb; replace HB := Ob HB hb; clear hb) | (go_at_call 65; (with_reducible refine (nat_Bits.run _ b L2 _ (H92.1.be HB.1) (by have := HL.out; omega)).mono ?_); rintro e w4 ⟨b4, rfl, hw, hi⟩; replace hw := Eq.symm hw; subst hw; have HI4 := Aside0.mk hi; clear hi; have kb4 : (b4 == 0) = false := (by rw [beq_eq_false_iff_ne]; intro e_; exact (Nat.ne_of_gt HP.out) (HI4.out.1.1 e_)); (try clear cb2_0); have cb2_0 := Cl0 B2; (try clear cb3_0); have cb3_0 := Cl0 B3; (try clear cb2_1); have cb2_1 := Cl1 B2) | ((with_reducible refine gate_dst (N := 4) rfl ?_); refine box_event (by rfl) (N := 4) (by rfl) (cs := #[.bool false, .slice none 0 0, .slice none 0 0]) (t := 34) ?hr ?_; (case hr => first | (go_simp; done) | (go_simp; rfl)); intro g4 hgx w3 hbx hb; have B4 := As hbx; have NE2_4 := Nn B2 hgx; have NE3_4 := Nn B3 hgx; have G4 := Gg HB hgx; replace B2 := Bb B2 hb; replace B3 := Bb B3 hb; replace HB := Ob HB hb; clear hbx hb hgx; (try clear cb3_1); have cb3_1 := Cl1 B3) | ((with_reducible refine gate_dst (N := 3) rfl ?_); refine box_event (by rfl) (N := 3) (by rfl) (cs := #[.bool t, .slice B l d]) (t := 32) ?hr ?_; (case hr => first | (go_simp; done) | (go_simp; rfl)); intro g3 hgx w2 hbx hb; have B3 := As hbx; have NE2_3 := Nn B2 hgx; have G3 := Gg HB hgx; replace B2 := Bb B2 hb; replace HB := Ob HB hb; clear hbx hb hgx) | ((with_reducible refine gate_dst (N := 2) rfl ?_); refine box_event (by rfl) (N := 2) (by rfl) (cs := #[.bool s, .slice A k c]) (t := 32) ?hr ?_; (case hr => first | (go_simp; done) | (go_simp; rfl)); intro g2 hgx w1 hbx hb; have B2 := As hbx; have G2 := Gg HB hgx; replace HB := Ob HB hb; clear hbx hb hgx))
 try simp only [Exit.inBlock, Exit.then]
 refine bodyPost_ret (results_ct rfl _ _ g4 34 #[.bool s5, .slice A5 k5 c5, .slice D5 l5 d5] (0, 0) _ rfl B4.out Tryz.underlying34 rfl (by kernel_rfl)) rfl ?_
 refine ⟨_, _, _, _, _, _, _, _, _, rfl, H6.1, H7.1, F5.out.1, ?_, HB.out⟩
 have hz := F5.out.2
 cases s <;> cases t <;> simp [zi] at hz ⊢ <;> (first | exact hz | (rw [Int.mul_neg, hz]; simp; done) | (rw [Int.mul_neg, hz, Int.neg_mul, Int.neg_neg]; done) | (rw [Int.mul_neg, hz, Int.neg_mul]; done))
theorem ratio_Of.run (x y : Int) (w : World) (h0 : -1000000000 ≤ x) (h1 : x ≤ 1000000000) (h2 : 0 < y) (h3 : y ≤ 1000000000) :
  Calls Tryz.prog 23 #[.int .i64 x, .int .i64 y] w fun e w' => ∃ u A k c B l d n m, e = .returned (.tuple #[.agg #[.bool u, .slice A k c, .slice B l d], .bool true]) ∧ NC w' (.slice A k c) n (4) ∧ NC w' (.slice B l d) m (4) ∧ 0 < m ∧ zi u n * y = x * m ∧ Below w.heap.size w w' := by
 have HB := Aside0.mk (Below.refl w.heap.size w)
 have HI := Aside0.mk (show -1000000000 ≤ x ∧ x ≤ 1000000000 ∧ 0 < y ∧ y ≤ 1000000000 from ⟨h0, h1, h2, h3⟩)
 have HL := Aside0.mk h1
 clear h0 h1 h2 h3
 go_enter Tryz.func23, Tryz.ntmps23
 go_wp2_with (first | ((with_reducible refine gate_store (t := 34) (p := 4) rfl ?_); refine Sto (t := 34) (p := 4) (by rfl) (.tmp 11) (by rfl) (by rfl) g4 #[.bool s6, .slice A6 k6 c6, .slice D6 l6 d6] (by rfl) (by first | rfl | (go_simp; done) | (go_simp; rfl)) B4 (by kernel_rfl) rfl (by kernel_rfl) ?_; intro w9 ho hB2; replace H3 := As (H3.1.o3 ho B4); replace H5 := As (H5.1.o3 ho B4); replace H7 := As (H7.1.o3 ho B4); replace H8 := As (H8.1.o3 ho B4); replace HB := Lo HB ho G4; replace B4 := hB2; clear ho hB2) | (go_at_call 46; (with_reducible refine (ratio_Make.run s2 s4 _ _ _ _ _ _ (x : Int).natAbs (y : Int).natAbs 2 2 _ H3.1.na H5.1.na (by have := HI.out; omega) (by have := HL.out; omega)).mono ?_); rintro e w6 ⟨s6, A6, k6, c6, D6, l6, d6, n6, m6, rfl, hq6, hr6, hm6, hz6, hb⟩; have H7 := Aside0.mk hq6; have H8 := Aside0.mk hr6; have F6 := Aside0.mk (And.intro hm6 hz6); clear hq6 hr6 hm6 hz6; replace H3 := As (H3.1.be hb); replace H5 := As (H5.1.be hb); replace B4 := Bb B4 hb; replace HB := Ob HB hb; clear hb) | (go_at_call 47; (with_reducible refine (integer_Of.run (y) _ (by have := HI.out; omega) (by have := HI.out; omega)).mono ?_); rintro e w4 ⟨s4, A4, k4, c4, rfl, hr4, hz4, hu4, hb⟩; have H5 := Aside0.mk hr4; have Z4 := Aside0.mk (And.intro hz4 hu4); clear hr4 hz4 hu4; replace H3 := As (H3.1.be hb); replace B4 := Bb B4 hb; replace HB := Ob HB hb; clear hb) | (go_at_call 47; (with_reducible refine (integer_Of.run (x) _ (by have := HI.out; omega) (by have := HI.out; omega)).mono ?_); rintro e w2 ⟨s2, A2, k2, c2, rfl, hr2, hz2, hu2, hb⟩; have H3 := Aside0.mk hr2; have Z2 := Aside0.mk (And.intro hz2 hu2); clear hr2 hz2 hu2; replace B4 := Bb B4 hb; replace HB := Ob HB hb; clear hb) | ((with_reducible refine gate_dst (N := 4) rfl ?_); refine box_event (by rfl) (N := 4) (by rfl) (cs := #[.bool false, .slice none 0 0, .slice none 0 0]) (t := 34) ?hr ?_; (case hr => first | (go_simp; done) | (go_simp; rfl)); intro g4 hgx w1 hbx hb; have B4 := As hbx; have G4 := Gg HB hgx; replace HB := Ob HB hb; clear hbx hb hgx))
 try simp only [Exit.inBlock, Exit.then]
 refine bodyPost_ret (results_ct rfl _ _ g4 34 #[.bool s6, .slice A6 k6 c6, .slice D6 l6 d6] (0, 0) _ rfl B4.out Tryz.underlying34 rfl (by kernel_rfl)) rfl ?_
 refine ⟨_, _, _, _, _, _, _, _, _, rfl, H7.1, H8.1, F6.out.1, ?_, HB.out⟩
 have hz := F6.out.2
 rw [Z2.out.1, Z4.out.1] at hz
 exact hz
end Go.Proofs.YtnmfmiemkcaocaaGreat.Hand
