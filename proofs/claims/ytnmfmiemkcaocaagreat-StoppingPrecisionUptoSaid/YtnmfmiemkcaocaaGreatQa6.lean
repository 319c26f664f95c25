/- Parts of the proof, joined: GrE, GrF, HandIx, QCutAx1. No condition. -/
import Derived.Test.YtnmfmiemkcaocaaGreatQa5
import Derived.Lib.Bytealg
import Derived.Lib.Strings
namespace Go.Proofs.YtnmfmiemkcaocaaGreat.Hand
open Go.RowKit Go.Proofs.YtnmfmiemkcaocaaGreatW.PrintWords Go.Proofs.YtnmfmiemkcaocaaGreatW.PrintLast Go.Proofs.YtnmfmiemkcaocaaGreatW.PrintMore
set_option linter.unusedVariables false
set_option linter.unusedSimpArgs false
def estV (ns : List Nat) : Int := if 21 < ns.length then 5 else if ns.sum = 0 then 20 else 0
def reach (part all : Nat) (x y : Int) : Bool := decide (x * (all : Int) ≤ (part : Int) * y)
theorem cmpZ_nonneg {x y : Int} : 0 ≤ cmpZ x y ↔ y ≤ x := by
  rcases cmpZ_cases x y with ⟨h, e⟩ | ⟨h, e⟩ | ⟨h, e⟩ <;> rw [e] <;> constructor <;> intro _ <;> omega
theorem cmpZ_nonpos {x y : Int} : cmpZ x y ≤ 0 ↔ x ≤ y := by
  rcases cmpZ_cases x y with ⟨h, e⟩ | ⟨h, e⟩ | ⟨h, e⟩ <;> rw [e] <;> constructor <;> intro _ <;> omega
theorem cmpZ_pos {x y : Int} : 0 < cmpZ x y ↔ y < x := by
  rcases cmpZ_cases x y with ⟨h, e⟩ | ⟨h, e⟩ | ⟨h, e⟩ <;> rw [e] <;> constructor <;> intro _ <;> omega
theorem frac_le {n m a b x y : Int} (h : n * b = a * m) (hm : 0 < m) (hb : 0 < b) : x * m ≤ n * y ↔ x * b ≤ a * y := by
  constructor
  · intro h1
    have h2 := Int.mul_le_mul_of_nonneg_right h1 (Int.le_of_lt hb)
    have e1 : n * y * b = a * y * m := by grind
    have e2 : x * m * b = x * b * m := by grind
    rw [e1, e2] at h2
    exact Int.le_of_mul_le_mul_right h2 hm
  · intro h1
    have h2 := Int.mul_le_mul_of_nonneg_right h1 (Int.le_of_lt hm)
    have e1 : a * y * m = n * y * b := by grind
    have e2 : x * b * m = x * m * b := by grind
    rw [e1, e2] at h2
    exact Int.le_of_mul_le_mul_right h2 hb
theorem frac_ge {n m a b x y : Int} (h : n * b = a * m) (hm : 0 < m) (hb : 0 < b) : n * y ≤ x * m ↔ a * y ≤ x * b := by
  constructor
  · intro h1
    have h2 := Int.mul_le_mul_of_nonneg_right h1 (Int.le_of_lt hb)
    have e1 : n * y * b = a * y * m := by grind
    have e2 : x * m * b = x * b * m := by grind
    rw [e1, e2] at h2
    exact Int.le_of_mul_le_mul_right h2 hm
  · intro h1
    have h2 := Int.mul_le_mul_of_nonneg_right h1 (Int.le_of_lt hm)
    have e1 : a * y * m = n * y * b := by grind
    have e2 : x * b * m = x * m * b := by grind
    rw [e1, e2] at h2
    exact Int.le_of_mul_le_mul_right h2 hb
set_option maxHeartbeats 8000000 in
set_option maxRecDepth 100000 in
theorem estimate_check.run (A : Option Addr) (cap : Nat) (wss : List (List Int)) (L : Nat) (w : World) (hw : WR w A wss L) (hl : wss.length ≤ 100000000) (hL : L ≤ 1100000) :
    Calls Tryz.prog 58 #[.slice A wss.length cap] w fun e w' => e = .returned (.int .i64 (estV (wn wss))) ∧ Below w.heap.size w w' := by
  have HW := Aside0.mk hw
  have HL := Aside0.mk (And.intro hl hL)
  have HB := Aside0.mk (Below.refl w.heap.size w)
  clear hw hl hL
  by_cases c1 : 21 < wss.length
  · have k1 : decide ((21 : Int) < (wss.length : Int)) = true := decide_eq_true (by omega)
    have D := Aside0.mk c1
    clear c1
    go_enter Tryz.func58, Tryz.ntmps58
    go_wp2
    go_ret
    refine ⟨?_, HB.out⟩
    rw [show estV (wn wss) = 5 by unfold estV; rw [wn_len, if_pos D.out]]
    rfl
  · have k1 : decide ((21 : Int) < (wss.length : Int)) = false := decide_eq_false (by omega)
    have D := Aside0.mk (Nat.not_lt.1 c1)
    clear c1
    by_cases c2 : (wn wss).sum = 0
    · have D2 := Aside0.mk c2
      clear c2
      go_enter Tryz.func58, Tryz.ntmps58
      go_wp2_with (first | (go_at_call 65; (with_reducible refine (nat_Bits.run _ (wn wss).sum (L + 2 + wss.length) _ H2.1.na (by have := HL.out; omega)).mono ?_); rintro e w3 ⟨b3, rfl, hw, hi⟩; replace hw := Eq.symm hw; subst hw; have HI3 := Aside0.mk hi; clear hi; have kb3 : (b3 == 0) = true := (by rw [beq_iff_eq]; exact HI3.out.1.2 (D2.out))) | (go_at_call 59; (with_reducible refine (estimate_sum.run A _ wss L _ (HW.out.below HB.out) (by have := HL.out; omega) (by have := HL.out; omega)).mono ?_); rintro e w1 ⟨A1, k1, c1, rfl, hr1, hb⟩; have H2 := Aside0.mk hr1; clear hr1; replace HB := Ob HB hb; clear hb))
      go_ret
      refine ⟨?_, HB.out⟩
      rw [show estV (wn wss) = 20 by unfold estV; rw [wn_len, if_neg (Nat.not_lt.2 D.out), if_pos D2.out]]
      rfl
    · have D2 := Aside0.mk c2
      clear c2
      go_enter Tryz.func58, Tryz.ntmps58
      go_wp2_with (first | (go_at_call 65; (with_reducible refine (nat_Bits.run _ (wn wss).sum (L + 2 + wss.length) _ H2.1.na (by have := HL.out; omega)).mono ?_); rintro e w3 ⟨b3, rfl, hw, hi⟩; replace hw := Eq.symm hw; subst hw; have HI3 := Aside0.mk hi; clear hi; have kb3 : (b3 == 0) = false := (by rw [beq_eq_false_iff_ne]; intro e_; exact (D2.out) (HI3.out.1.1 e_))) | (go_at_call 59; (with_reducible refine (estimate_sum.run A _ wss L _ (HW.out.below HB.out) (by have := HL.out; omega) (by have := HL.out; omega)).mono ?_); rintro e w1 ⟨A1, k1, c1, rfl, hr1, hb⟩; have H2 := Aside0.mk hr1; clear hr1; replace HB := Ob HB hb; clear hb))
      go_ret
      refine ⟨?_, HB.out⟩
      rw [show estV (wn wss) = 0 by unfold estV; rw [wn_len, if_neg (Nat.not_lt.2 D.out), if_neg D2.out]]
      rfl
set_option maxHeartbeats 8000000 in
set_option maxRecDepth 100000 in
theorem estimate_reaches.run (A B D E : Option Addr) (s : Bool) (k c l d m1 m2 p1 p2 a b x y L1 L2 L3 L4 : Nat) (w : World) (hv : NA w (.slice A k c) a L1) (hu : NA w (.slice B l d) b L2) (hx : NA w (.slice D m1 m2) x L3) (hy : NA w (.slice E p1 p2) y L4) (hb : 0 < b) (hL : L1 + L2 + L3 + L4 ≤ 30000000) :
    Calls Tryz.prog 60 #[.slice A k c, .slice B l d, .agg #[.bool s, .slice D m1 m2, .slice E p1 p2]] w fun e w' => e = .returned (.bool (reach a b (pn s x y) (pd y))) ∧ Below w.heap.size w w' := by
  have H91 := Aside0.mk hv
  have H92 := Aside0.mk hu
  have H93 := Aside0.mk hx
  have H94 := Aside0.mk hy
  have HP := Aside0.mk hb
  have HL := Aside0.mk hL
  have HB := Aside0.mk (Below.refl w.heap.size w)
  clear hv hu hx hy hb hL
  go_enter Tryz.func60, Tryz.ntmps60
  go_wp2_with (first | (go_at_call 19; (with_reducible refine (ratio_Cmp.run s6 s _ _ _ _ _ _ _ _ _ _ _ _ n6 m6 x y (L1 + 2) (L2 + 2) L3 L4 _ H7.1.na H8.1.na (H93.1.be HB.1) (H94.1.be HB.1) (by have := HL.out; omega)).mono ?_); rintro e w11 ⟨rfl, hb⟩; replace H3 := As (H3.1.be hb); replace H5 := As (H5.1.be hb); replace H7 := As (H7.1.be hb); replace H8 := As (H8.1.be hb); replace B5 := Bb B5 hb; replace B7 := Bb B7 hb; replace HB := Ob HB hb; clear hb) | ((with_reducible refine gate_store (t := 34) (p := 7) rfl ?_); refine Sto (t := 34) (p := 7) (by rfl) (.tmp 15) (by rfl) (by rfl) g7 #[.bool s6, .slice A6 k6 c6, .slice D6 l6 d6] (by rfl) (by first | rfl | (go_simp; done) | (go_simp; rfl)) B7 (by kernel_rfl) rfl (by kernel_rfl) ?_; intro w10 ho hB2; replace H3 := As (H3.1.o3 ho B7); replace H5 := As (H5.1.o3 ho B7); replace H7 := As (H7.1.o3 ho B7); replace H8 := As (H8.1.o3 ho B7); replace B5 := Oo B5 ho NE5_7; replace HB := Lo HB ho G7; replace B7 := hB2; clear ho hB2; (try clear cb7_0); have cb7_0 := Cl0 B7; (try clear cb7_1); have cb7_1 := Cl1 B7; (try clear cb7_2); have cb7_2 := Cl2 B7; (try clear cb5_0); have cb5_0 := Cl0 B5; (try clear cb5_1); have cb5_1 := Cl1 B5; (try clear cb5_2); have cb5_2 := Cl2 B5) | ((with_reducible refine gate_dst (N := 7) rfl ?_); refine box_event (by rfl) (N := 7) (by rfl) (cs := #[.bool false, .slice none 0 0, .slice none 0 0]) (t := 34) ?hr ?_; (case hr => first | (go_simp; done) | (go_simp; rfl)); intro g7 hgx w9 hbx hb; have B7 := As hbx; have NE5_7 := Nn B5 hgx; have G7 := Gg HB hgx; replace H3 := As (H3.1.be hb); replace H5 := As (H5.1.be hb); replace H7 := As (H7.1.be hb); replace H8 := As (H8.1.be hb); replace B5 := Bb B5 hb; replace HB := Ob HB hb; clear hbx hb hgx) | (go_at_call 46; (with_reducible refine (ratio_Make.run s2 s4 _ _ _ _ _ _ a b L1 L2 _ H3.1.na H5.1.na (HP.out) (by have := HL.out; omega)).mono ?_); rintro e w6 ⟨s6, A6, k6, c6, D6, l6, d6, n6, m6, rfl, hq6, hr6, hm6, hz6, hb⟩; have H7 := Aside0.mk hq6; have H8 := Aside0.mk hr6; have F6 := Aside0.mk (And.intro hm6 hz6); clear hq6 hr6 hm6 hz6; replace H3 := As (H3.1.be hb); replace H5 := As (H5.1.be hb); replace B5 := Bb B5 hb; replace HB := Ob HB hb; clear hb) | (go_at_call 69; (with_reducible refine (integer_Make.run _ _ b L2 _ (H92.1.be HB.1) (by have := HL.out; omega)).mono ?_); rintro e w4 ⟨s4, A4, k4, c4, rfl, hr4, hz4, hu4, hb⟩; have H5 := Aside0.mk hr4; have Z4 := Aside0.mk (And.intro hz4 hu4); clear hr4 hz4 hu4; replace H3 := As (H3.1.be hb); replace B5 := Bb B5 hb; replace HB := Ob HB hb; clear hb) | (go_at_call 69; (with_reducible refine (integer_Make.run _ _ a L1 _ (H91.1.be HB.1) (by have := HL.out; omega)).mono ?_); rintro e w2 ⟨s2, A2, k2, c2, rfl, hr2, hz2, hu2, hb⟩; have H3 := Aside0.mk hr2; have Z2 := Aside0.mk (And.intro hz2 hu2); clear hr2 hz2 hu2; replace B5 := Bb B5 hb; replace HB := Ob HB hb; clear hb) | ((with_reducible refine gate_dst (N := 5) rfl ?_); refine box_event (by rfl) (N := 5) (by rfl) (cs := #[.bool s, .slice D m1 m2, .slice E p1 p2]) (t := 34) ?hr ?_; (case hr => first | (go_simp; done) | (go_simp; rfl)); intro g5 hgx w1 hbx hb; have B5 := As hbx; have G5 := Gg HB hgx; replace HB := Ob HB hb; clear hbx hb hgx))
  go_ret
  refine ⟨?_, HB.out⟩
  have hz := F6.out
  rw [Z4.out.1, Z2.out.1, zi_false, zi_false] at hz
  rw [show reach a b (pn s x y) (pd y) = decide (0 ≤ cmpZ (pn s6 n6 m6 * pd y) (pn s x y * pd m6)) by
    unfold reach
    refine decide_eq_decide.2 ?_
    rw [cmpZ_nonneg, pn_of hz.1, pd_of hz.1]
    exact (frac_le hz.2 (by have := hz.1; omega) (by have := HP.out; omega)).symm]
  rfl
end Go.Proofs.YtnmfmiemkcaocaaGreat.Hand
namespace Go.Proofs.YtnmfmiemkcaocaaGreat.Hand
open Go.RowKit Go.Proofs.YtnmfmiemkcaocaaGreatW.PrintWords Go.Proofs.YtnmfmiemkcaocaaGreatW.PrintLast Go.Proofs.YtnmfmiemkcaocaaGreatW.PrintMore
set_option linter.unusedVariables false
set_option linter.unusedSimpArgs false
def classV (ns : List Nat) (cut x y : Int) : Int × Int :=
  if estV ns ≠ 0 then (0, estV ns)
  else if cut < 1 ∨ (ns.length : Int) ≤ cut ∨ 2 * x ≤ y ∨ y < x then (0, 3)
  else if reach (ns.drop cut.toNat).sum ns.sum x y then (1, 0)
  else if reach (ns.take cut.toNat).sum ns.sum x y then (0, 0) else (-1, 0)
theorem estV_ok {ns : List Nat} (h : estV ns = 0) : ns.length ≤ 21 ∧ 0 < ns.sum := by
  unfold estV at h
  split at h
  · exact absurd h (by decide)
  · split at h
    · exact absurd h (by decide)
    · omega
theorem tot_drop (wss : List (List Int)) (q : Nat) : ((wss.drop q).map List.length).sum ≤ (wss.map List.length).sum := by
  have := congrArg (fun l => (l.map List.length).sum) (List.take_append_drop q wss)
  simp only [List.map_append, List.sum_append] at this
  omega
theorem WR.drop {w : World} {ad : Addr} {wss : List (List Int)} {L q c : Nat} (h : WR w (some ad) wss L) (hq : q ≤ wss.length) (hc : wss.length ≤ c) : WR w (if c = q then some ad else some (ad.add q)) (wss.drop q) L := by
  refine ⟨?_, fun xs hx => h.2.1 xs (List.mem_of_mem_drop hx), Nat.le_trans (tot_drop _ _) h.2.2⟩
  have := Kd.C_drop h.1 hq hc
  rw [show q * (Kd.slice 52 (Kd.int .u32)).sz = q from by show q * 1 = q; omega] at this
  exact this
theorem WR.take {w : World} {A : Option Addr} {wss : List (List Int)} {L q : Nat} (h : WR w A wss L) (hq : q ≤ wss.length) : WR w A (wss.take q) L :=
  ⟨Kd.C_take h.1 hq, fun xs hx => h.2.1 xs (List.mem_of_mem_take hx), Nat.le_trans (tot_le _ _) h.2.2⟩
theorem half_cmp {x y n m : Int} (h : n * 2 = 1 * m) (hm : 0 < m) : x * m ≤ n * y ↔ 2 * x ≤ y := by
  have := frac_le (n := n) (m := m) (a := 1) (b := 2) (x := x) (y := y) h hm (by omega)
  rw [this]
  omega
theorem one_cmp {x y n m : Int} (h : n * 1 = 1 * m) (hm : 0 < m) : n * y < x * m ↔ y < x := by
  have := frac_le (n := n) (m := m) (a := 1) (b := 1) (x := x) (y := y) h hm (by omega)
  omega
set_option maxHeartbeats 8000000 in
set_option maxRecDepth 100000 in
theorem estimate_Class.run (A : Option Addr) (cap : Nat) (wss : List (List Int)) (L : Nat) (cut : Int) (s : Bool) (D E : Option Addr) (m1 m2 p1 p2 x y L3 L4 : Nat) (w : World) (hw : WR w A wss L) (hc : wss.length ≤ cap) (hl : wss.length ≤ 100000000) (hL : L ≤ 1100000) (hx : NA w (.slice D m1 m2) x L3) (hy : NA w (.slice E p1 p2) y L4) (hL3 : L3 + L4 ≤ 4000000) :
    Calls Tryz.prog 37 #[.slice A wss.length cap, .int .i64 cut, .agg #[.bool s, .slice D m1 m2, .slice E p1 p2]] w fun e w' => e = .returned (.tuple #[.int .i64 (classV (wn wss) cut (pn s x y) (pd y)).1, .int .i64 (classV (wn wss) cut (pn s x y) (pd y)).2]) ∧ Below w.heap.size w w' := by
  have HW := Aside0.mk hw
  have H93 := Aside0.mk hx
  have H94 := Aside0.mk hy
  have HC := Aside0.mk hc
  have HL := Aside0.mk (And.intro hl (And.intro hL hL3))
  have HB := Aside0.mk (Below.refl w.heap.size w)
  clear hw hx hy hc hl hL hL3
  obtain ⟨ev, hev⟩ : ∃ v, estV (wn wss) = v := ⟨_, rfl⟩
  have HE := Aside0.mk hev
  clear hev
  by_cases cg : ev = 0
  · have kg : (ev == 0) = true := by rw [beq_iff_eq]; exact cg
    have kgn : (ev != 0) = false := by rw [bne, kg]; rfl
    have DX1 := Aside0.mk (HE.out.trans cg)
    have SP := Aside0.mk (show 0 < (wn wss).sum from (estV_ok (HE.out.trans cg)).2)
    clear cg
    by_cases c1 : cut < 1
    · have k1 : decide (cut < 1) = true := decide_eq_true c1
      have DX2 := Aside0.mk c1
      clear c1
      go_enter Tryz.func37, Tryz.ntmps37
      go_wp2_with (first | ((with_reducible refine gate_store (t := 34) (p := 11) rfl ?_); refine Sto (t := 34) (p := 11) (by rfl) (.tmp 25) (by rfl) (by rfl) g11 #[.bool s8, .slice A8 k8 c8, .slice D8 l8 d8] (by rfl) (by first | rfl | (go_simp; done) | (go_simp; rfl)) B11 (by kernel_rfl) rfl (by kernel_rfl) ?_; intro w12 ho hB2; replace H4 := As (H4.1.o3 ho B11); replace H5 := As (H5.1.o3 ho B11); replace H9 := As (H9.1.o3 ho B11); replace H10 := As (H10.1.o3 ho B11); replace B5 := Oo B5 ho NE5_11; replace B9 := Oo B9 ho NE9_11; replace HB := Lo HB ho G11; replace B11 := hB2; clear ho hB2) | ((with_reducible refine gate_dst (N := 11) rfl ?_); refine box_event (by rfl) (N := 11) (by rfl) (cs := #[.bool false, .slice none 0 0, .slice none 0 0]) (t := 34) ?hr ?_; (case hr => first | (go_simp; done) | (go_simp; rfl)); intro g11 hgx w11 hbx hb; have B11 := As hbx; have NE5_11 := Nn B5 hgx; have NE9_11 := Nn B9 hgx; have G11 := Gg HB hgx; replace H4 := As (H4.1.be hb); replace H5 := As (H5.1.be hb); replace H9 := As (H9.1.be hb); replace H10 := As (H10.1.be hb); replace B5 := Bb B5 hb; replace B9 := Bb B9 hb; replace HB := Ob HB hb; clear hbx hb hgx) | (go_at_call 23; (with_reducible refine (ratio_Of.run (1) (2) _ (by decide) (by decide) (by decide) (by decide)).mono ?_); rintro e w8 ⟨s8, A8, k8, c8, D8, l8, d8, n8, m8, rfl, hq8, hr8, hm8, hz8, hb⟩; have H9 := Aside0.mk hq8; have H10 := Aside0.mk hr8; have F8 := Aside0.mk (And.intro hm8 hz8); clear hq8 hr8 hm8 hz8; replace H4 := As (H4.1.be hb); replace H5 := As (H5.1.be hb); replace B5 := Bb B5 hb; replace B9 := Bb B9 hb; replace HB := Ob HB hb; clear hb) | ((with_reducible refine gate_store (t := 34) (p := 9) rfl ?_); refine Sto (t := 34) (p := 9) (by rfl) (.tmp 21) (by rfl) (by rfl) g9 #[.bool s3, .slice A3 k3 c3, .slice D3 l3 d3] (by rfl) (by first | rfl | (go_simp; done) | (go_simp; rfl)) B9 (by kernel_rfl) rfl (by kernel_rfl) ?_; intro w7 ho hB2; replace H4 := As (H4.1.o3 ho B9); replace H5 := As (H5.1.o3 ho B9); replace B5 := Oo B5 ho NE5_9; replace HB := Lo HB ho G9; replace B9 := hB2; clear ho hB2) | ((with_reducible refine gate_dst (N := 9) rfl ?_); refine box_event (by rfl) (N := 9) (by rfl) (cs := #[.bool false, .slice none 0 0, .slice none 0 0]) (t := 34) ?hr ?_; (case hr => first | (go_simp; done) | (go_simp; rfl)); intro g9 hgx w6 hbx hb; have B9 := As hbx; have NE5_9 := Nn B5 hgx; have G9 := Gg HB hgx; replace H4 := As (H4.1.be hb); replace H5 := As (H5.1.be hb); replace B5 := Bb B5 hb; replace HB := Ob HB hb; clear hbx hb hgx) | (go_at_call 23; (with_reducible refine (ratio_Of.run (1) (1) _ (by decide) (by decide) (by decide) (by decide)).mono ?_); rintro e w3 ⟨s3, A3, k3, c3, D3, l3, d3, n3, m3, rfl, hq3, hr3, hm3, hz3, hb⟩; have H4 := Aside0.mk hq3; have H5 := Aside0.mk hr3; have F3 := Aside0.mk (And.intro hm3 hz3); clear hq3 hr3 hm3 hz3; replace B5 := Bb B5 hb; replace HB := Ob HB hb; clear hb) | (go_at_call 58; (with_reducible refine (estimate_check.run _ _ wss L _ (HW.out.below HB.out) HL.out.1 HL.out.2.1).mono ?_); rintro e w2 ⟨rfl, hb⟩; replace B5 := Bb B5 hb; replace HB := Ob HB hb; rw [HE.out]; clear hb) | ((with_reducible refine gate_dst (N := 5) rfl ?_); refine box_event (by rfl) (N := 5) (by rfl) (cs := #[.bool s, .slice D m1 m2, .slice E p1 p2]) (t := 34) ?hr ?_; (case hr => first | (go_simp; done) | (go_simp; rfl)); intro g5 hgx w1 hbx hb; have B5 := As hbx; have G5 := Gg HB hgx; replace HB := Ob HB hb; clear hbx hb hgx))
      go_ret2
      refine ⟨?_, HB.out⟩
      rw [show classV (wn wss) cut (pn s x y) (pd y) = (0, 3) by
        unfold classV
        rw [if_neg (fun h => h DX1.out), if_pos (Or.inl DX2.out)]
        ]
      rfl
    · have k1 : decide (cut < 1) = false := decide_eq_false c1
      by_cases c2 : (wss.length : Int) ≤ cut
      · have k2 : decide ((wss.length : Int) ≤ cut) = true := decide_eq_true c2
        have DX2 := Aside0.mk c2
        clear c1 c2
        go_enter Tryz.func37, Tryz.ntmps37
        go_wp2_with (first | ((with_reducible refine gate_store (t := 34) (p := 11) rfl ?_); refine Sto (t := 34) (p := 11) (by rfl) (.tmp 25) (by rfl) (by rfl) g11 #[.bool s8, .slice A8 k8 c8, .slice D8 l8 d8] (by rfl) (by first | rfl | (go_simp; done) | (go_simp; rfl)) B11 (by kernel_rfl) rfl (by kernel_rfl) ?_; intro w12 ho hB2; replace H4 := As (H4.1.o3 ho B11); replace H5 := As (H5.1.o3 ho B11); replace H9 := As (H9.1.o3 ho B11); replace H10 := As (H10.1.o3 ho B11); replace B5 := Oo B5 ho NE5_11; replace B9 := Oo B9 ho NE9_11; replace HB := Lo HB ho G11; replace B11 := hB2; clear ho hB2) | ((with_reducible refine gate_dst (N := 11) rfl ?_); refine box_event (by rfl) (N := 11) (by rfl) (cs := #[.bool false, .slice none 0 0, .slice none 0 0]) (t := 34) ?hr ?_; (case hr => first | (go_simp; done) | (go_simp; rfl)); intro g11 hgx w11 hbx hb; have B11 := As hbx; have NE5_11 := Nn B5 hgx; have NE9_11 := Nn B9 hgx; have G11 := Gg HB hgx; replace H4 := As (H4.1.be hb); replace H5 := As (H5.1.be hb); replace H9 := As (H9.1.be hb); replace H10 := As (H10.1.be hb); replace B5 := Bb B5 hb; replace B9 := Bb B9 hb; replace HB := Ob HB hb; clear hbx hb hgx) | (go_at_call 23; (with_reducible refine (ratio_Of.run (1) (2) _ (by decide) (by decide) (by decide) (by decide)).mono ?_); rintro e w8 ⟨s8, A8, k8, c8, D8, l8, d8, n8, m8, rfl, hq8, hr8, hm8, hz8, hb⟩; have H9 := Aside0.mk hq8; have H10 := Aside0.mk hr8; have F8 := Aside0.mk (And.intro hm8 hz8); clear hq8 hr8 hm8 hz8; replace H4 := As (H4.1.be hb); replace H5 := As (H5.1.be hb); replace B5 := Bb B5 hb; replace B9 := Bb B9 hb; replace HB := Ob HB hb; clear hb) | ((with_reducible refine gate_store (t := 34) (p := 9) rfl ?_); refine Sto (t := 34) (p := 9) (by rfl) (.tmp 21) (by rfl) (by rfl) g9 #[.bool s3, .slice A3 k3 c3, .slice D3 l3 d3] (by rfl) (by first | rfl | (go_simp; done) | (go_simp; rfl)) B9 (by kernel_rfl) rfl (by kernel_rfl) ?_; intro w7 ho hB2; replace H4 := As (H4.1.o3 ho B9); replace H5 := As (H5.1.o3 ho B9); replace B5 := Oo B5 ho NE5_9; replace HB := Lo HB ho G9; replace B9 := hB2; clear ho hB2) | ((with_reducible refine gate_dst (N := 9) rfl ?_); refine box_event (by rfl) (N := 9) (by rfl) (cs := #[.bool false, .slice none 0 0, .slice none 0 0]) (t := 34) ?hr ?_; (case hr => first | (go_simp; done) | (go_simp; rfl)); intro g9 hgx w6 hbx hb; have B9 := As hbx; have NE5_9 := Nn B5 hgx; have G9 := Gg HB hgx; replace H4 := As (H4.1.be hb); replace H5 := As (H5.1.be hb); replace B5 := Bb B5 hb; replace HB := Ob HB hb; clear hbx hb hgx) | (go_at_call 23; (with_reducible refine (ratio_Of.run (1) (1) _ (by decide) (by decide) (by decide) (by decide)).mono ?_); rintro e w3 ⟨s3, A3, k3, c3, D3, l3, d3, n3, m3, rfl, hq3, hr3, hm3, hz3, hb⟩; have H4 := Aside0.mk hq3; have H5 := Aside0.mk hr3; have F3 := Aside0.mk (And.intro hm3 hz3); clear hq3 hr3 hm3 hz3; replace B5 := Bb B5 hb; replace HB := Ob HB hb; clear hb) | (go_at_call 58; (with_reducible refine (estimate_check.run _ _ wss L _ (HW.out.below HB.out) HL.out.1 HL.out.2.1).mono ?_); rintro e w2 ⟨rfl, hb⟩; replace B5 := Bb B5 hb; replace HB := Ob HB hb; rw [HE.out]; clear hb) | ((with_reducible refine gate_dst (N := 5) rfl ?_); refine box_event (by rfl) (N := 5) (by rfl) (cs := #[.bool s, .slice D m1 m2, .slice E p1 p2]) (t := 34) ?hr ?_; (case hr => first | (go_simp; done) | (go_simp; rfl)); intro g5 hgx w1 hbx hb; have B5 := As hbx; have G5 := Gg HB hgx; replace HB := Ob HB hb; clear hbx hb hgx))
        go_ret2
        refine ⟨?_, HB.out⟩
        rw [show classV (wn wss) cut (pn s x y) (pd y) = (0, 3) by
          unfold classV
          rw [if_neg (fun h => h DX1.out), if_pos (Or.inr (Or.inl (by rw [wn_len]; exact DX2.out)))]
          ]
        rfl
      · have k2 : decide ((wss.length : Int) ≤ cut) = false := decide_eq_false c2
        by_cases c3 : 2 * pn s x y ≤ pd y
        · have DX2 := Aside0.mk c3
          clear c1 c2 c3
          go_enter Tryz.func37, Tryz.ntmps37
          go_wp2_with (first | (go_at_call 19; (with_reducible refine (ratio_Cmp.run s s8 _ _ _ _ _ _ _ _ _ _ _ _ x y n8 m8 L3 L4 4 4 _ (H93.1.be HB.1) (H94.1.be HB.1) H9.1.na H10.1.na (by have := HL.out; omega)).mono ?_); rintro e w13 ⟨rfl, hb⟩; replace H4 := As (H4.1.be hb); replace H5 := As (H5.1.be hb); replace H9 := As (H9.1.be hb); replace H10 := As (H10.1.be hb); replace B5 := Bb B5 hb; replace B9 := Bb B9 hb; replace B11 := Bb B11 hb; replace HB := Ob HB hb; have kc13 : decide ((cmpZ (pn s x y * pd m8) (pn s8 n8 m8 * pd y)) ≤ 0) = true := decide_eq_true (by have q := F8.out; rw [cmpZ_nonpos, pn_of q.1, pd_of q.1, half_cmp q.2 (by have := q.1; omega)]; exact DX2.out); clear hb) | ((with_reducible refine gate_store (t := 34) (p := 11) rfl ?_); refine Sto (t := 34) (p := 11) (by rfl) (.tmp 25) (by rfl) (by rfl) g11 #[.bool s8, .slice A8 k8 c8, .slice D8 l8 d8] (by rfl) (by first | rfl | (go_simp; done) | (go_simp; rfl)) B11 (by kernel_rfl) rfl (by kernel_rfl) ?_; intro w12 ho hB2; replace H4 := As (H4.1.o3 ho B11); replace H5 := As (H5.1.o3 ho B11); replace H9 := As (H9.1.o3 ho B11); replace H10 := As (H10.1.o3 ho B11); replace B5 := Oo B5 ho NE5_11; replace B9 := Oo B9 ho NE9_11; replace HB := Lo HB ho G11; replace B11 := hB2; clear ho hB2; (try clear cb5_0); have cb5_0 := Cl0 B5; (try clear cb5_1); have cb5_1 := Cl1 B5; (try clear cb5_2); have cb5_2 := Cl2 B5; (try clear cb11_0); have cb11_0 := Cl0 B11; (try clear cb11_1); have cb11_1 := Cl1 B11; (try clear cb11_2); have cb11_2 := Cl2 B11) | ((with_reducible refine gate_dst (N := 11) rfl ?_); refine box_event (by rfl) (N := 11) (by rfl) (cs := #[.bool false, .slice none 0 0, .slice none 0 0]) (t := 34) ?hr ?_; (case hr => first | (go_simp; done) | (go_simp; rfl)); intro g11 hgx w11 hbx hb; have B11 := As hbx; have NE5_11 := Nn B5 hgx; have NE9_11 := Nn B9 hgx; have G11 := Gg HB hgx; replace H4 := As (H4.1.be hb); replace H5 := As (H5.1.be hb); replace H9 := As (H9.1.be hb); replace H10 := As (H10.1.be hb); replace B5 := Bb B5 hb; replace B9 := Bb B9 hb; replace HB := Ob HB hb; clear hbx hb hgx) | (go_at_call 23; (with_reducible refine (ratio_Of.run (1) (2) _ (by decide) (by decide) (by decide) (by decide)).mono ?_); rintro e w8 ⟨s8, A8, k8, c8, D8, l8, d8, n8, m8, rfl, hq8, hr8, hm8, hz8, hb⟩; have H9 := Aside0.mk hq8; have H10 := Aside0.mk hr8; have F8 := Aside0.mk (And.intro hm8 hz8); clear hq8 hr8 hm8 hz8; replace H4 := As (H4.1.be hb); replace H5 := As (H5.1.be hb); replace B5 := Bb B5 hb; replace B9 := Bb B9 hb; replace HB := Ob HB hb; clear hb) | ((with_reducible refine gate_store (t := 34) (p := 9) rfl ?_); refine Sto (t := 34) (p := 9) (by rfl) (.tmp 21) (by rfl) (by rfl) g9 #[.bool s3, .slice A3 k3 c3, .slice D3 l3 d3] (by rfl) (by first | rfl | (go_simp; done) | (go_simp; rfl)) B9 (by kernel_rfl) rfl (by kernel_rfl) ?_; intro w7 ho hB2; replace H4 := As (H4.1.o3 ho B9); replace H5 := As (H5.1.o3 ho B9); replace B5 := Oo B5 ho NE5_9; replace HB := Lo HB ho G9; replace B9 := hB2; clear ho hB2) | ((with_reducible refine gate_dst (N := 9) rfl ?_); refine box_event (by rfl) (N := 9) (by rfl) (cs := #[.bool false, .slice none 0 0, .slice none 0 0]) (t := 34) ?hr ?_; (case hr => first | (go_simp; done) | (go_simp; rfl)); intro g9 hgx w6 hbx hb; have B9 := As hbx; have NE5_9 := Nn B5 hgx; have G9 := Gg HB hgx; replace H4 := As (H4.1.be hb); replace H5 := As (H5.1.be hb); replace B5 := Bb B5 hb; replace HB := Ob HB hb; clear hbx hb hgx) | (go_at_call 23; (with_reducible refine (ratio_Of.run (1) (1) _ (by decide) (by decide) (by decide) (by decide)).mono ?_); rintro e w3 ⟨s3, A3, k3, c3, D3, l3, d3, n3, m3, rfl, hq3, hr3, hm3, hz3, hb⟩; have H4 := Aside0.mk hq3; have H5 := Aside0.mk hr3; have F3 := Aside0.mk (And.intro hm3 hz3); clear hq3 hr3 hm3 hz3; replace B5 := Bb B5 hb; replace HB := Ob HB hb; clear hb) | (go_at_call 58; (with_reducible refine (estimate_check.run _ _ wss L _ (HW.out.below HB.out) HL.out.1 HL.out.2.1).mono ?_); rintro e w2 ⟨rfl, hb⟩; replace B5 := Bb B5 hb; replace HB := Ob HB hb; rw [HE.out]; clear hb) | ((with_reducible refine gate_dst (N := 5) rfl ?_); refine box_event (by rfl) (N := 5) (by rfl) (cs := #[.bool s, .slice D m1 m2, .slice E p1 p2]) (t := 34) ?hr ?_; (case hr => first | (go_simp; done) | (go_simp; rfl)); intro g5 hgx w1 hbx hb; have B5 := As hbx; have G5 := Gg HB hgx; replace HB := Ob HB hb; clear hbx hb hgx))
          go_ret2
          refine ⟨?_, HB.out⟩
          rw [show classV (wn wss) cut (pn s x y) (pd y) = (0, 3) by
            unfold classV
            rw [if_neg (fun h => h DX1.out), if_pos (Or.inr (Or.inr (Or.inl DX2.out)))]
            ]
          rfl
        · have c3b := Int.not_le.1 c3
          by_cases c4 : (pd y : Int) < pn s x y
          · have DX2 := Aside0.mk c4
            have DX3 := Aside0.mk c3b
            clear c1 c2 c3 c3b c4
            go_enter Tryz.func37, Tryz.ntmps37
            go_wp2_with (first | (go_at_call 19; (with_reducible refine (ratio_Cmp.run s s3 _ _ _ _ _ _ _ _ _ _ _ _ x y n3 m3 L3 L4 4 4 _ (H93.1.be HB.1) (H94.1.be HB.1) H4.1.na H5.1.na (by have := HL.out; omega)).mono ?_); rintro e w14 ⟨rfl, hb⟩; replace H4 := As (H4.1.be hb); replace H5 := As (H5.1.be hb); replace H9 := As (H9.1.be hb); replace H10 := As (H10.1.be hb); replace B5 := Bb B5 hb; replace B9 := Bb B9 hb; replace B11 := Bb B11 hb; replace HB := Ob HB hb; have kc14 : decide (0 < (cmpZ (pn s x y * pd m3) (pn s3 n3 m3 * pd y))) = true := decide_eq_true (by have q := F3.out; rw [cmpZ_pos, pn_of q.1, pd_of q.1, one_cmp q.2 (by have := q.1; omega)]; exact DX2.out); clear hb) | (go_at_call 19; (with_reducible refine (ratio_Cmp.run s s8 _ _ _ _ _ _ _ _ _ _ _ _ x y n8 m8 L3 L4 4 4 _ (H93.1.be HB.1) (H94.1.be HB.1) H9.1.na H10.1.na (by have := HL.out; omega)).mono ?_); rintro e w13 ⟨rfl, hb⟩; replace H4 := As (H4.1.be hb); replace H5 := As (H5.1.be hb); replace H9 := As (H9.1.be hb); replace H10 := As (H10.1.be hb); replace B5 := Bb B5 hb; replace B9 := Bb B9 hb; replace B11 := Bb B11 hb; replace HB := Ob HB hb; have kc13 : decide ((cmpZ (pn s x y * pd m8) (pn s8 n8 m8 * pd y)) ≤ 0) = false := decide_eq_false (by have q := F8.out; rw [cmpZ_nonpos, pn_of q.1, pd_of q.1, half_cmp q.2 (by have := q.1; omega)]; exact Int.not_le.2 DX3.out); clear hb; (try clear cb5_0); have cb5_0 := Cl0 B5; (try clear cb5_1); have cb5_1 := Cl1 B5; (try clear cb5_2); have cb5_2 := Cl2 B5; (try clear cb9_0); have cb9_0 := Cl0 B9; (try clear cb9_1); have cb9_1 := Cl1 B9; (try clear cb9_2); have cb9_2 := Cl2 B9) | ((with_reducible refine gate_store (t := 34) (p := 11) rfl ?_); refine Sto (t := 34) (p := 11) (by rfl) (.tmp 25) (by rfl) (by rfl) g11 #[.bool s8, .slice A8 k8 c8, .slice D8 l8 d8] (by rfl) (by first | rfl | (go_simp; done) | (go_simp; rfl)) B11 (by kernel_rfl) rfl (by kernel_rfl) ?_; intro w12 ho hB2; replace H4 := As (H4.1.o3 ho B11); replace H5 := As (H5.1.o3 ho B11); replace H9 := As (H9.1.o3 ho B11); replace H10 := As (H10.1.o3 ho B11); replace B5 := Oo B5 ho NE5_11; replace B9 := Oo B9 ho NE9_11; replace HB := Lo HB ho G11; replace B11 := hB2; clear ho hB2; (try clear cb5_0); have cb5_0 := Cl0 B5; (try clear cb5_1); have cb5_1 := Cl1 B5; (try clear cb5_2); have cb5_2 := Cl2 B5; (try clear cb11_0); have cb11_0 := Cl0 B11; (try clear cb11_1); have cb11_1 := Cl1 B11; (try clear cb11_2); have cb11_2 := Cl2 B11) | ((with_reducible refine gate_dst (N := 11) rfl ?_); refine box_event (by rfl) (N := 11) (by rfl) (cs := #[.bool false, .slice none 0 0, .slice none 0 0]) (t := 34) ?hr ?_; (case hr => first | (go_simp; done) | (go_simp; rfl)); intro g11 hgx w11 hbx hb; have B11 := As hbx; have NE5_11 := Nn B5 hgx; have NE9_11 := Nn B9 hgx; have G11 := Gg HB hgx; replace H4 := As (H4.1.be hb); replace H5 := As (H5.1.be hb); replace H9 := As (H9.1.be hb); replace H10 := As (H10.1.be hb); replace B5 := Bb B5 hb; replace B9 := Bb B9 hb; replace HB := Ob HB hb; clear hbx hb hgx) | (go_at_call 23; (with_reducible refine (ratio_Of.run (1) (2) _ (by decide) (by decide) (by decide) (by decide)).mono ?_); rintro e w8 ⟨s8, A8, k8, c8, D8, l8, d8, n8, m8, rfl, hq8, hr8, hm8, hz8, hb⟩; have H9 := Aside0.mk hq8; have H10 := Aside0.mk hr8; have F8 := Aside0.mk (And.intro hm8 hz8); clear hq8 hr8 hm8 hz8; replace H4 := As (H4.1.be hb); replace H5 := As (H5.1.be hb); replace B5 := Bb B5 hb; replace B9 := Bb B9 hb; replace HB := Ob HB hb; clear hb) | ((with_reducible refine gate_store (t := 34) (p := 9) rfl ?_); refine Sto (t := 34) (p := 9) (by rfl) (.tmp 21) (by rfl) (by rfl) g9 #[.bool s3, .slice A3 k3 c3, .slice D3 l3 d3] (by rfl) (by first | rfl | (go_simp; done) | (go_simp; rfl)) B9 (by kernel_rfl) rfl (by kernel_rfl) ?_; intro w7 ho hB2; replace H4 := As (H4.1.o3 ho B9); replace H5 := As (H5.1.o3 ho B9); replace B5 := Oo B5 ho NE5_9; replace HB := Lo HB ho G9; replace B9 := hB2; clear ho hB2) | ((with_reducible refine gate_dst (N := 9) rfl ?_); refine box_event (by rfl) (N := 9) (by rfl) (cs := #[.bool false, .slice none 0 0, .slice none 0 0]) (t := 34) ?hr ?_; (case hr => first | (go_simp; done) | (go_simp; rfl)); intro g9 hgx w6 hbx hb; have B9 := As hbx; have NE5_9 := Nn B5 hgx; have G9 := Gg HB hgx; replace H4 := As (H4.1.be hb); replace H5 := As (H5.1.be hb); replace B5 := Bb B5 hb; replace HB := Ob HB hb; clear hbx hb hgx) | (go_at_call 23; (with_reducible refine (ratio_Of.run (1) (1) _ (by decide) (by decide) (by decide) (by decide)).mono ?_); rintro e w3 ⟨s3, A3, k3, c3, D3, l3, d3, n3, m3, rfl, hq3, hr3, hm3, hz3, hb⟩; have H4 := Aside0.mk hq3; have H5 := Aside0.mk hr3; have F3 := Aside0.mk (And.intro hm3 hz3); clear hq3 hr3 hm3 hz3; replace B5 := Bb B5 hb; replace HB := Ob HB hb; clear hb) | (go_at_call 58; (with_reducible refine (estimate_check.run _ _ wss L _ (HW.out.below HB.out) HL.out.1 HL.out.2.1).mono ?_); rintro e w2 ⟨rfl, hb⟩; replace B5 := Bb B5 hb; replace HB := Ob HB hb; rw [HE.out]; clear hb) | ((with_reducible refine gate_dst (N := 5) rfl ?_); refine box_event (by rfl) (N := 5) (by rfl) (cs := #[.bool s, .slice D m1 m2, .slice E p1 p2]) (t := 34) ?hr ?_; (case hr => first | (go_simp; done) | (go_simp; rfl)); intro g5 hgx w1 hbx hb; have B5 := As hbx; have G5 := Gg HB hgx; replace HB := Ob HB hb; clear hbx hb hgx))
            go_ret2
            refine ⟨?_, HB.out⟩
            rw [show classV (wn wss) cut (pn s x y) (pd y) = (0, 3) by
              unfold classV
              rw [if_neg (fun h => h DX1.out), if_pos (Or.inr (Or.inr (Or.inr DX2.out)))]
              ]
            rfl
          · obtain ⟨q, rfl⟩ : ∃ q : Nat, cut = (q : Int) := ⟨cut.toNat, by omega⟩
            have DQ := Aside0.mk (show 1 ≤ q ∧ q < wss.length from ⟨by omega, by omega⟩)
            have DX2 := Aside0.mk (Int.not_lt.1 c4)
            have DX3 := Aside0.mk c3b
            have k1n : decide (q < 1) = false := decide_eq_false (by omega)
            have k1m : (q = 0) = False := eq_false (by omega)
            have k2n : decide (wss.length ≤ q) = false := decide_eq_false (by omega)
            have t1 : (q ≤ wss.length) = True := eq_true (by omega)
            have t2 : ((q : Int) ≤ (wss.length : Int)) = True := eq_true (by omega)
            have t3 : (q ≤ cap) = True := eq_true (by have := HC.out; omega)
            have t4 : ((q : Int) ≤ (cap : Int)) = True := eq_true (by have := HC.out; omega)
            obtain ⟨ad, _, _, _, ea, _, _⟩ := HW.out.at 0 (Int.le_refl 0) (by omega)
            subst ea
            have SA := Aside0.mk (show ∀ W, Below w.heap.size w W → Calls Tryz.prog 59 #[.slice (some ad) wss.length cap] W fun e w' => ∃ B k c, e = .returned (.slice B k c) ∧ NA w' (.slice B k c) (wn wss).sum (L + 2 + wss.length) ∧ Below W.heap.size W w' from fun W hb => estimate_sum.run (some ad) cap wss L W (HW.out.below hb) HL.out.1 (by have := HL.out; omega))
            have SD := Aside0.mk (show ∀ W, Below w.heap.size w W → Calls Tryz.prog 59 #[.slice (if cap = q then some ad else some (ad.add q)) (wss.length - q) (cap - q)] W fun e w' => ∃ B k c, e = .returned (.slice B k c) ∧ NA w' (.slice B k c) ((wn wss).drop q).sum (L + 2 + wss.length) ∧ Below W.heap.size W w' by
              intro W hb
              have T := estimate_sum.run (if cap = q then some ad else some (ad.add q)) (cap - q) (wss.drop q) L W ((HW.out.below hb).drop (by have := DQ.out; omega) HC.out) (by rw [List.length_drop]; have := HL.out; omega) (by have := HL.out; omega)
              rw [List.length_drop] at T
              refine T.mono ?_
              rintro e w1 ⟨B, k, c, h1, h2, h3⟩
              refine ⟨B, k, c, h1, ?_, h3⟩
              rw [show (wn wss).drop q = wn (wss.drop q) from (List.map_drop).symm]
              exact h2.mono (by omega))
            have ST := Aside0.mk (show ∀ W, Below w.heap.size w W → Calls Tryz.prog 59 #[.slice (some ad) q cap] W fun e w' => ∃ B k c, e = .returned (.slice B k c) ∧ NA w' (.slice B k c) ((wn wss).take q).sum (L + 2 + wss.length) ∧ Below W.heap.size W w' by
              intro W hb
              have T := estimate_sum.run (some ad) cap (wss.take q) L W ((HW.out.below hb).take (by have := DQ.out; omega)) (by rw [List.length_take]; have := HL.out; omega) (by have := HL.out; omega)
              have el : (wss.take q).length = q := by rw [List.length_take]; have := DQ.out; omega
              rw [el] at T
              refine T.mono ?_
              rintro e w1 ⟨B, k, c, h1, h2, h3⟩
              refine ⟨B, k, c, h1, ?_, h3⟩
              rw [show (wn wss).take q = wn (wss.take q) from (List.map_take).symm]
              exact h2.mono (by have := DQ.out; omega))
            have HL3 := Aside0.mk (show wss.length ≤ 21 by have h := (estV_ok DX1.out).1; rw [wn_len] at h; exact h)
            clear c1 c2 c3 c3b c4
            cases r1 : reach ((wn wss).drop q).sum (wn wss).sum (pn s x y) (pd y)
            · cases r2 : reach ((wn wss).take q).sum (wn wss).sum (pn s x y) (pd y)
              · have R1 := Aside0.mk r1
                have R2 := Aside0.mk r2
                go_enter Tryz.func37, Tryz.ntmps37
                go_wp2_with (first | (go_at_call 59; (with_reducible refine (SA.out _ HB.out).mono ?_); rintro e w15 ⟨A15, k15, c15, rfl, hr15, hb⟩; have H16 := Aside0.mk hr15; clear hr15; replace H4 := As (H4.1.be hb); replace H5 := As (H5.1.be hb); replace H9 := As (H9.1.be hb); replace H10 := As (H10.1.be hb); replace B5 := Bb B5 hb; replace B9 := Bb B9 hb; replace B11 := Bb B11 hb; replace HB := Ob HB hb; clear hb) | (go_at_call 19; (with_reducible refine (ratio_Cmp.run s s3 _ _ _ _ _ _ _ _ _ _ _ _ x y n3 m3 L3 L4 4 4 _ (H93.1.be HB.1) (H94.1.be HB.1) H4.1.na H5.1.na (by have := HL.out; have := HL3.out; omega)).mono ?_); rintro e w14 ⟨rfl, hb⟩; replace H4 := As (H4.1.be hb); replace H5 := As (H5.1.be hb); replace H9 := As (H9.1.be hb); replace H10 := As (H10.1.be hb); replace B5 := Bb B5 hb; replace B9 := Bb B9 hb; replace B11 := Bb B11 hb; replace HB := Ob HB hb; have kc14 : decide (0 < (cmpZ (pn s x y * pd m3) (pn s3 n3 m3 * pd y))) = false := decide_eq_false (by have q := F3.out; rw [cmpZ_pos, pn_of q.1, pd_of q.1, one_cmp q.2 (by have := q.1; omega)]; exact Int.not_lt.2 DX2.out); clear hb) | (go_at_call 19; (with_reducible refine (ratio_Cmp.run s s8 _ _ _ _ _ _ _ _ _ _ _ _ x y n8 m8 L3 L4 4 4 _ (H93.1.be HB.1) (H94.1.be HB.1) H9.1.na H10.1.na (by have := HL.out; have := HL3.out; omega)).mono ?_); rintro e w13 ⟨rfl, hb⟩; replace H4 := As (H4.1.be hb); replace H5 := As (H5.1.be hb); replace H9 := As (H9.1.be hb); replace H10 := As (H10.1.be hb); replace B5 := Bb B5 hb; replace B9 := Bb B9 hb; replace B11 := Bb B11 hb; replace HB := Ob HB hb; have kc13 : decide ((cmpZ (pn s x y * pd m8) (pn s8 n8 m8 * pd y)) ≤ 0) = false := decide_eq_false (by have q := F8.out; rw [cmpZ_nonpos, pn_of q.1, pd_of q.1, half_cmp q.2 (by have := q.1; omega)]; exact Int.not_le.2 DX3.out); clear hb; (try clear cb5_0); have cb5_0 := Cl0 B5; (try clear cb5_1); have cb5_1 := Cl1 B5; (try clear cb5_2); have cb5_2 := Cl2 B5; (try clear cb9_0); have cb9_0 := Cl0 B9; (try clear cb9_1); have cb9_1 := Cl1 B9; (try clear cb9_2); have cb9_2 := Cl2 B9) | ((with_reducible refine gate_store (t := 34) (p := 11) rfl ?_); refine Sto (t := 34) (p := 11) (by rfl) (.tmp 25) (by rfl) (by rfl) g11 #[.bool s8, .slice A8 k8 c8, .slice D8 l8 d8] (by rfl) (by first | rfl | (go_simp; done) | (go_simp; rfl)) B11 (by kernel_rfl) rfl (by kernel_rfl) ?_; intro w12 ho hB2; replace H4 := As (H4.1.o3 ho B11); replace H5 := As (H5.1.o3 ho B11); replace H9 := As (H9.1.o3 ho B11); replace H10 := As (H10.1.o3 ho B11); replace B5 := Oo B5 ho NE5_11; replace B9 := Oo B9 ho NE9_11; replace HB := Lo HB ho G11; replace B11 := hB2; clear ho hB2; (try clear cb5_0); have cb5_0 := Cl0 B5; (try clear cb5_1); have cb5_1 := Cl1 B5; (try clear cb5_2); have cb5_2 := Cl2 B5; (try clear cb11_0); have cb11_0 := Cl0 B11; (try clear cb11_1); have cb11_1 := Cl1 B11; (try clear cb11_2); have cb11_2 := Cl2 B11) | ((with_reducible refine gate_dst (N := 11) rfl ?_); refine box_event (by rfl) (N := 11) (by rfl) (cs := #[.bool false, .slice none 0 0, .slice none 0 0]) (t := 34) ?hr ?_; (case hr => first | (go_simp; done) | (go_simp; rfl)); intro g11 hgx w11 hbx hb; have B11 := As hbx; have NE5_11 := Nn B5 hgx; have NE9_11 := Nn B9 hgx; have G11 := Gg HB hgx; replace H4 := As (H4.1.be hb); replace H5 := As (H5.1.be hb); replace H9 := As (H9.1.be hb); replace H10 := As (H10.1.be hb); replace B5 := Bb B5 hb; replace B9 := Bb B9 hb; replace HB := Ob HB hb; clear hbx hb hgx) | (go_at_call 23; (with_reducible refine (ratio_Of.run (1) (2) _ (by decide) (by decide) (by decide) (by decide)).mono ?_); rintro e w8 ⟨s8, A8, k8, c8, D8, l8, d8, n8, m8, rfl, hq8, hr8, hm8, hz8, hb⟩; have H9 := Aside0.mk hq8; have H10 := Aside0.mk hr8; have F8 := Aside0.mk (And.intro hm8 hz8); clear hq8 hr8 hm8 hz8; replace H4 := As (H4.1.be hb); replace H5 := As (H5.1.be hb); replace B5 := Bb B5 hb; replace B9 := Bb B9 hb; replace HB := Ob HB hb; clear hb) | ((with_reducible refine gate_store (t := 34) (p := 9) rfl ?_); refine Sto (t := 34) (p := 9) (by rfl) (.tmp 21) (by rfl) (by rfl) g9 #[.bool s3, .slice A3 k3 c3, .slice D3 l3 d3] (by rfl) (by first | rfl | (go_simp; done) | (go_simp; rfl)) B9 (by kernel_rfl) rfl (by kernel_rfl) ?_; intro w7 ho hB2; replace H4 := As (H4.1.o3 ho B9); replace H5 := As (H5.1.o3 ho B9); replace B5 := Oo B5 ho NE5_9; replace HB := Lo HB ho G9; replace B9 := hB2; clear ho hB2) | ((with_reducible refine gate_dst (N := 9) rfl ?_); refine box_event (by rfl) (N := 9) (by rfl) (cs := #[.bool false, .slice none 0 0, .slice none 0 0]) (t := 34) ?hr ?_; (case hr => first | (go_simp; done) | (go_simp; rfl)); intro g9 hgx w6 hbx hb; have B9 := As hbx; have NE5_9 := Nn B5 hgx; have G9 := Gg HB hgx; replace H4 := As (H4.1.be hb); replace H5 := As (H5.1.be hb); replace B5 := Bb B5 hb; replace HB := Ob HB hb; clear hbx hb hgx) | (go_at_call 23; (with_reducible refine (ratio_Of.run (1) (1) _ (by decide) (by decide) (by decide) (by decide)).mono ?_); rintro e w3 ⟨s3, A3, k3, c3, D3, l3, d3, n3, m3, rfl, hq3, hr3, hm3, hz3, hb⟩; have H4 := Aside0.mk hq3; have H5 := Aside0.mk hr3; have F3 := Aside0.mk (And.intro hm3 hz3); clear hq3 hr3 hm3 hz3; replace B5 := Bb B5 hb; replace HB := Ob HB hb; clear hb) | (go_at_call 58; (with_reducible refine (estimate_check.run _ _ wss L _ (HW.out.below HB.out) HL.out.1 HL.out.2.1).mono ?_); rintro e w2 ⟨rfl, hb⟩; replace B5 := Bb B5 hb; replace HB := Ob HB hb; rw [HE.out]; clear hb) | ((with_reducible refine gate_dst (N := 5) rfl ?_); refine box_event (by rfl) (N := 5) (by rfl) (cs := #[.bool s, .slice D m1 m2, .slice E p1 p2]) (t := 34) ?hr ?_; (case hr => first | (go_simp; done) | (go_simp; rfl)); intro g5 hgx w1 hbx hb; have B5 := As hbx; have G5 := Gg HB hgx; replace HB := Ob HB hb; clear hbx hb hgx))
                replace H4 := As (H4.1.drew)
                replace H5 := As (H5.1.drew)
                replace H9 := As (H9.1.drew)
                replace H10 := As (H10.1.drew)
                replace H16 := As (H16.1.drew)
                replace B5 := Bd B5
                replace B9 := Bd B9
                replace B11 := Bd B11
                replace HB := Od HB
                refine start_ (n := 8) (S := fun w' => w'.cell? ⟨g5, 0, none⟩ = some (.bool s) ∧ w'.cell? ⟨g5, 1, none⟩ = some (.slice D m1 m2) ∧ w'.cell? ⟨g5, 2, none⟩ = some (.slice E p1 p2)) (ds := []) (Bt 8 0) (by kernel_rfl) rfl (by kernel_rfl) ⟨Cl0 B5, Cl1 B5, Cl2 B5⟩ (fun hHeld => ?_)
                generalize w15.drew = w17 at hHeld H4 H5 H9 H10 H16 B5 B9 B11 HB ⊢
                refine pure_ (i := 0) (N := some 50) (v := ?_) (a' := ?_) (Bt 8 1) rfl rfl (by kernel_rfl) (fun _ _ _ h => h) (Or.inl ⟨by rfl, ?_⟩) ?_ ?_
                rotate_left
                · intro w'
                  go_simp
                  with_reducible rfl
                rotate_left
                · simp only [Nrm, Option.some.injEq, List.setIfInBounds_toArray, List.set_cons_zero, List.set_cons_succ, i64_w, i32_w]
                  rfl
                refine pure_ (i := 1) (N := some 51) (v := ?_) (a' := ?_) (Bt 8 3) rfl rfl (by kernel_rfl) (fun _ _ _ h => h) (Or.inl ⟨by rfl, ?_⟩) ?_ ?_
                rotate_left
                · intro w'
                  go_simp
                  with_reducible rfl
                rotate_left
                · simp only [Nrm, Option.some.injEq, List.setIfInBounds_toArray, List.set_cons_zero, List.set_cons_succ, i64_w, i32_w]
                  rfl
                refine pure_ (i := 2) (N := some 52) (v := ?_) (a' := ?_) (Bt 8 7) rfl rfl (by kernel_rfl) (fun _ _ _ h => h) (Or.inl ⟨by rfl, ?_⟩) ?_ ?_
                rotate_left
                · intro w'
                  go_simp
                  with_reducible rfl
                rotate_left
                · simp only [Nrm, Option.some.injEq, List.setIfInBounds_toArray, List.set_cons_zero, List.set_cons_succ, i64_w, i32_w]
                  rfl
                refine pure_ (i := 4) (N := some 54) (v := ?_) (a' := ?_) (Bt 8 23) rfl rfl (by kernel_rfl) (fun _ _ _ h => h) (Or.inl ⟨by rfl, ?_⟩) ?_ ?_
                rotate_left
                · intro w'
                  go_simp
                  with_reducible rfl
                rotate_left
                · simp only [Nrm, Option.some.injEq, List.setIfInBounds_toArray, List.set_cons_zero, List.set_cons_succ, i64_w, i32_w]
                  rfl
                refine take_ (i := 5) (N := some 55) (v := ?_) (a' := ?_) (Bt 8 55) rfl rfl (by kernel_rfl) (fun _ _ _ h => h) (Or.inl ⟨by rfl, ?_⟩) hHeld ?_ ?_
                rotate_left
                · rintro w' ⟨s0, s1, s2⟩
                  go_simp
                  with_reducible rfl
                rotate_left
                · simp only [Nrm, Option.some.injEq, List.setIfInBounds_toArray, List.set_cons_zero, List.set_cons_succ, i64_w, i32_w]
                  rfl
                refine one_ (i := 3) (N := some 53) (Bt 8 63) rfl rfl (by kernel_rfl) (by decide) (fun K hK => ?_)
                refine goes_ Tryz.func59 (by kernel_rfl) rfl #[.slice (if cap = q then some ad else some (ad.add q)) (wss.length - q) (cap - q)] (by rfl) rfl rfl (by (try simp only [List.map_toArray, List.map_cons, List.map_nil]); first | done | rfl) ?_
                with_reducible refine (SD.out _ HB.out).mono ?_
                rintro e w33 ⟨A33, k33, c33, rfl, hr33, hb⟩
                refine ⟨_, rfl, ?_⟩
                have H34 := Aside0.mk hr33
                clear hr33
                replace H4 := As (H4.1.be hb)
                replace H5 := As (H5.1.be hb)
                replace H9 := As (H9.1.be hb)
                replace H10 := As (H10.1.be hb)
                replace H16 := As (H16.1.be hb)
                replace B5 := Bb B5 hb
                replace B9 := Bb B9 hb
                replace B11 := Bb B11 hb
                replace HB := Ob HB hb
                clear hb
                refine hK.out _ _ ⟨Cl0 B5, Cl1 B5, Cl2 B5⟩ (fun hHeld => ?_)
                clear hK K
                refine norm_ (a' := ?_) ?_ ?_
                rotate_left
                · show Act.put _ (some 53) _ = _
                  simp only [Nrm, Option.some.injEq, List.setIfInBounds_toArray, List.set_cons_zero, List.set_cons_succ, i64_w, i32_w]
                  rfl
                refine one_ (i := 6) (N := some 56) (Bt 8 127) rfl rfl (by kernel_rfl) (by decide) (fun K hK => ?_)
                refine goes_ Tryz.func60 (by kernel_rfl) rfl #[.slice A33 k33 c33, .slice A15 k15 c15, .agg #[.bool s, .slice D m1 m2, .slice E p1 p2]] (by rfl) rfl rfl (by (try simp only [List.map_toArray, List.map_cons, List.map_nil]); first | done | rfl) ?_
                with_reducible refine (estimate_reaches.run _ _ _ _ s _ _ _ _ _ _ _ _ ((wn wss).drop q).sum (wn wss).sum x y (L + 2 + wss.length) (L + 2 + wss.length) L3 L4 _ H34.1.na H16.1.na (H93.1.be HB.1) (H94.1.be HB.1) SP.out (by have := HL.out; have := HL3.out; omega)).mono ?_
                rintro e w48 ⟨rfl, hb⟩
                refine ⟨_, rfl, ?_⟩
                replace H4 := As (H4.1.be hb)
                replace H5 := As (H5.1.be hb)
                replace H9 := As (H9.1.be hb)
                replace H10 := As (H10.1.be hb)
                replace H16 := As (H16.1.be hb)
                replace H34 := As (H34.1.be hb)
                replace B5 := Bb B5 hb
                replace B9 := Bb B9 hb
                replace B11 := Bb B11 hb
                replace HB := Ob HB hb
                clear hb
                refine hK.out _ _ ⟨Cl0 B5, Cl1 B5, Cl2 B5⟩ (fun hHeld => ?_)
                clear hK K
                refine norm_ (a' := ?_) ?_ ?_
                rotate_left
                · show Act.put _ (some 56) _ = _
                  simp only [Nrm, Option.some.injEq, List.setIfInBounds_toArray, List.set_cons_zero, List.set_cons_succ, i64_w, i32_w]
                  rfl
                refine pure_ (i := 7) (N := some 49) (v := ?_) (a' := ?_) (Bt 8 255) rfl rfl (by kernel_rfl) (fun _ _ _ h => h) (Or.inl ⟨by rfl, ?_⟩) ?_ ?_
                rotate_left
                · intro w'
                  go_simp
                  with_reducible rfl
                rotate_left
                · simp only [Nrm, Option.some.injEq, List.setIfInBounds_toArray, List.set_cons_zero, List.set_cons_succ, i64_w, i32_w]
                  rfl
                refine done_ (by kernel_rfl) ?_
                generalize (if cap = q then some ad else some (ad.add q)) = Zq
                go_wp2
                replace H4 := As (H4.1.drew)
                replace H5 := As (H5.1.drew)
                replace H9 := As (H9.1.drew)
                replace H10 := As (H10.1.drew)
                replace H16 := As (H16.1.drew)
                replace H34 := As (H34.1.drew)
                replace B5 := Bd B5
                replace B9 := Bd B9
                replace B11 := Bd B11
                replace HB := Od HB
                refine start_ (n := 8) (S := fun w' => w'.cell? ⟨g5, 0, none⟩ = some (.bool s) ∧ w'.cell? ⟨g5, 1, none⟩ = some (.slice D m1 m2) ∧ w'.cell? ⟨g5, 2, none⟩ = some (.slice E p1 p2)) (ds := []) (Bt 8 0) (by kernel_rfl) rfl (by kernel_rfl) ⟨Cl0 B5, Cl1 B5, Cl2 B5⟩ (fun hHeld => ?_)
                generalize w48.drew = w58 at hHeld H4 H5 H9 H10 H16 H34 B5 B9 B11 HB ⊢
                refine pure_ (i := 0) (N := some 58) (v := ?_) (a' := ?_) (Bt 8 1) rfl rfl (by kernel_rfl) (fun _ _ _ h => h) (Or.inl ⟨by rfl, ?_⟩) ?_ ?_
                rotate_left
                · intro w'
                  go_simp
                  with_reducible rfl
                rotate_left
                · simp only [Nrm, Option.some.injEq, List.setIfInBounds_toArray, List.set_cons_zero, List.set_cons_succ, i64_w, i32_w]
                  rfl
                refine pure_ (i := 1) (N := some 59) (v := ?_) (a' := ?_) (Bt 8 3) rfl rfl (by kernel_rfl) (fun _ _ _ h => h) (Or.inl ⟨by rfl, ?_⟩) ?_ ?_
                rotate_left
                · intro w'
                  go_simp
                  with_reducible rfl
                rotate_left
                · simp only [Nrm, Option.some.injEq, List.setIfInBounds_toArray, List.set_cons_zero, List.set_cons_succ, i64_w, i32_w]
                  rfl
                refine pure_ (i := 2) (N := some 60) (v := ?_) (a' := ?_) (Bt 8 7) rfl rfl (by kernel_rfl) (fun _ _ _ h => h) (Or.inl ⟨by rfl, ?_⟩) ?_ ?_
                rotate_left
                · intro w'
                  go_simp
                  with_reducible rfl
                rotate_left
                · simp only [Nrm, Option.some.injEq, List.setIfInBounds_toArray, List.set_cons_zero, List.set_cons_succ, i64_w, i32_w]
                  rfl
                refine pure_ (i := 4) (N := some 62) (v := ?_) (a' := ?_) (Bt 8 23) rfl rfl (by kernel_rfl) (fun _ _ _ h => h) (Or.inl ⟨by rfl, ?_⟩) ?_ ?_
                rotate_left
                · intro w'
                  go_simp
                  with_reducible rfl
                rotate_left
                · simp only [Nrm, Option.some.injEq, List.setIfInBounds_toArray, List.set_cons_zero, List.set_cons_succ, i64_w, i32_w]
                  rfl
                refine take_ (i := 5) (N := some 63) (v := ?_) (a' := ?_) (Bt 8 55) rfl rfl (by kernel_rfl) (fun _ _ _ h => h) (Or.inl ⟨by rfl, ?_⟩) hHeld ?_ ?_
                rotate_left
                · rintro w' ⟨s0, s1, s2⟩
                  go_simp
                  with_reducible rfl
                rotate_left
                · simp only [Nrm, Option.some.injEq, List.setIfInBounds_toArray, List.set_cons_zero, List.set_cons_succ, i64_w, i32_w]
                  rfl
                refine one_ (i := 3) (N := some 61) (Bt 8 63) rfl rfl (by kernel_rfl) (by decide) (fun K hK => ?_)
                refine goes_ Tryz.func59 (by kernel_rfl) rfl #[.slice (some ad) q cap] (by rfl) rfl rfl (by (try simp only [List.map_toArray, List.map_cons, List.map_nil]); first | done | rfl) ?_
                with_reducible refine (ST.out _ HB.out).mono ?_
                rintro e w116 ⟨A116, k116, c116, rfl, hr116, hb⟩
                refine ⟨_, rfl, ?_⟩
                have H117 := Aside0.mk hr116
                clear hr116
                replace H4 := As (H4.1.be hb)
                replace H5 := As (H5.1.be hb)
                replace H9 := As (H9.1.be hb)
                replace H10 := As (H10.1.be hb)
                replace H16 := As (H16.1.be hb)
                replace H34 := As (H34.1.be hb)
                replace B5 := Bb B5 hb
                replace B9 := Bb B9 hb
                replace B11 := Bb B11 hb
                replace HB := Ob HB hb
                clear hb
                refine hK.out _ _ ⟨Cl0 B5, Cl1 B5, Cl2 B5⟩ (fun hHeld => ?_)
                clear hK K
                refine norm_ (a' := ?_) ?_ ?_
                rotate_left
                · show Act.put _ (some 61) _ = _
                  simp only [Nrm, Option.some.injEq, List.setIfInBounds_toArray, List.set_cons_zero, List.set_cons_succ, i64_w, i32_w]
                  rfl
                refine one_ (i := 6) (N := some 64) (Bt 8 127) rfl rfl (by kernel_rfl) (by decide) (fun K hK => ?_)
                refine goes_ Tryz.func60 (by kernel_rfl) rfl #[.slice A116 k116 c116, .slice A15 k15 c15, .agg #[.bool s, .slice D m1 m2, .slice E p1 p2]] (by rfl) rfl rfl (by (try simp only [List.map_toArray, List.map_cons, List.map_nil]); first | done | rfl) ?_
                with_reducible refine (estimate_reaches.run _ _ _ _ s _ _ _ _ _ _ _ _ ((wn wss).take q).sum (wn wss).sum x y (L + 2 + wss.length) (L + 2 + wss.length) L3 L4 _ H117.1.na H16.1.na (H93.1.be HB.1) (H94.1.be HB.1) SP.out (by have := HL.out; have := HL3.out; omega)).mono ?_
                rintro e w131 ⟨rfl, hb⟩
                refine ⟨_, rfl, ?_⟩
                replace H4 := As (H4.1.be hb)
                replace H5 := As (H5.1.be hb)
                replace H9 := As (H9.1.be hb)
                replace H10 := As (H10.1.be hb)
                replace H16 := As (H16.1.be hb)
                replace H34 := As (H34.1.be hb)
                replace H117 := As (H117.1.be hb)
                replace B5 := Bb B5 hb
                replace B9 := Bb B9 hb
                replace B11 := Bb B11 hb
                replace HB := Ob HB hb
                clear hb
                refine hK.out _ _ ⟨Cl0 B5, Cl1 B5, Cl2 B5⟩ (fun hHeld => ?_)
                clear hK K
                refine norm_ (a' := ?_) ?_ ?_
                rotate_left
                · show Act.put _ (some 64) _ = _
                  simp only [Nrm, Option.some.injEq, List.setIfInBounds_toArray, List.set_cons_zero, List.set_cons_succ, i64_w, i32_w]
                  rfl
                refine pure_ (i := 7) (N := some 57) (v := ?_) (a' := ?_) (Bt 8 255) rfl rfl (by kernel_rfl) (fun _ _ _ h => h) (Or.inl ⟨by rfl, ?_⟩) ?_ ?_
                rotate_left
                · intro w'
                  go_simp
                  with_reducible rfl
                rotate_left
                · simp only [Nrm, Option.some.injEq, List.setIfInBounds_toArray, List.set_cons_zero, List.set_cons_succ, i64_w, i32_w]
                  rfl
                refine done_ (by kernel_rfl) ?_
                go_wp2
                go_ret2
                refine ⟨?_, HB.out⟩
                rw [show classV (wn wss) (q : Int) (pn s x y) (pd y) = (-1, 0) by
                  unfold classV
                  rw [if_neg (fun h => h DX1.out), if_neg (by have q1 := DQ.out; have q2 := DX2.out; have q3 := DX3.out; rw [wn_len]; omega), Int.toNat_natCast, R1.out, R2.out, if_neg (by decide), if_neg (by decide)]
                  ]
                rfl
              · have R1 := Aside0.mk r1
                have R2 := Aside0.mk r2
                go_enter Tryz.func37, Tryz.ntmps37
                go_wp2_with (first | (go_at_call 59; (with_reducible refine (SA.out _ HB.out).mono ?_); rintro e w15 ⟨A15, k15, c15, rfl, hr15, hb⟩; have H16 := Aside0.mk hr15; clear hr15; replace H4 := As (H4.1.be hb); replace H5 := As (H5.1.be hb); replace H9 := As (H9.1.be hb); replace H10 := As (H10.1.be hb); replace B5 := Bb B5 hb; replace B9 := Bb B9 hb; replace B11 := Bb B11 hb; replace HB := Ob HB hb; clear hb) | (go_at_call 19; (with_reducible refine (ratio_Cmp.run s s3 _ _ _ _ _ _ _ _ _ _ _ _ x y n3 m3 L3 L4 4 4 _ (H93.1.be HB.1) (H94.1.be HB.1) H4.1.na H5.1.na (by have := HL.out; have := HL3.out; omega)).mono ?_); rintro e w14 ⟨rfl, hb⟩; replace H4 := As (H4.1.be hb); replace H5 := As (H5.1.be hb); replace H9 := As (H9.1.be hb); replace H10 := As (H10.1.be hb); replace B5 := Bb B5 hb; replace B9 := Bb B9 hb; replace B11 := Bb B11 hb; replace HB := Ob HB hb; have kc14 : decide (0 < (cmpZ (pn s x y * pd m3) (pn s3 n3 m3 * pd y))) = false := decide_eq_false (by have q := F3.out; rw [cmpZ_pos, pn_of q.1, pd_of q.1, one_cmp q.2 (by have := q.1; omega)]; exact Int.not_lt.2 DX2.out); clear hb) | (go_at_call 19; (with_reducible refine (ratio_Cmp.run s s8 _ _ _ _ _ _ _ _ _ _ _ _ x y n8 m8 L3 L4 4 4 _ (H93.1.be HB.1) (H94.1.be HB.1) H9.1.na H10.1.na (by have := HL.out; have := HL3.out; omega)).mono ?_); rintro e w13 ⟨rfl, hb⟩; replace H4 := As (H4.1.be hb); replace H5 := As (H5.1.be hb); replace H9 := As (H9.1.be hb); replace H10 := As (H10.1.be hb); replace B5 := Bb B5 hb; replace B9 := Bb B9 hb; replace B11 := Bb B11 hb; replace HB := Ob HB hb; have kc13 : decide ((cmpZ (pn s x y * pd m8) (pn s8 n8 m8 * pd y)) ≤ 0) = false := decide_eq_false (by have q := F8.out; rw [cmpZ_nonpos, pn_of q.1, pd_of q.1, half_cmp q.2 (by have := q.1; omega)]; exact Int.not_le.2 DX3.out); clear hb; (try clear cb5_0); have cb5_0 := Cl0 B5; (try clear cb5_1); have cb5_1 := Cl1 B5; (try clear cb5_2); have cb5_2 := Cl2 B5; (try clear cb9_0); have cb9_0 := Cl0 B9; (try clear cb9_1); have cb9_1 := Cl1 B9; (try clear cb9_2); have cb9_2 := Cl2 B9) | ((with_reducible refine gate_store (t := 34) (p := 11) rfl ?_); refine Sto (t := 34) (p := 11) (by rfl) (.tmp 25) (by rfl) (by rfl) g11 #[.bool s8, .slice A8 k8 c8, .slice D8 l8 d8] (by rfl) (by first | rfl | (go_simp; done) | (go_simp; rfl)) B11 (by kernel_rfl) rfl (by kernel_rfl) ?_; intro w12 ho hB2; replace H4 := As (H4.1.o3 ho B11); replace H5 := As (H5.1.o3 ho B11); replace H9 := As (H9.1.o3 ho B11); replace H10 := As (H10.1.o3 ho B11); replace B5 := Oo B5 ho NE5_11; replace B9 := Oo B9 ho NE9_11; replace HB := Lo HB ho G11; replace B11 := hB2; clear ho hB2; (try clear cb5_0); have cb5_0 := Cl0 B5; (try clear cb5_1); have cb5_1 := Cl1 B5; (try clear cb5_2); have cb5_2 := Cl2 B5; (try clear cb11_0); have cb11_0 := Cl0 B11; (try clear cb11_1); have cb11_1 := Cl1 B11; (try clear cb11_2); have cb11_2 := Cl2 B11) | ((with_reducible refine gate_dst (N := 11) rfl ?_); refine box_event (by rfl) (N := 11) (by rfl) (cs := #[.bool false, .slice none 0 0, .slice none 0 0]) (t := 34) ?hr ?_; (case hr => first | (go_simp; done) | (go_simp; rfl)); intro g11 hgx w11 hbx hb; have B11 := As hbx; have NE5_11 := Nn B5 hgx; have NE9_11 := Nn B9 hgx; have G11 := Gg HB hgx; replace H4 := As (H4.1.be hb); replace H5 := As (H5.1.be hb); replace H9 := As (H9.1.be hb); replace H10 := As (H10.1.be hb); replace B5 := Bb B5 hb; replace B9 := Bb B9 hb; replace HB := Ob HB hb; clear hbx hb hgx) | (go_at_call 23; (with_reducible refine (ratio_Of.run (1) (2) _ (by decide) (by decide) (by decide) (by decide)).mono ?_); rintro e w8 ⟨s8, A8, k8, c8, D8, l8, d8, n8, m8, rfl, hq8, hr8, hm8, hz8, hb⟩; have H9 := Aside0.mk hq8; have H10 := Aside0.mk hr8; have F8 := Aside0.mk (And.intro hm8 hz8); clear hq8 hr8 hm8 hz8; replace H4 := As (H4.1.be hb); replace H5 := As (H5.1.be hb); replace B5 := Bb B5 hb; replace B9 := Bb B9 hb; replace HB := Ob HB hb; clear hb) | ((with_reducible refine gate_store (t := 34) (p := 9) rfl ?_); refine Sto (t := 34) (p := 9) (by rfl) (.tmp 21) (by rfl) (by rfl) g9 #[.bool s3, .slice A3 k3 c3, .slice D3 l3 d3] (by rfl) (by first | rfl | (go_simp; done) | (go_simp; rfl)) B9 (by kernel_rfl) rfl (by kernel_rfl) ?_; intro w7 ho hB2; replace H4 := As (H4.1.o3 ho B9); replace H5 := As (H5.1.o3 ho B9); replace B5 := Oo B5 ho NE5_9; replace HB := Lo HB ho G9; replace B9 := hB2; clear ho hB2) | ((with_reducible refine gate_dst (N := 9) rfl ?_); refine box_event (by rfl) (N := 9) (by rfl) (cs := #[.bool false, .slice none 0 0, .slice none 0 0]) (t := 34) ?hr ?_; (case hr => first | (go_simp; done) | (go_simp; rfl)); intro g9 hgx w6 hbx hb; have B9 := As hbx; have NE5_9 := Nn B5 hgx; have G9 := Gg HB hgx; replace H4 := As (H4.1.be hb); replace H5 := As (H5.1.be hb); replace B5 := Bb B5 hb; replace HB := Ob HB hb; clear hbx hb hgx) | (go_at_call 23; (with_reducible refine (ratio_Of.run (1) (1) _ (by decide) (by decide) (by decide) (by decide)).mono ?_); rintro e w3 ⟨s3, A3, k3, c3, D3, l3, d3, n3, m3, rfl, hq3, hr3, hm3, hz3, hb⟩; have H4 := Aside0.mk hq3; have H5 := Aside0.mk hr3; have F3 := Aside0.mk (And.intro hm3 hz3); clear hq3 hr3 hm3 hz3; replace B5 := Bb B5 hb; replace HB := Ob HB hb; clear hb) | (go_at_call 58; (with_reducible refine (estimate_check.run _ _ wss L _ (HW.out.below HB.out) HL.out.1 HL.out.2.1).mono ?_); rintro e w2 ⟨rfl, hb⟩; replace B5 := Bb B5 hb; replace HB := Ob HB hb; rw [HE.out]; clear hb) | ((with_reducible refine gate_dst (N := 5) rfl ?_); refine box_event (by rfl) (N := 5) (by rfl) (cs := #[.bool s, .slice D m1 m2, .slice E p1 p2]) (t := 34) ?hr ?_; (case hr => first | (go_simp; done) | (go_simp; rfl)); intro g5 hgx w1 hbx hb; have B5 := As hbx; have G5 := Gg HB hgx; replace HB := Ob HB hb; clear hbx hb hgx))
                replace H4 := As (H4.1.drew)
                replace H5 := As (H5.1.drew)
                replace H9 := As (H9.1.drew)
                replace H10 := As (H10.1.drew)
                replace H16 := As (H16.1.drew)
                replace B5 := Bd B5
                replace B9 := Bd B9
                replace B11 := Bd B11
                replace HB := Od HB
                refine start_ (n := 8) (S := fun w' => w'.cell? ⟨g5, 0, none⟩ = some (.bool s) ∧ w'.cell? ⟨g5, 1, none⟩ = some (.slice D m1 m2) ∧ w'.cell? ⟨g5, 2, none⟩ = some (.slice E p1 p2)) (ds := []) (Bt 8 0) (by kernel_rfl) rfl (by kernel_rfl) ⟨Cl0 B5, Cl1 B5, Cl2 B5⟩ (fun hHeld => ?_)
                generalize w15.drew = w17 at hHeld H4 H5 H9 H10 H16 B5 B9 B11 HB ⊢
                refine pure_ (i := 0) (N := some 50) (v := ?_) (a' := ?_) (Bt 8 1) rfl rfl (by kernel_rfl) (fun _ _ _ h => h) (Or.inl ⟨by rfl, ?_⟩) ?_ ?_
                rotate_left
                · intro w'
                  go_simp
                  with_reducible rfl
                rotate_left
                · simp only [Nrm, Option.some.injEq, List.setIfInBounds_toArray, List.set_cons_zero, List.set_cons_succ, i64_w, i32_w]
                  rfl
                refine pure_ (i := 1) (N := some 51) (v := ?_) (a' := ?_) (Bt 8 3) rfl rfl (by kernel_rfl) (fun _ _ _ h => h) (Or.inl ⟨by rfl, ?_⟩) ?_ ?_
                rotate_left
                · intro w'
                  go_simp
                  with_reducible rfl
                rotate_left
                · simp only [Nrm, Option.some.injEq, List.setIfInBounds_toArray, List.set_cons_zero, List.set_cons_succ, i64_w, i32_w]
                  rfl
                refine pure_ (i := 2) (N := some 52) (v := ?_) (a' := ?_) (Bt 8 7) rfl rfl (by kernel_rfl) (fun _ _ _ h => h) (Or.inl ⟨by rfl, ?_⟩) ?_ ?_
                rotate_left
                · intro w'
                  go_simp
                  with_reducible rfl
                rotate_left
                · simp only [Nrm, Option.some.injEq, List.setIfInBounds_toArray, List.set_cons_zero, List.set_cons_succ, i64_w, i32_w]
                  rfl
                refine pure_ (i := 4) (N := some 54) (v := ?_) (a' := ?_) (Bt 8 23) rfl rfl (by kernel_rfl) (fun _ _ _ h => h) (Or.inl ⟨by rfl, ?_⟩) ?_ ?_
                rotate_left
                · intro w'
                  go_simp
                  with_reducible rfl
                rotate_left
                · simp only [Nrm, Option.some.injEq, List.setIfInBounds_toArray, List.set_cons_zero, List.set_cons_succ, i64_w, i32_w]
                  rfl
                refine take_ (i := 5) (N := some 55) (v := ?_) (a' := ?_) (Bt 8 55) rfl rfl (by kernel_rfl) (fun _ _ _ h => h) (Or.inl ⟨by rfl, ?_⟩) hHeld ?_ ?_
                rotate_left
                · rintro w' ⟨s0, s1, s2⟩
                  go_simp
                  with_reducible rfl
                rotate_left
                · simp only [Nrm, Option.some.injEq, List.setIfInBounds_toArray, List.set_cons_zero, List.set_cons_succ, i64_w, i32_w]
                  rfl
                refine one_ (i := 3) (N := some 53) (Bt 8 63) rfl rfl (by kernel_rfl) (by decide) (fun K hK => ?_)
                refine goes_ Tryz.func59 (by kernel_rfl) rfl #[.slice (if cap = q then some ad else some (ad.add q)) (wss.length - q) (cap - q)] (by rfl) rfl rfl (by (try simp only [List.map_toArray, List.map_cons, List.map_nil]); first | done | rfl) ?_
                with_reducible refine (SD.out _ HB.out).mono ?_
                rintro e w33 ⟨A33, k33, c33, rfl, hr33, hb⟩
                refine ⟨_, rfl, ?_⟩
                have H34 := Aside0.mk hr33
                clear hr33
                replace H4 := As (H4.1.be hb)
                replace H5 := As (H5.1.be hb)
                replace H9 := As (H9.1.be hb)
                replace H10 := As (H10.1.be hb)
                replace H16 := As (H16.1.be hb)
                replace B5 := Bb B5 hb
                replace B9 := Bb B9 hb
                replace B11 := Bb B11 hb
                replace HB := Ob HB hb
                clear hb
                refine hK.out _ _ ⟨Cl0 B5, Cl1 B5, Cl2 B5⟩ (fun hHeld => ?_)
                clear hK K
                refine norm_ (a' := ?_) ?_ ?_
                rotate_left
                · show Act.put _ (some 53) _ = _
                  simp only [Nrm, Option.some.injEq, List.setIfInBounds_toArray, List.set_cons_zero, List.set_cons_succ, i64_w, i32_w]
                  rfl
                refine one_ (i := 6) (N := some 56) (Bt 8 127) rfl rfl (by kernel_rfl) (by decide) (fun K hK => ?_)
                refine goes_ Tryz.func60 (by kernel_rfl) rfl #[.slice A33 k33 c33, .slice A15 k15 c15, .agg #[.bool s, .slice D m1 m2, .slice E p1 p2]] (by rfl) rfl rfl (by (try simp only [List.map_toArray, List.map_cons, List.map_nil]); first | done | rfl) ?_
                with_reducible refine (estimate_reaches.run _ _ _ _ s _ _ _ _ _ _ _ _ ((wn wss).drop q).sum (wn wss).sum x y (L + 2 + wss.length) (L + 2 + wss.length) L3 L4 _ H34.1.na H16.1.na (H93.1.be HB.1) (H94.1.be HB.1) SP.out (by have := HL.out; have := HL3.out; omega)).mono ?_
                rintro e w48 ⟨rfl, hb⟩
                refine ⟨_, rfl, ?_⟩
                replace H4 := As (H4.1.be hb)
                replace H5 := As (H5.1.be hb)
                replace H9 := As (H9.1.be hb)
                replace H10 := As (H10.1.be hb)
                replace H16 := As (H16.1.be hb)
                replace H34 := As (H34.1.be hb)
                replace B5 := Bb B5 hb
                replace B9 := Bb B9 hb
                replace B11 := Bb B11 hb
                replace HB := Ob HB hb
                clear hb
                refine hK.out _ _ ⟨Cl0 B5, Cl1 B5, Cl2 B5⟩ (fun hHeld => ?_)
                clear hK K
                refine norm_ (a' := ?_) ?_ ?_
                rotate_left
                · show Act.put _ (some 56) _ = _
                  simp only [Nrm, Option.some.injEq, List.setIfInBounds_toArray, List.set_cons_zero, List.set_cons_succ, i64_w, i32_w]
                  rfl
                refine pure_ (i := 7) (N := some 49) (v := ?_) (a' := ?_) (Bt 8 255) rfl rfl (by kernel_rfl) (fun _ _ _ h => h) (Or.inl ⟨by rfl, ?_⟩) ?_ ?_
                rotate_left
                · intro w'
                  go_simp
                  with_reducible rfl
                rotate_left
                · simp only [Nrm, Option.some.injEq, List.setIfInBounds_toArray, List.set_cons_zero, List.set_cons_succ, i64_w, i32_w]
                  rfl
                refine done_ (by kernel_rfl) ?_
                generalize (if cap = q then some ad else some (ad.add q)) = Zq
                go_wp2
                replace H4 := As (H4.1.drew)
                replace H5 := As (H5.1.drew)
                replace H9 := As (H9.1.drew)
                replace H10 := As (H10.1.drew)
                replace H16 := As (H16.1.drew)
                replace H34 := As (H34.1.drew)
                replace B5 := Bd B5
                replace B9 := Bd B9
                replace B11 := Bd B11
                replace HB := Od HB
                refine start_ (n := 8) (S := fun w' => w'.cell? ⟨g5, 0, none⟩ = some (.bool s) ∧ w'.cell? ⟨g5, 1, none⟩ = some (.slice D m1 m2) ∧ w'.cell? ⟨g5, 2, none⟩ = some (.slice E p1 p2)) (ds := []) (Bt 8 0) (by kernel_rfl) rfl (by kernel_rfl) ⟨Cl0 B5, Cl1 B5, Cl2 B5⟩ (fun hHeld => ?_)
                generalize w48.drew = w58 at hHeld H4 H5 H9 H10 H16 H34 B5 B9 B11 HB ⊢
                refine pure_ (i := 0) (N := some 58) (v := ?_) (a' := ?_) (Bt 8 1) rfl rfl (by kernel_rfl) (fun _ _ _ h => h) (Or.inl ⟨by rfl, ?_⟩) ?_ ?_
                rotate_left
                · intro w'
                  go_simp
                  with_reducible rfl
                rotate_left
                · simp only [Nrm, Option.some.injEq, List.setIfInBounds_toArray, List.set_cons_zero, List.set_cons_succ, i64_w, i32_w]
                  rfl
                refine pure_ (i := 1) (N := some 59) (v := ?_) (a' := ?_) (Bt 8 3) rfl rfl (by kernel_rfl) (fun _ _ _ h => h) (Or.inl ⟨by rfl, ?_⟩) ?_ ?_
                rotate_left
                · intro w'
                  go_simp
                  with_reducible rfl
                rotate_left
                · simp only [Nrm, Option.some.injEq, List.setIfInBounds_toArray, List.set_cons_zero, List.set_cons_succ, i64_w, i32_w]
                  rfl
                refine pure_ (i := 2) (N := some 60) (v := ?_) (a' := ?_) (Bt 8 7) rfl rfl (by kernel_rfl) (fun _ _ _ h => h) (Or.inl ⟨by rfl, ?_⟩) ?_ ?_
                rotate_left
                · intro w'
                  go_simp
                  with_reducible rfl
                rotate_left
                · simp only [Nrm, Option.some.injEq, List.setIfInBounds_toArray, List.set_cons_zero, List.set_cons_succ, i64_w, i32_w]
                  rfl
                refine pure_ (i := 4) (N := some 62) (v := ?_) (a' := ?_) (Bt 8 23) rfl rfl (by kernel_rfl) (fun _ _ _ h => h) (Or.inl ⟨by rfl, ?_⟩) ?_ ?_
                rotate_left
                · intro w'
                  go_simp
                  with_reducible rfl
                rotate_left
                · simp only [Nrm, Option.some.injEq, List.setIfInBounds_toArray, List.set_cons_zero, List.set_cons_succ, i64_w, i32_w]
                  rfl
                refine take_ (i := 5) (N := some 63) (v := ?_) (a' := ?_) (Bt 8 55) rfl rfl (by kernel_rfl) (fun _ _ _ h => h) (Or.inl ⟨by rfl, ?_⟩) hHeld ?_ ?_
                rotate_left
                · rintro w' ⟨s0, s1, s2⟩
                  go_simp
                  with_reducible rfl
                rotate_left
                · simp only [Nrm, Option.some.injEq, List.setIfInBounds_toArray, List.set_cons_zero, List.set_cons_succ, i64_w, i32_w]
                  rfl
                refine one_ (i := 3) (N := some 61) (Bt 8 63) rfl rfl (by kernel_rfl) (by decide) (fun K hK => ?_)
                refine goes_ Tryz.func59 (by kernel_rfl) rfl #[.slice (some ad) q cap] (by rfl) rfl rfl (by (try simp only [List.map_toArray, List.map_cons, List.map_nil]); first | done | rfl) ?_
                with_reducible refine (ST.out _ HB.out).mono ?_
                rintro e w116 ⟨A116, k116, c116, rfl, hr116, hb⟩
                refine ⟨_, rfl, ?_⟩
                have H117 := Aside0.mk hr116
                clear hr116
                replace H4 := As (H4.1.be hb)
                replace H5 := As (H5.1.be hb)
                replace H9 := As (H9.1.be hb)
                replace H10 := As (H10.1.be hb)
                replace H16 := As (H16.1.be hb)
                replace H34 := As (H34.1.be hb)
                replace B5 := Bb B5 hb
                replace B9 := Bb B9 hb
                replace B11 := Bb B11 hb
                replace HB := Ob HB hb
                clear hb
                refine hK.out _ _ ⟨Cl0 B5, Cl1 B5, Cl2 B5⟩ (fun hHeld => ?_)
                clear hK K
                refine norm_ (a' := ?_) ?_ ?_
                rotate_left
                · show Act.put _ (some 61) _ = _
                  simp only [Nrm, Option.some.injEq, List.setIfInBounds_toArray, List.set_cons_zero, List.set_cons_succ, i64_w, i32_w]
                  rfl
                refine one_ (i := 6) (N := some 64) (Bt 8 127) rfl rfl (by kernel_rfl) (by decide) (fun K hK => ?_)
                refine goes_ Tryz.func60 (by kernel_rfl) rfl #[.slice A116 k116 c116, .slice A15 k15 c15, .agg #[.bool s, .slice D m1 m2, .slice E p1 p2]] (by rfl) rfl rfl (by (try simp only [List.map_toArray, List.map_cons, List.map_nil]); first | done | rfl) ?_
                with_reducible refine (estimate_reaches.run _ _ _ _ s _ _ _ _ _ _ _ _ ((wn wss).take q).sum (wn wss).sum x y (L + 2 + wss.length) (L + 2 + wss.length) L3 L4 _ H117.1.na H16.1.na (H93.1.be HB.1) (H94.1.be HB.1) SP.out (by have := HL.out; have := HL3.out; omega)).mono ?_
                rintro e w131 ⟨rfl, hb⟩
                refine ⟨_, rfl, ?_⟩
                replace H4 := As (H4.1.be hb)
                replace H5 := As (H5.1.be hb)
                replace H9 := As (H9.1.be hb)
                replace H10 := As (H10.1.be hb)
                replace H16 := As (H16.1.be hb)
                replace H34 := As (H34.1.be hb)
                replace H117 := As (H117.1.be hb)
                replace B5 := Bb B5 hb
                replace B9 := Bb B9 hb
                replace B11 := Bb B11 hb
                replace HB := Ob HB hb
                clear hb
                refine hK.out _ _ ⟨Cl0 B5, Cl1 B5, Cl2 B5⟩ (fun hHeld => ?_)
                clear hK K
                refine norm_ (a' := ?_) ?_ ?_
                rotate_left
                · show Act.put _ (some 64) _ = _
                  simp only [Nrm, Option.some.injEq, List.setIfInBounds_toArray, List.set_cons_zero, List.set_cons_succ, i64_w, i32_w]
                  rfl
                refine pure_ (i := 7) (N := some 57) (v := ?_) (a' := ?_) (Bt 8 255) rfl rfl (by kernel_rfl) (fun _ _ _ h => h) (Or.inl ⟨by rfl, ?_⟩) ?_ ?_
                rotate_left
                · intro w'
                  go_simp
                  with_reducible rfl
                rotate_left
                · simp only [Nrm, Option.some.injEq, List.setIfInBounds_toArray, List.set_cons_zero, List.set_cons_succ, i64_w, i32_w]
                  rfl
                refine done_ (by kernel_rfl) ?_
                go_wp2
                go_ret2
                refine ⟨?_, HB.out⟩
                rw [show classV (wn wss) (q : Int) (pn s x y) (pd y) = (0, 0) by
                  unfold classV
                  rw [if_neg (fun h => h DX1.out), if_neg (by have q1 := DQ.out; have q2 := DX2.out; have q3 := DX3.out; rw [wn_len]; omega), Int.toNat_natCast, R1.out, R2.out, if_neg (by decide), if_pos rfl]
                  ]
                rfl
            · have R1 := Aside0.mk r1
              go_enter Tryz.func37, Tryz.ntmps37
              go_wp2_with (first | (go_at_call 59; (with_reducible refine (SA.out _ HB.out).mono ?_); rintro e w15 ⟨A15, k15, c15, rfl, hr15, hb⟩; have H16 := Aside0.mk hr15; clear hr15; replace H4 := As (H4.1.be hb); replace H5 := As (H5.1.be hb); replace H9 := As (H9.1.be hb); replace H10 := As (H10.1.be hb); replace B5 := Bb B5 hb; replace B9 := Bb B9 hb; replace B11 := Bb B11 hb; replace HB := Ob HB hb; clear hb) | (go_at_call 19; (with_reducible refine (ratio_Cmp.run s s3 _ _ _ _ _ _ _ _ _ _ _ _ x y n3 m3 L3 L4 4 4 _ (H93.1.be HB.1) (H94.1.be HB.1) H4.1.na H5.1.na (by have := HL.out; have := HL3.out; omega)).mono ?_); rintro e w14 ⟨rfl, hb⟩; replace H4 := As (H4.1.be hb); replace H5 := As (H5.1.be hb); replace H9 := As (H9.1.be hb); replace H10 := As (H10.1.be hb); replace B5 := Bb B5 hb; replace B9 := Bb B9 hb; replace B11 := Bb B11 hb; replace HB := Ob HB hb; have kc14 : decide (0 < (cmpZ (pn s x y * pd m3) (pn s3 n3 m3 * pd y))) = false := decide_eq_false (by have q := F3.out; rw [cmpZ_pos, pn_of q.1, pd_of q.1, one_cmp q.2 (by have := q.1; omega)]; exact Int.not_lt.2 DX2.out); clear hb) | (go_at_call 19; (with_reducible refine (ratio_Cmp.run s s8 _ _ _ _ _ _ _ _ _ _ _ _ x y n8 m8 L3 L4 4 4 _ (H93.1.be HB.1) (H94.1.be HB.1) H9.1.na H10.1.na (by have := HL.out; have := HL3.out; omega)).mono ?_); rintro e w13 ⟨rfl, hb⟩; replace H4 := As (H4.1.be hb); replace H5 := As (H5.1.be hb); replace H9 := As (H9.1.be hb); replace H10 := As (H10.1.be hb); replace B5 := Bb B5 hb; replace B9 := Bb B9 hb; replace B11 := Bb B11 hb; replace HB := Ob HB hb; have kc13 : decide ((cmpZ (pn s x y * pd m8) (pn s8 n8 m8 * pd y)) ≤ 0) = false := decide_eq_false (by have q := F8.out; rw [cmpZ_nonpos, pn_of q.1, pd_of q.1, half_cmp q.2 (by have := q.1; omega)]; exact Int.not_le.2 DX3.out); clear hb; (try clear cb5_0); have cb5_0 := Cl0 B5; (try clear cb5_1); have cb5_1 := Cl1 B5; (try clear cb5_2); have cb5_2 := Cl2 B5; (try clear cb9_0); have cb9_0 := Cl0 B9; (try clear cb9_1); have cb9_1 := Cl1 B9; (try clear cb9_2); have cb9_2 := Cl2 B9) | ((with_reducible refine gate_store (t := 34) (p := 11) rfl ?_); refine Sto (t := 34) (p := 11) (by rfl) (.tmp 25) (by rfl) (by rfl) g11 #[.bool s8, .slice A8 k8 c8, .slice D8 l8 d8] (by rfl) (by first | rfl | (go_simp; done) | (go_simp; rfl)) B11 (by kernel_rfl) rfl (by kernel_rfl) ?_; intro w12 ho hB2; replace H4 := As (H4.1.o3 ho B11); replace H5 := As (H5.1.o3 ho B11); replace H9 := As (H9.1.o3 ho B11); replace H10 := As (H10.1.o3 ho B11); replace B5 := Oo B5 ho NE5_11; replace B9 := Oo B9 ho NE9_11; replace HB := Lo HB ho G11; replace B11 := hB2; clear ho hB2; (try clear cb5_0); have cb5_0 := Cl0 B5; (try clear cb5_1); have cb5_1 := Cl1 B5; (try clear cb5_2); have cb5_2 := Cl2 B5; (try clear cb11_0); have cb11_0 := Cl0 B11; (try clear cb11_1); have cb11_1 := Cl1 B11; (try clear cb11_2); have cb11_2 := Cl2 B11) | ((with_reducible refine gate_dst (N := 11) rfl ?_); refine box_event (by rfl) (N := 11) (by rfl) (cs := #[.bool false, .slice none 0 0, .slice none 0 0]) (t := 34) ?hr ?_; (case hr => first | (go_simp; done) | (go_simp; rfl)); intro g11 hgx w11 hbx hb; have B11 := As hbx; have NE5_11 := Nn B5 hgx; have NE9_11 := Nn B9 hgx; have G11 := Gg HB hgx; replace H4 := As (H4.1.be hb); replace H5 := As (H5.1.be hb); replace H9 := As (H9.1.be hb); replace H10 := As (H10.1.be hb); replace B5 := Bb B5 hb; replace B9 := Bb B9 hb; replace HB := Ob HB hb; clear hbx hb hgx) | (go_at_call 23; (with_reducible refine (ratio_Of.run (1) (2) _ (by decide) (by decide) (by decide) (by decide)).mono ?_); rintro e w8 ⟨s8, A8, k8, c8, D8, l8, d8, n8, m8, rfl, hq8, hr8, hm8, hz8, hb⟩; have H9 := Aside0.mk hq8; have H10 := Aside0.mk hr8; have F8 := Aside0.mk (And.intro hm8 hz8); clear hq8 hr8 hm8 hz8; replace H4 := As (H4.1.be hb); replace H5 := As (H5.1.be hb); replace B5 := Bb B5 hb; replace B9 := Bb B9 hb; replace HB := Ob HB hb; clear hb) | ((with_reducible refine gate_store (t := 34) (p := 9) rfl ?_); refine Sto (t := 34) (p := 9) (by rfl) (.tmp 21) (by rfl) (by rfl) g9 #[.bool s3, .slice A3 k3 c3, .slice D3 l3 d3] (by rfl) (by first | rfl | (go_simp; done) | (go_simp; rfl)) B9 (by kernel_rfl) rfl (by kernel_rfl) ?_; intro w7 ho hB2; replace H4 := As (H4.1.o3 ho B9); replace H5 := As (H5.1.o3 ho B9); replace B5 := Oo B5 ho NE5_9; replace HB := Lo HB ho G9; replace B9 := hB2; clear ho hB2) | ((with_reducible refine gate_dst (N := 9) rfl ?_); refine box_event (by rfl) (N := 9) (by rfl) (cs := #[.bool false, .slice none 0 0, .slice none 0 0]) (t := 34) ?hr ?_; (case hr => first | (go_simp; done) | (go_simp; rfl)); intro g9 hgx w6 hbx hb; have B9 := As hbx; have NE5_9 := Nn B5 hgx; have G9 := Gg HB hgx; replace H4 := As (H4.1.be hb); replace H5 := As (H5.1.be hb); replace B5 := Bb B5 hb; replace HB := Ob HB hb; clear hbx hb hgx) | (go_at_call 23; (with_reducible refine (ratio_Of.run (1) (1) _ (by decide) (by decide) (by decide) (by decide)).mono ?_); rintro e w3 ⟨s3, A3, k3, c3, D3, l3, d3, n3, m3, rfl, hq3, hr3, hm3, hz3, hb⟩; have H4 := Aside0.mk hq3; have H5 := Aside0.mk hr3; have F3 := Aside0.mk (And.intro hm3 hz3); clear hq3 hr3 hm3 hz3; replace B5 := Bb B5 hb; replace HB := Ob HB hb; clear hb) | (go_at_call 58; (with_reducible refine (estimate_check.run _ _ wss L _ (HW.out.below HB.out) HL.out.1 HL.out.2.1).mono ?_); rintro e w2 ⟨rfl, hb⟩; replace B5 := Bb B5 hb; replace HB := Ob HB hb; rw [HE.out]; clear hb) | ((with_reducible refine gate_dst (N := 5) rfl ?_); refine box_event (by rfl) (N := 5) (by rfl) (cs := #[.bool s, .slice D m1 m2, .slice E p1 p2]) (t := 34) ?hr ?_; (case hr => first | (go_simp; done) | (go_simp; rfl)); intro g5 hgx w1 hbx hb; have B5 := As hbx; have G5 := Gg HB hgx; replace HB := Ob HB hb; clear hbx hb hgx))
              replace H4 := As (H4.1.drew)
              replace H5 := As (H5.1.drew)
              replace H9 := As (H9.1.drew)
              replace H10 := As (H10.1.drew)
              replace H16 := As (H16.1.drew)
              replace B5 := Bd B5
              replace B9 := Bd B9
              replace B11 := Bd B11
              replace HB := Od HB
              refine start_ (n := 8) (S := fun w' => w'.cell? ⟨g5, 0, none⟩ = some (.bool s) ∧ w'.cell? ⟨g5, 1, none⟩ = some (.slice D m1 m2) ∧ w'.cell? ⟨g5, 2, none⟩ = some (.slice E p1 p2)) (ds := []) (Bt 8 0) (by kernel_rfl) rfl (by kernel_rfl) ⟨Cl0 B5, Cl1 B5, Cl2 B5⟩ (fun hHeld => ?_)
              generalize w15.drew = w17 at hHeld H4 H5 H9 H10 H16 B5 B9 B11 HB ⊢
              refine pure_ (i := 0) (N := some 50) (v := ?_) (a' := ?_) (Bt 8 1) rfl rfl (by kernel_rfl) (fun _ _ _ h => h) (Or.inl ⟨by rfl, ?_⟩) ?_ ?_
              rotate_left
              · intro w'
                go_simp
                with_reducible rfl
              rotate_left
              · simp only [Nrm, Option.some.injEq, List.setIfInBounds_toArray, List.set_cons_zero, List.set_cons_succ, i64_w, i32_w]
                rfl
              refine pure_ (i := 1) (N := some 51) (v := ?_) (a' := ?_) (Bt 8 3) rfl rfl (by kernel_rfl) (fun _ _ _ h => h) (Or.inl ⟨by rfl, ?_⟩) ?_ ?_
              rotate_left
              · intro w'
                go_simp
                with_reducible rfl
              rotate_left
              · simp only [Nrm, Option.some.injEq, List.setIfInBounds_toArray, List.set_cons_zero, List.set_cons_succ, i64_w, i32_w]
                rfl
              refine pure_ (i := 2) (N := some 52) (v := ?_) (a' := ?_) (Bt 8 7) rfl rfl (by kernel_rfl) (fun _ _ _ h => h) (Or.inl ⟨by rfl, ?_⟩) ?_ ?_
              rotate_left
              · intro w'
                go_simp
                with_reducible rfl
              rotate_left
              · simp only [Nrm, Option.some.injEq, List.setIfInBounds_toArray, List.set_cons_zero, List.set_cons_succ, i64_w, i32_w]
                rfl
              refine pure_ (i := 4) (N := some 54) (v := ?_) (a' := ?_) (Bt 8 23) rfl rfl (by kernel_rfl) (fun _ _ _ h => h) (Or.inl ⟨by rfl, ?_⟩) ?_ ?_
              rotate_left
              · intro w'
                go_simp
                with_reducible rfl
              rotate_left
              · simp only [Nrm, Option.some.injEq, List.setIfInBounds_toArray, List.set_cons_zero, List.set_cons_succ, i64_w, i32_w]
                rfl
              refine take_ (i := 5) (N := some 55) (v := ?_) (a' := ?_) (Bt 8 55) rfl rfl (by kernel_rfl) (fun _ _ _ h => h) (Or.inl ⟨by rfl, ?_⟩) hHeld ?_ ?_
              rotate_left
              · rintro w' ⟨s0, s1, s2⟩
                go_simp
                with_reducible rfl
              rotate_left
              · simp only [Nrm, Option.some.injEq, List.setIfInBounds_toArray, List.set_cons_zero, List.set_cons_succ, i64_w, i32_w]
                rfl
              refine one_ (i := 3) (N := some 53) (Bt 8 63) rfl rfl (by kernel_rfl) (by decide) (fun K hK => ?_)
              refine goes_ Tryz.func59 (by kernel_rfl) rfl #[.slice (if cap = q then some ad else some (ad.add q)) (wss.length - q) (cap - q)] (by rfl) rfl rfl (by (try simp only [List.map_toArray, List.map_cons, List.map_nil]); first | done | rfl) ?_
              with_reducible refine (SD.out _ HB.out).mono ?_
              rintro e w33 ⟨A33, k33, c33, rfl, hr33, hb⟩
              refine ⟨_, rfl, ?_⟩
              have H34 := Aside0.mk hr33
              clear hr33
              replace H4 := As (H4.1.be hb)
              replace H5 := As (H5.1.be hb)
              replace H9 := As (H9.1.be hb)
              replace H10 := As (H10.1.be hb)
              replace H16 := As (H16.1.be hb)
              replace B5 := Bb B5 hb
              replace B9 := Bb B9 hb
              replace B11 := Bb B11 hb
              replace HB := Ob HB hb
              clear hb
              refine hK.out _ _ ⟨Cl0 B5, Cl1 B5, Cl2 B5⟩ (fun hHeld => ?_)
              clear hK K
              refine norm_ (a' := ?_) ?_ ?_
              rotate_left
              · show Act.put _ (some 53) _ = _
                simp only [Nrm, Option.some.injEq, List.setIfInBounds_toArray, List.set_cons_zero, List.set_cons_succ, i64_w, i32_w]
                rfl
              refine one_ (i := 6) (N := some 56) (Bt 8 127) rfl rfl (by kernel_rfl) (by decide) (fun K hK => ?_)
              refine goes_ Tryz.func60 (by kernel_rfl) rfl #[.slice A33 k33 c33, .slice A15 k15 c15, .agg #[.bool s, .slice D m1 m2, .slice E p1 p2]] (by rfl) rfl rfl (by (try simp only [List.map_toArray, List.map_cons, List.map_nil]); first | done | rfl) ?_
              with_reducible refine (estimate_reaches.run _ _ _ _ s _ _ _ _ _ _ _ _ ((wn wss).drop q).sum (wn wss).sum x y (L + 2 + wss.length) (L + 2 + wss.length) L3 L4 _ H34.1.na H16.1.na (H93.1.be HB.1) (H94.1.be HB.1) SP.out (by have := HL.out; have := HL3.out; omega)).mono ?_
              rintro e w48 ⟨rfl, hb⟩
              refine ⟨_, rfl, ?_⟩
              replace H4 := As (H4.1.be hb)
              replace H5 := As (H5.1.be hb)
              replace H9 := As (H9.1.be hb)
              replace H10 := As (H10.1.be hb)
              replace H16 := As (H16.1.be hb)
              replace H34 := As (H34.1.be hb)
              replace B5 := Bb B5 hb
              replace B9 := Bb B9 hb
              replace B11 := Bb B11 hb
              replace HB := Ob HB hb
              clear hb
              refine hK.out _ _ ⟨Cl0 B5, Cl1 B5, Cl2 B5⟩ (fun hHeld => ?_)
              clear hK K
              refine norm_ (a' := ?_) ?_ ?_
              rotate_left
              · show Act.put _ (some 56) _ = _
                simp only [Nrm, Option.some.injEq, List.setIfInBounds_toArray, List.set_cons_zero, List.set_cons_succ, i64_w, i32_w]
                rfl
              refine pure_ (i := 7) (N := some 49) (v := ?_) (a' := ?_) (Bt 8 255) rfl rfl (by kernel_rfl) (fun _ _ _ h => h) (Or.inl ⟨by rfl, ?_⟩) ?_ ?_
              rotate_left
              · intro w'
                go_simp
                with_reducible rfl
              rotate_left
              · simp only [Nrm, Option.some.injEq, List.setIfInBounds_toArray, List.set_cons_zero, List.set_cons_succ, i64_w, i32_w]
                rfl
              refine done_ (by kernel_rfl) ?_
              generalize (if cap = q then some ad else some (ad.add q)) = Zq
              go_wp2
              go_ret2
              refine ⟨?_, HB.out⟩
              rw [show classV (wn wss) (q : Int) (pn s x y) (pd y) = (1, 0) by
                unfold classV
                rw [if_neg (fun h => h DX1.out), if_neg (by have q1 := DQ.out; have q2 := DX2.out; have q3 := DX3.out; rw [wn_len]; omega), Int.toNat_natCast, R1.out, if_pos rfl]
                ]
              rfl
  · have kg : (ev == 0) = false := by rw [beq_eq_false_iff_ne]; exact cg
    have kgn : (ev != 0) = true := by rw [bne, kg]; rfl
    have DX1 := Aside0.mk cg
    clear cg
    go_enter Tryz.func37, Tryz.ntmps37
    go_wp2_with (first | (go_at_call 58; (with_reducible refine (estimate_check.run _ _ wss L _ (HW.out.below HB.out) HL.out.1 HL.out.2.1).mono ?_); rintro e w2 ⟨rfl, hb⟩; replace B5 := Bb B5 hb; replace HB := Ob HB hb; rw [HE.out]; clear hb) | ((with_reducible refine gate_dst (N := 5) rfl ?_); refine box_event (by rfl) (N := 5) (by rfl) (cs := #[.bool s, .slice D m1 m2, .slice E p1 p2]) (t := 34) ?hr ?_; (case hr => first | (go_simp; done) | (go_simp; rfl)); intro g5 hgx w1 hbx hb; have B5 := As hbx; have G5 := Gg HB hgx; replace HB := Ob HB hb; clear hbx hb hgx))
    go_ret2
    refine ⟨?_, HB.out⟩
    rw [show classV (wn wss) cut (pn s x y) (pd y) = (0, ev) by
      unfold classV
      rw [HE.out, if_pos DX1.out]
      ]
    rfl
end Go.Proofs.YtnmfmiemkcaocaaGreat.Hand
namespace Go.Proofs.YtnmfmiemkcaocaaGreat.Hand
open Go.RowKit Go.Proofs.YtnmfmiemkcaocaaGreatW.PrintWords Go.Proofs.YtnmfmiemkcaocaaGreatW.PrintLast Go.Proofs.YtnmfmiemkcaocaaGreatW.PrintMore
set_option linter.unusedVariables false
set_option linter.unusedSimpArgs false
set_option maxHeartbeats 1000000 in
set_option maxRecDepth 100000 in
theorem index_byte (s : ByteArray) (c : Int) (w : World) :
    Calls Tryz.prog 156 #[.string s, .int .u8 c] w fun e w' => e = .returned (.int .i64 (Lib.indexByte s.data.toList c.toNat.toUInt8)) ∧ w' = w := by
  go_enter Tryz.func156, Tryz.ntmps156
  go_wp2
  rw [run_callFunc_extern Tryz.func160 (by kernel_rfl) (by kernel_rfl) (by kernel_rfl) (e := Extern.BytealgIndexByte.indexByte) (by kernel_rfl), Lib.run_indexByteString]
  simp only [Result.andThen]
  rw [Oper.upon_value]
  go_wp2
  go_ret
  exact ⟨rfl, rfl⟩
def stringslite_Index.f (a0 : ByteArray) (a1 : ByteArray) : Option (Int) := if a1.toList = ([46] : List UInt8) then some (Lib.indexByte a0.data.toList 46) else none
set_option maxHeartbeats 1000000 in
set_option maxRecDepth 100000 in
theorem stringslite_Index.calls (a0 : ByteArray) (a1 : ByteArray) (r : Int) (w : World) (h : stringslite_Index.f a0 a1 = some r) :
    Calls Tryz.prog 155 #[.string a0, .string a1] w fun e w' => e = .returned (.int .i64 r) ∧ Drawn0 w w' := by
  unfold stringslite_Index.f at h
  split at h
  · rename_i h1
    obtain rfl : a1 = ⟨#[46]⟩ := by
      rw [Lib.toList_data] at h1
      exact ByteArray.ext (Array.toList_inj.1 h1)
    obtain rfl := Option.some.inj h
    clear h h1
    go_enter Tryz.func155, Tryz.ntmps155
    go_wp2_with (first | ((with_reducible refine gate_callee (f := 156) rfl ?_); refine goesL_ (some 30) rfl rfl Tryz.func156 (by kernel_rfl) rfl #[.string a0, .int .u8 46] rfl (by (try simp only [List.map_toArray, List.map_cons, List.map_nil]); first | done | rfl) ?_; (with_reducible refine (index_byte a0 46 _).mono ?_); rintro e w' ⟨rfl, rfl⟩; refine ⟨_, rfl, ?_⟩))
    · have h : ([(46 : UInt8)] == a0.toList) = true := by assumption
      go_ret
      refine ⟨?_, Drawn0.refl _⟩
      have e : a0.data.toList = [46] := by rw [← Lib.toList_data]; exact (beq_iff_eq.1 h).symm
      rw [e]
      simp [Lib.indexByte]
    · go_ret
      exact ⟨rfl, Drawn0.refl _⟩
  · cases h
end Go.Proofs.YtnmfmiemkcaocaaGreat.Hand
namespace Go.Proofs.YtnmfmiemkcaocaaGreat.QCutA
open Go.RowKit Go.Proofs.YtnmfmiemkcaocaaGreatW.PrintWords Go.Proofs.YtnmfmiemkcaocaaGreatW.PrintLast Go.Proofs.YtnmfmiemkcaocaaGreatW.PrintMore
attribute [local go_sem] max2_int min2_int max_two min_two max_three min_three max_four min_four   -- for this text's walks alone
set_option linter.unusedVariables false
set_option linter.unusedSimpArgs false
def stringslite_Cut.f (a0 : ByteArray) (a1 : ByteArray) : Option (ByteArray × ByteArray × Bool) := (Hand.stringslite_Index.f a0 a1).bind fun t101 => (if t101 ≥ 0 then (if 0 ≤ t101 then (if t101 ≤ (a0.size : Int) then (if 0 ≤ (wrap64 (t101 + (a1.size : Int))) then (if (wrap64 (t101 + (a1.size : Int))) ≤ (a0.size : Int) then (some (a0.extract 0 (t101 : Int).toNat, a0.extract ((wrap64 (t101 + (a1.size : Int))) : Int).toNat a0.size, true)) else (none)) else (none)) else (none)) else (none)) else (some (a0, (⟨#[]⟩ : ByteArray), false)))
set_option maxHeartbeats 8000000 in
set_option maxRecDepth 100000 in
theorem stringslite_Cut.calls (a0 : ByteArray) (a1 : ByteArray) (r1 : ByteArray) (r2 : ByteArray) (r3 : Bool) (w : World) (h : stringslite_Cut.f a0 a1 = some (r1, r2, r3)) :
    Calls Tryz.prog 154 #[.string a0, .string a1] w fun e w' => e = .returned (.tuple #[.string r1, .string r2, .bool r3]) ∧ Drawn0 w w' := by
  have H : ((Hand.stringslite_Index.f a0 a1).bind fun t101 => (if t101 ≥ 0 then (if 0 ≤ t101 then (if t101 ≤ (a0.size : Int) then (if 0 ≤ (wrap64 (t101 + (a1.size : Int))) then (if (wrap64 (t101 + (a1.size : Int))) ≤ (a0.size : Int) then (some (a0.extract 0 (t101 : Int).toNat, a0.extract ((wrap64 (t101 + (a1.size : Int))) : Int).toNat a0.size, true)) else (none)) else (none)) else (none)) else (none)) else (some (a0, (⟨#[]⟩ : ByteArray), false)))) = some (r1, r2, r3) := h
  clear h
  replace H := Option.bind_eq_some_iff.mp H
  obtain ⟨t101, A30, H⟩ := H
  replace H : (if t101 ≥ 0 then (if 0 ≤ t101 then (if t101 ≤ (a0.size : Int) then (if 0 ≤ (wrap64 (t101 + (a1.size : Int))) then (if (wrap64 (t101 + (a1.size : Int))) ≤ (a0.size : Int) then (some (a0.extract 0 (t101 : Int).toNat, a0.extract ((wrap64 (t101 + (a1.size : Int))) : Int).toNat a0.size, true)) else (none)) else (none)) else (none)) else (none)) else (some (a0, (⟨#[]⟩ : ByteArray), false))) = some (r1, r2, r3) := H
  have A3 := Aside0.mk A30
  clear A30
  by_cases c4 : t101 ≥ 0
  · rw [if_pos c4] at H
    have c4b0 : decide (0 ≤ t101) = true := decide_eq_true c4
    clear c4
    by_cases c5 : 0 ≤ t101
    · rw [if_pos c5] at H
      have c5b0 := eq_true c5
      have c5b1 : decide (0 ≤ t101) = true := decide_eq_true c5
      clear c5
      by_cases c6 : t101 ≤ (a0.size : Int)
      · rw [if_pos c6] at H
        have c6b0 := eq_true c6
        have c6b1 : decide (t101 ≤ (a0.size : Int)) = true := decide_eq_true c6
        clear c6
        obtain ⟨ji7, hji7⟩ : ∃ j_ : Int, (wrap64 (t101 + (a1.size : Int))) = j_ := ⟨_, rfl⟩
        replace H : (if 0 ≤ (ji7) then (if (ji7) ≤ (a0.size : Int) then (some (a0.extract 0 (t101 : Int).toNat, a0.extract ((ji7) : Int).toNat a0.size, true)) else (none)) else (none)) = some (r1, r2, r3) := by first | (rw [hji7] at H; exact H) | (simp only [hji7] at H ⊢; exact H)
        (try rw [hji7] at A3)
        have hji7w : (IntKind.i64.wrap (t101 + (a1.size : Int))) = ji7 := (i64_w _).trans hji7
        by_cases c8 : 0 ≤ (ji7)
        · rw [if_pos c8] at H
          have c8b0 := eq_true c8
          have c8b1 : decide (0 ≤ (ji7)) = true := decide_eq_true c8
          clear c8
          by_cases c9 : (ji7) ≤ (a0.size : Int)
          · rw [if_pos c9] at H
            have c9b0 := eq_true c9
            have c9b1 : decide ((ji7) ≤ (a0.size : Int)) = true := decide_eq_true c9
            clear c9
            simp only [Option.some.injEq, Prod.mk.injEq] at H
            obtain ⟨rfl, rfl, rfl⟩ := H
            go_enter Tryz.func154, Tryz.ntmps154
            go_wp2_with (first | (go_at_call 155; (with_reducible refine (Hand.stringslite_Index.calls a0 a1 t101 _ A3.out).mono ?_); rintro e w' ⟨rfl, ⟨nd, rfl⟩⟩; (try first | exact ⟨rfl, _, World.drewN_drewN _ _ _⟩ | exact ⟨rfl, _, Eq.trans (World.drewN_drewN _ _ _) (congrArg (World.drewN _) (Nat.add_assoc _ _ _))⟩)))
            repeat (go_quiet (first | (go_at_call 155; (with_reducible refine (Hand.stringslite_Index.calls a0 a1 t101 _ A3.out).mono ?_); rintro e w' ⟨rfl, ⟨nd, rfl⟩⟩; (try first | exact ⟨rfl, _, World.drewN_drewN _ _ _⟩ | exact ⟨rfl, _, Eq.trans (World.drewN_drewN _ _ _) (congrArg (World.drewN _) (Nat.add_assoc _ _ _))⟩))); try go_wp2_with (first | (go_at_call 155; (with_reducible refine (Hand.stringslite_Index.calls a0 a1 t101 _ A3.out).mono ?_); rintro e w' ⟨rfl, ⟨nd, rfl⟩⟩; (try first | exact ⟨rfl, _, World.drewN_drewN _ _ _⟩ | exact ⟨rfl, _, Eq.trans (World.drewN_drewN _ _ _) (congrArg (World.drewN _) (Nat.add_assoc _ _ _))⟩))))
            go_ret3
            exact ⟨by first | rfl | (simp; done) | (simp only [← hji7] <;> (first | rfl | simp)) | (simp [*]; done), by repeat (first | exact Drawn0.refl _ | apply Drawn0.step)⟩
          · rw [if_neg c9] at H
            exact absurd H (by simp)
        · rw [if_neg c8] at H
          exact absurd H (by simp)
      · rw [if_neg c6] at H
        exact absurd H (by simp)
    · rw [if_neg c5] at H
      exact absurd H (by simp)
  · rw [if_neg c4] at H
    have c4b0 : decide (0 ≤ t101) = false := decide_eq_false c4
    clear c4
    simp only [Option.some.injEq, Prod.mk.injEq] at H
    obtain ⟨rfl, rfl, rfl⟩ := H
    go_enter Tryz.func154, Tryz.ntmps154
    go_wp2_with (first | (go_at_call 155; (with_reducible refine (Hand.stringslite_Index.calls a0 a1 t101 _ A3.out).mono ?_); rintro e w' ⟨rfl, ⟨nd, rfl⟩⟩; (try first | exact ⟨rfl, _, World.drewN_drewN _ _ _⟩ | exact ⟨rfl, _, Eq.trans (World.drewN_drewN _ _ _) (congrArg (World.drewN _) (Nat.add_assoc _ _ _))⟩)))
    repeat (go_quiet (first | (go_at_call 155; (with_reducible refine (Hand.stringslite_Index.calls a0 a1 t101 _ A3.out).mono ?_); rintro e w' ⟨rfl, ⟨nd, rfl⟩⟩; (try first | exact ⟨rfl, _, World.drewN_drewN _ _ _⟩ | exact ⟨rfl, _, Eq.trans (World.drewN_drewN _ _ _) (congrArg (World.drewN _) (Nat.add_assoc _ _ _))⟩))); try go_wp2_with (first | (go_at_call 155; (with_reducible refine (Hand.stringslite_Index.calls a0 a1 t101 _ A3.out).mono ?_); rintro e w' ⟨rfl, ⟨nd, rfl⟩⟩; (try first | exact ⟨rfl, _, World.drewN_drewN _ _ _⟩ | exact ⟨rfl, _, Eq.trans (World.drewN_drewN _ _ _) (congrArg (World.drewN _) (Nat.add_assoc _ _ _))⟩))))
    go_ret3
    exact ⟨by first | rfl | (simp; done) | (simp [*]; done), by repeat (first | exact Drawn0.refl _ | apply Drawn0.step)⟩
def strings_Cut.f (a0 : ByteArray) (a1 : ByteArray) : Option (ByteArray × ByteArray × Bool) := (stringslite_Cut.f a0 a1).bind fun bt102 => (some (bt102.1, bt102.2.1, bt102.2.2))
set_option maxHeartbeats 8000000 in
set_option maxRecDepth 100000 in
theorem strings_Cut.calls (a0 : ByteArray) (a1 : ByteArray) (r1 : ByteArray) (r2 : ByteArray) (r3 : Bool) (w : World) (h : strings_Cut.f a0 a1 = some (r1, r2, r3)) :
    Calls Tryz.prog 153 #[.string a0, .string a1] w fun e w' => e = .returned (.tuple #[.string r1, .string r2, .bool r3]) ∧ Drawn0 w w' := by
  have H : ((stringslite_Cut.f a0 a1).bind fun bt102 => (some (bt102.1, bt102.2.1, bt102.2.2))) = some (r1, r2, r3) := h
  clear h
  replace H := Option.bind_eq_some_iff.mp H
  obtain ⟨⟨t102, t103, t104⟩, A30, H⟩ := H
  replace H : (some (t102, t103, t104)) = some (r1, r2, r3) := H
  have A3 := Aside0.mk A30
  clear A30
  simp only [Option.some.injEq, Prod.mk.injEq] at H
  obtain ⟨rfl, rfl, rfl⟩ := H
  go_enter Tryz.func153, Tryz.ntmps153
  go_wp2_with (first | ((with_reducible refine gate_callee (f := 154) rfl ?_); refine goesL_ (some 9) rfl rfl Tryz.func154 (by kernel_rfl) rfl #[.string a0, .string a1] rfl (by (try simp only [List.map_toArray, List.map_cons, List.map_nil]); first | done | rfl | (simp only [List.length_drop, List.length_take]; rfl)) ?_; (with_reducible refine (stringslite_Cut.calls a0 a1 t102 t103 t104 _ A3.out).mono ?_); rintro e w' ⟨rfl, ⟨nd, rfl⟩⟩; refine ⟨_, rfl, ?_⟩))
  go_ret3
  exact ⟨by first | rfl | (simp; done) | (simp [*]; done), by repeat (first | exact Drawn0.refl _ | apply Drawn0.step)⟩
mutual
def content_word.j0 : Nat → ByteArray → Bool → Option (Bool)
  | 0, _, _ => none
  | k + 1, x0, x11 => if x11 = true then (some false) else (content_word.l0 k x0 (x0.size : Int) 0)
def content_word.l0 : Nat → ByteArray → Int → Int → Option (Bool)
  | 0, _, _, _ => none
  | k + 1, x0, x13, x14 => if x14 < x13 then (if 0 ≤ x14 then (if x14 < (x0.size : Int) then (if (bt x0 x14) < 65 then (if (bt x0 x14) < 48 then (some false) else (if (bt x0 x14) > 57 then (some false) else (content_word.l0 k x0 x13 (wrap64 (x14 + 1))))) else (if (bt x0 x14) > 90 then (if (bt x0 x14) < 48 then (some false) else (if (bt x0 x14) > 57 then (some false) else (content_word.l0 k x0 x13 (wrap64 (x14 + 1))))) else (content_word.l0 k x0 x13 (wrap64 (x14 + 1))))) else (none)) else (none)) else (some true)
end
def content_word.f (k : Nat) (a0 : ByteArray) : Option (Bool) := if (a0.size : Int) < 1 then (content_word.j0 k a0 true) else (content_word.j0 k a0 (decide ((a0.size : Int) > 8)))
theorem content_word.mono_l : ∀ k, (∀ y0 y1, LeO (content_word.j0 k y0 y1) (content_word.j0 (k + 1) y0 y1)) ∧ (∀ y0 y1 y2, LeO (content_word.l0 k y0 y1 y2) (content_word.l0 (k + 1) y0 y1 y2))
  | 0 => ⟨fun _ _ r h => by simp [content_word.j0] at h, fun _ _ _ r h => by simp [content_word.l0] at h⟩
  | k + 1 => by
    obtain ⟨ih0, ih1⟩ := content_word.mono_l k
    refine ⟨?_, ?_⟩
    · intro y0 y1
      unfold content_word.j0
      repeat' first
      | (with_reducible exact ih0 _ _)
      | (with_reducible exact ih1 _ _ _)
      | (with_reducible exact LeO.refl _)
      | (with_reducible exact LeO.none _)
      | (with_reducible refine LeO.ite ?_ ?_)
      | (with_reducible refine LeO.bind ?_ (fun _ => ?_))
      | exact ih0 _ _
      | exact ih1 _ _ _
      | exact LeO.none _
      | refine LeO.ite ?_ ?_
      | refine LeO.bind ?_ (fun _ => ?_)
    · intro y0 y1 y2
      unfold content_word.l0
      repeat' first
      | (with_reducible exact ih0 _ _)
      | (with_reducible exact ih1 _ _ _)
      | (with_reducible exact LeO.refl _)
      | (with_reducible exact LeO.none _)
      | (with_reducible refine LeO.ite ?_ ?_)
      | (with_reducible refine LeO.bind ?_ (fun _ => ?_))
      | exact ih0 _ _
      | exact ih1 _ _ _
      | exact LeO.none _
      | refine LeO.ite ?_ ?_
      | refine LeO.bind ?_ (fun _ => ?_)
theorem content_word.mono : ∀ a0 k, LeO (content_word.f k a0) (content_word.f (k + 1) a0) := by
  intro a0 k
  obtain ⟨ih0, ih1⟩ := content_word.mono_l k
  unfold content_word.f
  repeat' first
      | (with_reducible exact ih0 _ _)
      | (with_reducible exact ih1 _ _ _)
      | (with_reducible exact LeO.refl _)
      | (with_reducible exact LeO.none _)
      | (with_reducible refine LeO.ite ?_ ?_)
      | (with_reducible refine LeO.bind ?_ (fun _ => ?_))
      | exact ih0 _ _
      | exact ih1 _ _ _
      | exact LeO.none _
      | refine LeO.ite ?_ ?_
      | refine LeO.bind ?_ (fun _ => ?_)
set_option maxHeartbeats 8000000 in
set_option maxRecDepth 100000 in
theorem content_word.calls (k : Nat) (a0 : ByteArray) (r : Bool) (w : World) (h : content_word.f k a0 = some r) :
    Calls Tryz.prog 152 #[.string a0] w fun e w' => e = .returned (.bool r) ∧ Drawn0 w w' := by
  have H : (if (a0.size : Int) < 1 then (content_word.j0 k a0 true) else (content_word.j0 k a0 (decide ((a0.size : Int) > 8)))) = some r := h
  clear h
  have HC2 := Aside0.mk H
  clear H
  go_enter Tryz.func152, Tryz.ntmps152
  go_upto_region 1 with (fail)
  go_cut [11] (fun v11 wc => ∃ (kq : Nat) (x11_1 : Bool), v11 = .bool x11_1 ∧ Aside0 (content_word.j0 kq a0 x11_1 = some r) ∧ Aside0 (kq ≤ k) ∧ Drawn0 w wc)
  case first =>
    have H := HC2.out
    clear HC2
    by_cases c3 : (a0.size : Int) < 1
    · rw [if_pos c3] at H
      have c3b0 : decide ((a0.size : Int) < 1) = true := decide_eq_true c3
      have c3b1 : decide (a0.size < 1) = true := decide_eq_true (by omega)
      clear c3
      (first | rw [c3b0] | (simp only [i64_w, i32_w]; rw [c3b0]) | skip)
      have H' := Aside0.mk H
      clear H
      go_wp2
      go_meet
      case rel => exact ⟨_, (true), (by first | rfl | (simp; done) | (simp [*]; done)), H', ⟨by first | omega | exact Nat.le_refl _⟩, by repeat (first | exact Drawn0.refl _ | apply Drawn0.step)⟩
    · rw [if_neg c3] at H
      have c3b0 : decide ((a0.size : Int) < 1) = false := decide_eq_false c3
      have c3b1 : decide (a0.size < 1) = false := decide_eq_false (by omega)
      clear c3
      (first | rw [c3b0] | (simp only [i64_w, i32_w]; rw [c3b0]) | skip)
      have H' := Aside0.mk H
      clear H
      go_wp2
      go_meet
      case rel => exact ⟨_, (decide ((a0.size : Int) > 8)), (by first | rfl | (simp; done) | (simp [*]; done)), H', ⟨by first | omega | exact Nat.le_refl _⟩, by repeat (first | exact Drawn0.refl _ | apply Drawn0.step)⟩
  case rest =>
    clear HC2
    try clear c1
    try clear p2
    try clear c3
    try clear c3b0
    try clear c3b1
    obtain ⟨kq, x11_1, rfl, HA, HJ1, ⟨mc1, rfl⟩⟩ := hcut
    cases kq with
    | zero => exact absurd HA.out (by simp [content_word.j0])
    | succ kj1 =>
      have H := HA.out
      clear HA
      simp only [content_word.j0] at H
      by_cases c4 : x11_1 = true
      · subst c4
        have H1 : (some false) = some r := by rw [if_pos rfl] at H; exact H
        clear H
        have H := H1
        clear H1
        obtain rfl := Option.some.inj H
        go_wp2
        go_ret
        exact ⟨by first | rfl | (simp; done) | (simp [*]; done), by repeat (first | exact Drawn0.refl _ | apply Drawn0.step)⟩
      · replace c4 := Bool.eq_false_iff.mpr c4
        subst c4
        have H1 : (content_word.l0 kj1 a0 (a0.size : Int) 0) = some r := by rw [if_neg (show ¬ (false = true) by decide)] at H; exact H
        clear H
        have H := H1
        clear H1
        have H' := Aside0.mk H
        clear H
        go_wp2
        go_loopg [14] kj1 (fun kq v14 w' => ∃ (x14_2 : Int), v14 = .int .i64 x14_2 ∧ Aside0 (content_word.l0 kq a0 (a0.size : Int) x14_2 = some r) ∧ Aside0 (kq ≤ kj1) ∧ Drawn0 w w')
        case atStart => exact ⟨(0), (by first | rfl | (simp; done) | (simp [*]; done)), H', ⟨Nat.le_refl _⟩, by repeat (first | exact Drawn0.refl _ | apply Drawn0.step)⟩
        case round =>
          clear H'
          try clear c1
          try clear p2
          try clear c3
          try clear c3b0
          try clear c3b1
          try clear c4
          try clear p2
          obtain ⟨x14_2, rfl, HA, HK2, ⟨m2, rfl⟩⟩ := hrel
          cases gk with
          | zero => exact absurd HA.out (by simp [content_word.l0])
          | succ k2 =>
            have H := HA.out
            clear HA
            simp only [content_word.l0] at H
            by_cases c5 : x14_2 < (a0.size : Int)
            · rw [if_pos c5] at H
              have c5b0 : decide (x14_2 < (a0.size : Int)) = true := decide_eq_true c5
              clear c5
              by_cases c6 : 0 ≤ x14_2
              · rw [if_pos c6] at H
                have c6b0 : decide (0 ≤ x14_2) = true := decide_eq_true c6
                clear c6
                by_cases c7 : x14_2 < (a0.size : Int)
                · rw [if_pos c7] at H
                  have c7b0 : decide (x14_2 < (a0.size : Int)) = true := decide_eq_true c7
                  clear c7
                  by_cases c9 : (bt a0 x14_2) < 65
                  · rw [if_pos c9] at H
                    have c9b0 : decide ((bt a0 x14_2) < 65) = true := decide_eq_true c9
                    clear c9
                    by_cases c11 : (bt a0 x14_2) < 48
                    · rw [if_pos c11] at H
                      have c11b0 : decide ((bt a0 x14_2) < 48) = true := decide_eq_true c11
                      clear c11
                      obtain rfl := Option.some.inj H
                      have p8 : 0 ≤ (x14_2 : Int) := of_decide_eq_true (by first | (with_reducible assumption) | assumption)
                      have q8 : x14_2 < (a0.size : Int) := of_decide_eq_true (by first | (with_reducible assumption) | assumption)
                      have hx8 := bt_at a0 x14_2
                      replace p8 := eq_true p8
                      replace q8 := eq_true q8
                      have p10 : 0 ≤ (x14_2 : Int) := of_decide_eq_true (by first | (with_reducible assumption) | assumption)
                      have q10 : x14_2 < (a0.size : Int) := of_decide_eq_true (by first | (with_reducible assumption) | assumption)
                      have hx10 := bt_at a0 x14_2
                      replace p10 := eq_true p10
                      replace q10 := eq_true q10
                      go_wp2
                      go_ret
                      exact ⟨by first | rfl | (simp; done) | (simp [*]; done), by repeat (first | exact Drawn0.refl _ | apply Drawn0.step)⟩
                    · rw [if_neg c11] at H
                      have c11b0 : decide ((bt a0 x14_2) < 48) = false := decide_eq_false c11
                      clear c11
                      by_cases c13 : (bt a0 x14_2) > 57
                      · rw [if_pos c13] at H
                        have c13b0 : decide (57 < (bt a0 x14_2)) = true := decide_eq_true c13
                        clear c13
                        obtain rfl := Option.some.inj H
                        have p8 : 0 ≤ (x14_2 : Int) := of_decide_eq_true (by first | (with_reducible assumption) | assumption)
                        have q8 : x14_2 < (a0.size : Int) := of_decide_eq_true (by first | (with_reducible assumption) | assumption)
                        have hx8 := bt_at a0 x14_2
                        replace p8 := eq_true p8
                        replace q8 := eq_true q8
                        have p10 : 0 ≤ (x14_2 : Int) := of_decide_eq_true (by first | (with_reducible assumption) | assumption)
                        have q10 : x14_2 < (a0.size : Int) := of_decide_eq_true (by first | (with_reducible assumption) | assumption)
                        have hx10 := bt_at a0 x14_2
                        replace p10 := eq_true p10
                        replace q10 := eq_true q10
                        have p12 : 0 ≤ (x14_2 : Int) := of_decide_eq_true (by first | (with_reducible assumption) | assumption)
                        have q12 : x14_2 < (a0.size : Int) := of_decide_eq_true (by first | (with_reducible assumption) | assumption)
                        have hx12 := bt_at a0 x14_2
                        replace p12 := eq_true p12
                        replace q12 := eq_true q12
                        go_wp2
                        go_ret
                        exact ⟨by first | rfl | (simp; done) | (simp [*]; done), by repeat (first | exact Drawn0.refl _ | apply Drawn0.step)⟩
                      · rw [if_neg c13] at H
                        have c13b0 : decide (57 < (bt a0 x14_2)) = false := decide_eq_false c13
                        clear c13
                        have H' := Aside0.mk H
                        clear H
                        have p8 : 0 ≤ (x14_2 : Int) := of_decide_eq_true (by first | (with_reducible assumption) | assumption)
                        have q8 : x14_2 < (a0.size : Int) := of_decide_eq_true (by first | (with_reducible assumption) | assumption)
                        have hx8 := bt_at a0 x14_2
                        replace p8 := eq_true p8
                        replace q8 := eq_true q8
                        have p10 : 0 ≤ (x14_2 : Int) := of_decide_eq_true (by first | (with_reducible assumption) | assumption)
                        have q10 : x14_2 < (a0.size : Int) := of_decide_eq_true (by first | (with_reducible assumption) | assumption)
                        have hx10 := bt_at a0 x14_2
                        replace p10 := eq_true p10
                        replace q10 := eq_true q10
                        have p12 : 0 ≤ (x14_2 : Int) := of_decide_eq_true (by first | (with_reducible assumption) | assumption)
                        have q12 : x14_2 < (a0.size : Int) := of_decide_eq_true (by first | (with_reducible assumption) | assumption)
                        have hx12 := bt_at a0 x14_2
                        replace p12 := eq_true p12
                        replace q12 := eq_true q12
                        go_wp2
                        go_roundg k2
                        case measure => have := HJ1.out; have := HK2.out; omega
                        case rel => exact ⟨(wrap64 (x14_2 + 1)), (by first | rfl | (simp; done) | (simp [*]; done)), H', ⟨by have := HJ1.out; have := HK2.out; omega⟩, by repeat (first | exact Drawn0.refl _ | apply Drawn0.step)⟩
                  · rw [if_neg c9] at H
                    have c9b0 : decide ((bt a0 x14_2) < 65) = false := decide_eq_false c9
                    clear c9
                    by_cases c15 : (bt a0 x14_2) > 90
                    · rw [if_pos c15] at H
                      have c15b0 : decide (90 < (bt a0 x14_2)) = true := decide_eq_true c15
                      clear c15
                      by_cases c17 : (bt a0 x14_2) < 48
                      · rw [if_pos c17] at H
                        have c17b0 : decide ((bt a0 x14_2) < 48) = true := decide_eq_true c17
                        clear c17
                        obtain rfl := Option.some.inj H
                        have p8 : 0 ≤ (x14_2 : Int) := of_decide_eq_true (by first | (with_reducible assumption) | assumption)
                        have q8 : x14_2 < (a0.size : Int) := of_decide_eq_true (by first | (with_reducible assumption) | assumption)
                        have hx8 := bt_at a0 x14_2
                        replace p8 := eq_true p8
                        replace q8 := eq_true q8
                        have p14 : 0 ≤ (x14_2 : Int) := of_decide_eq_true (by first | (with_reducible assumption) | assumption)
                        have q14 : x14_2 < (a0.size : Int) := of_decide_eq_true (by first | (with_reducible assumption) | assumption)
                        have hx14 := bt_at a0 x14_2
                        replace p14 := eq_true p14
                        replace q14 := eq_true q14
                        have p16 : 0 ≤ (x14_2 : Int) := of_decide_eq_true (by first | (with_reducible assumption) | assumption)
                        have q16 : x14_2 < (a0.size : Int) := of_decide_eq_true (by first | (with_reducible assumption) | assumption)
                        have hx16 := bt_at a0 x14_2
                        replace p16 := eq_true p16
                        replace q16 := eq_true q16
                        go_wp2
                        go_ret
                        exact ⟨by first | rfl | (simp; done) | (simp [*]; done), by repeat (first | exact Drawn0.refl _ | apply Drawn0.step)⟩
                      · rw [if_neg c17] at H
                        have c17b0 : decide ((bt a0 x14_2) < 48) = false := decide_eq_false c17
                        clear c17
                        by_cases c19 : (bt a0 x14_2) > 57
                        · rw [if_pos c19] at H
                          have c19b0 : decide (57 < (bt a0 x14_2)) = true := decide_eq_true c19
                          clear c19
                          obtain rfl := Option.some.inj H
                          have p8 : 0 ≤ (x14_2 : Int) := of_decide_eq_true (by first | (with_reducible assumption) | assumption)
                          have q8 : x14_2 < (a0.size : Int) := of_decide_eq_true (by first | (with_reducible assumption) | assumption)
                          have hx8 := bt_at a0 x14_2
                          replace p8 := eq_true p8
                          replace q8 := eq_true q8
                          have p14 : 0 ≤ (x14_2 : Int) := of_decide_eq_true (by first | (with_reducible assumption) | assumption)
                          have q14 : x14_2 < (a0.size : Int) := of_decide_eq_true (by first | (with_reducible assumption) | assumption)
                          have hx14 := bt_at a0 x14_2
                          replace p14 := eq_true p14
                          replace q14 := eq_true q14
                          have p16 : 0 ≤ (x14_2 : Int) := of_decide_eq_true (by first | (with_reducible assumption) | assumption)
                          have q16 : x14_2 < (a0.size : Int) := of_decide_eq_true (by first | (with_reducible assumption) | assumption)
                          have hx16 := bt_at a0 x14_2
                          replace p16 := eq_true p16
                          replace q16 := eq_true q16
                          have p18 : 0 ≤ (x14_2 : Int) := of_decide_eq_true (by first | (with_reducible assumption) | assumption)
                          have q18 : x14_2 < (a0.size : Int) := of_decide_eq_true (by first | (with_reducible assumption) | assumption)
                          have hx18 := bt_at a0 x14_2
                          replace p18 := eq_true p18
                          replace q18 := eq_true q18
                          go_wp2
                          go_ret
                          exact ⟨by first | rfl | (simp; done) | (simp [*]; done), by repeat (first | exact Drawn0.refl _ | apply Drawn0.step)⟩
                        · rw [if_neg c19] at H
                          have c19b0 : decide (57 < (bt a0 x14_2)) = false := decide_eq_false c19
                          clear c19
                          have H' := Aside0.mk H
                          clear H
                          have p8 : 0 ≤ (x14_2 : Int) := of_decide_eq_true (by first | (with_reducible assumption) | assumption)
                          have q8 : x14_2 < (a0.size : Int) := of_decide_eq_true (by first | (with_reducible assumption) | assumption)
                          have hx8 := bt_at a0 x14_2
                          replace p8 := eq_true p8
                          replace q8 := eq_true q8
                          have p14 : 0 ≤ (x14_2 : Int) := of_decide_eq_true (by first | (with_reducible assumption) | assumption)
                          have q14 : x14_2 < (a0.size : Int) := of_decide_eq_true (by first | (with_reducible assumption) | assumption)
                          have hx14 := bt_at a0 x14_2
                          replace p14 := eq_true p14
                          replace q14 := eq_true q14
                          have p16 : 0 ≤ (x14_2 : Int) := of_decide_eq_true (by first | (with_reducible assumption) | assumption)
                          have q16 : x14_2 < (a0.size : Int) := of_decide_eq_true (by first | (with_reducible assumption) | assumption)
                          have hx16 := bt_at a0 x14_2
                          replace p16 := eq_true p16
                          replace q16 := eq_true q16
                          have p18 : 0 ≤ (x14_2 : Int) := of_decide_eq_true (by first | (with_reducible assumption) | assumption)
                          have q18 : x14_2 < (a0.size : Int) := of_decide_eq_true (by first | (with_reducible assumption) | assumption)
                          have hx18 := bt_at a0 x14_2
                          replace p18 := eq_true p18
                          replace q18 := eq_true q18
                          go_wp2
                          go_roundg k2
                          case measure => have := HJ1.out; have := HK2.out; omega
                          case rel => exact ⟨(wrap64 (x14_2 + 1)), (by first | rfl | (simp; done) | (simp [*]; done)), H', ⟨by have := HJ1.out; have := HK2.out; omega⟩, by repeat (first | exact Drawn0.refl _ | apply Drawn0.step)⟩
                    · rw [if_neg c15] at H
                      have c15b0 : decide (90 < (bt a0 x14_2)) = false := decide_eq_false c15
                      clear c15
                      have H' := Aside0.mk H
                      clear H
                      have p8 : 0 ≤ (x14_2 : Int) := of_decide_eq_true (by first | (with_reducible assumption) | assumption)
                      have q8 : x14_2 < (a0.size : Int) := of_decide_eq_true (by first | (with_reducible assumption) | assumption)
                      have hx8 := bt_at a0 x14_2
                      replace p8 := eq_true p8
                      replace q8 := eq_true q8
                      have p14 : 0 ≤ (x14_2 : Int) := of_decide_eq_true (by first | (with_reducible assumption) | assumption)
                      have q14 : x14_2 < (a0.size : Int) := of_decide_eq_true (by first | (with_reducible assumption) | assumption)
                      have hx14 := bt_at a0 x14_2
                      replace p14 := eq_true p14
                      replace q14 := eq_true q14
                      go_wp2
                      go_roundg k2
                      case measure => have := HJ1.out; have := HK2.out; omega
                      case rel => exact ⟨(wrap64 (x14_2 + 1)), (by first | rfl | (simp; done) | (simp [*]; done)), H', ⟨by have := HJ1.out; have := HK2.out; omega⟩, by repeat (first | exact Drawn0.refl _ | apply Drawn0.step)⟩
                · rw [if_neg c7] at H
                  exact absurd H (by simp)
              · rw [if_neg c6] at H
                exact absurd H (by simp)
            · rw [if_neg c5] at H
              have c5b0 : decide (x14_2 < (a0.size : Int)) = false := decide_eq_false c5
              clear c5
              obtain rfl := Option.some.inj H
              go_wp2
              go_ret
              exact ⟨by first | rfl | (simp; done) | (simp [*]; done), by repeat (first | exact Drawn0.refl _ | apply Drawn0.step)⟩
end Go.Proofs.YtnmfmiemkcaocaaGreat.QCutA
