/- Parts of the proof, joined: GrC, GrD, GrE. No condition. -/
import Derived.Test.YtnmfmiemkcaocaaGreatQb4
set_option maxHeartbeats 8000000
set_option maxRecDepth 100000
namespace Go.Proofs.YtnmfmiemkcaocaaGreat.Hand
open Go.RowKit Go.Proofs.YtnmfmiemkcaocaaGreatW.PrintWords Go.Proofs.YtnmfmiemkcaocaaGreatW.PrintLast Go.Proofs.YtnmfmiemkcaocaaGreatW.PrintMore
set_option linter.unusedVariables false
set_option linter.unusedSimpArgs false
theorem NA.ofBlk0 {w : World} {ad : Addr} (h : Blk w ad []) : NA w (.slice (some ad) 0 0) 0 0 := ⟨[], ⟨some ad, 0, rfl, Nat.le_refl _, h.Cfull (by simp)⟩, Rg.nil, rfl, Nat.le_refl _⟩
def mom1 (ps : List Int) (ns : List Nat) : Nat → Int
 | 0 => 0
 | i + 1 => mom1 ps ns i + (ns.getD i 0 : Int) * ps.getD i 0
def mom2 (ps : List Int) (ns : List Nat) : Nat → Int
 | 0 => 0
 | i + 1 => mom2 ps ns i + (ns.getD i 0 : Int) * ps.getD i 0 * ps.getD i 0
theorem zi_false (n : Nat) : zi false n = (n : Int) := rfl
theorem grid_moment1.run (ps qs : List Int) (P Q : Option Addr) (cp cq : Nat) (A : Option Addr) (cap : Nat) (wss : List (List Int)) (L : Nat) (w : World) (hp : Kd.C (Kd.int .i64) w P ps.length ps) (hr : ∀ x ∈ ps, -1000 ≤ x ∧ x ≤ 1000) (hw : WR w A wss L) (hl : wss.length = ps.length) (hl2 : ps.length ≤ 21) (hs : 0 < (wn wss).sum) (hL : L ≤ 1100000) :
  Calls Tryz.prog 80 #[.agg #[.slice P ps.length cp, .slice Q qs.length cq], .slice A wss.length cap, .int .i64 1] w fun e w' => ∃ u A k c B l d n m, e = .returned (.agg #[.bool u, .slice A k c, .slice B l d]) ∧ NC w' (.slice A k c) n (L + 130) ∧ NC w' (.slice B l d) m (L + 30) ∧ 0 < m ∧ zi u n * ((wn wss).sum : Nat) = mom1 ps (wn wss) wss.length * m ∧ Below w.heap.size w w' := by
 have hpos : 0 < ps.length := by
  rcases Nat.eq_zero_or_pos ps.length with hh | hh
  ·
   exfalso
   have : wss = [] := List.length_eq_zero_iff.1 (by omega)
   rw [this] at hs
   simp [wn] at hs
  ·
   exact hh
 obtain ⟨pd, epd, _⟩ := Kd.at_int hp 0 (Int.le_refl 0) (by omega)
 subst epd
 clear hpos
 have HP := Aside0.mk hp
 have HR := Aside0.mk hr
 have HW := Aside0.mk hw
 have HL := Aside0.mk (show wss.length = ps.length ∧ ps.length ≤ 21 ∧ L ≤ 1100000 from ⟨hl, hl2, hL⟩)
 have HS := Aside0.mk hs
 have HB := Aside0.mk (Below.refl w.heap.size w)
 clear hp hr hw hl hl2 hs hL
 go_enter Tryz.func80, Tryz.ntmps80
 go_wp2_with (first | ((with_reducible refine gate_store (t := 32) (p := 7) rfl ?_); refine Sto (t := 32) (p := 7) (by rfl) (.tmp 15) (by rfl) (by rfl) g7 #[.bool false, .slice none 0 0] (by rfl) (by first | rfl | (go_simp; done) | (go_simp; rfl)) B7 (by kernel_rfl) rfl (by kernel_rfl) ?_; intro w6 ho hB2; replace H4 := As (H4.1.o2 ho B7); replace B3 := Oo B3 ho NE3_7; replace B6 := Oo B6 ho NE6_7; replace HB := Lo HB ho G7; replace B7 := hB2; clear ho hB2) | ((with_reducible refine gate_dst (N := 7) rfl ?_); refine box_event (by rfl) (N := 7) (by rfl) (cs := #[.bool false, .slice none 0 0]) (t := 32) ?hr ?_; (case hr => first | (go_simp; done) | (go_simp; rfl)); intro g7 hgx w5 hbx hb; have B7 := As hbx; have NE3_7 := Nn B3 hgx; have NE6_7 := Nn B6 hgx; have G7 := Gg HB hgx; replace H4 := As (H4.1.be hb); replace B3 := Bb B3 hb; replace B6 := Bb B6 hb; replace HB := Ob HB hb; clear hbx hb hgx) | ((with_reducible refine gate_dst (N := 16) rfl ?_); refine ev_lit ?hg [] 0 rfl ?hr ?_; (case hg => rfl); (case hr => first | (go_simp; done) | (go_simp; rfl)); intro ad3 w3 hbk hb hge; have H4 := Aside0.mk (NA.ofBlk0 hbk); replace B3 := Bb B3 hb; replace B6 := Bb B6 hb; replace HB := Ob HB hb; clear hbk hb hge) | ((with_reducible refine gate_dst (N := 6) rfl ?_); refine box_event (by rfl) (N := 6) (by rfl) (cs := #[.bool false, .slice none 0 0, .slice none 0 0]) (t := 34) ?hr ?_; (case hr => first | (go_simp; done) | (go_simp; rfl)); intro g6 hgx w2 hbx hb; have B6 := As hbx; have NE3_6 := Nn B3 hgx; have G6 := Gg HB hgx; replace B3 := Bb B3 hb; replace HB := Ob HB hb; clear hbx hb hgx) | ((with_reducible refine gate_dst (N := 3) rfl ?_); refine box_event (by rfl) (N := 3) (by rfl) (cs := #[.slice (some pd) ps.length cp, .slice Q qs.length cq]) (t := 27) ?hr ?_; (case hr => first | (go_simp; done) | (go_simp; rfl)); intro g3 hgx w1 hbx hb; have B3 := As hbx; have G3 := Gg HB hgx; replace HB := Ob HB hb; clear hbx hb hgx))
 go_loopg [8, 19] wss.length (fun kq v8 v19 w' => ∃ (i : Int) (s : Bool) (A : Option Addr) (k c n : Nat) (B : Option Addr) (l d : Nat), v8 = .slice B l d ∧ v19 = .int .i64 i ∧ Aside0 (i + kq = (wss.length : Int) ∧ kq ≤ wss.length) ∧ Aside0 (w'.heap[g3]? = some (.cells #[.slice (some pd) ps.length cp, .slice Q qs.length cq] 27 (0, 0))) ∧ Aside0 (w'.heap[g6]? = some (.cells #[.bool false, .slice none 0 0, .slice none 0 0] 34 (0, 0))) ∧ Aside0 (w'.heap[g7]? = some (.cells #[.bool s, .slice A k c] 32 (0, 0))) ∧ Aside0 (NA w' (.slice A k c) n (tot wss i.toNat + 5 * i.toNat)) ∧ Aside0 (zi s n = mom1 ps (wn wss) i.toNat) ∧ Aside0 (NA w' (.slice B l d) ((wn wss).take i.toNat).sum (L + i.toNat)) ∧ Aside0 (Below w.heap.size w w'))
 case atStart => exact ⟨0, false, none, 0, 0, 0, _, _, _, rfl, rfl, ⟨by omega, Nat.le_refl _⟩, B3, B6, B7, ⟨(NC.nil _ _).na⟩, ⟨rfl⟩, ⟨by simpa using H4.out.mono (Nat.zero_le _)⟩, HB⟩
 case round =>
  obtain ⟨i, s, A, k, c, n, B, l, d, rfl, rfl, HIq, C3, C6, C7, H81, HZ, H82, HBl⟩ := hrel
  (try clear cb3_0)
  (try clear cb3_1)
  (try clear cb6_0)
  (try clear cb6_1)
  (try clear cb6_2)
  (try clear cb7_0)
  (try clear cb7_1)
  (try clear fb3_0)
  (try clear fb3_1)
  (try clear fb6_0)
  (try clear fb6_1)
  (try clear fb6_2)
  (try clear fb7_0)
  (try clear fb7_1)
  clear B3 B6 B7 HB
  have B3 := C3
  have B6 := C6
  have B7 := C7
  have HB := HBl
  clear C3 C6 C7 HBl
  by_cases ci : i < (wss.length : Int)
  ·
   have d1 : decide (i < (wss.length : Int)) = true := decide_eq_true ci
   have p1 : 0 ≤ i := by have := HIq.out; omega
   obtain ⟨gq, hk⟩ : ∃ g1, gk = g1 + 1 := ⟨gk - 1, by have := HIq.out; omega⟩
   subst hk
   obtain ⟨ad, B2, k2, c2, ea, hx, hn, hlen⟩ := (HW.out.below HB.out).at' i p1 ci
   subst ea
   rw [← wn_get] at hn
   have H83 := Aside0.mk hn
   obtain ⟨pd1, eb, hy⟩ := Kd.at_int HP.out i p1 (by have := HL.out; omega)
   cases eb
   replace hy := (HB.out.cell (World.block_lt_of_cell? w _ hy)).trans hy
   obtain ⟨x, hxe⟩ : ∃ x, rd ps i = x := ⟨_, rfl⟩
   rw [hxe] at hy
   have HI := Aside0.mk (show -1000 ≤ x ∧ x ≤ 1000 by rw [← hxe]; exact HR.out _ (getD_mem (by have := HL.out; omega)))
   obtain ⟨i1, hi1⟩ : ∃ i1, IntKind.i64.wrap (i + 1) = i1 := ⟨_, rfl⟩
   have E := Aside0.mk (show 0 ≤ i ∧ i < (wss.length : Int) ∧ ps.getD i.toNat 0 = x from ⟨p1, ci, hxe⟩)
   have LT := Aside0.mk (show tot wss (i.toNat + 1) = tot wss i.toNat + (wss.getD i.toNat []).length ∧ tot wss i.toNat ≤ L ∧ (wss.getD i.toNat []).length ≤ L ∧ tot wss (i.toNat + 1) ≤ L from ⟨tot_succ _ _ (by omega), Nat.le_trans (tot_le _ _) HW.out.2.2, hlen, Nat.le_trans (tot_le _ _) HW.out.2.2⟩)
   have p2 := eq_true p1
   have q1 := eq_true ci
   have q2 : (i < (ps.length : Int)) = True := eq_true (by have := HL.out; omega)
   clear hn p1 ci hxe hlen
   (try clear cb3_0)
   have cb3_0 := Cl0 B3
   go_wp2_with (first | ((with_reducible refine gate_store (t := 32) (p := 11) rfl ?_); refine Sto (t := 32) (p := 11) (by rfl) (.tmp 29) (by rfl) (by rfl) g11 #[.bool s201, .slice A201 k201 c201] (by rfl) (by first | rfl | (go_simp; done) | (go_simp; rfl)) B11 (by kernel_rfl) rfl (by kernel_rfl) ?_; intro w204 ho hB2; replace H81 := As (H81.1.o2 ho B11); replace H82 := As (H82.1.o2 ho B11); replace H83 := As (H83.1.o2 ho B11); replace H202 := As (H202.1.o2 ho B11); replace B3 := Oo B3 ho NE3_11; replace B6 := Oo B6 ho NE6_11; replace B7 := Oo B7 ho NE7_11; replace HB := Lo HB ho G11; replace B11 := hB2; clear ho hB2) | ((with_reducible refine gate_dst (N := 11) rfl ?_); refine box_event (by rfl) (N := 11) (by rfl) (cs := #[.bool false, .slice none 0 0]) (t := 32) ?hr ?_; (case hr => first | (go_simp; done) | (go_simp; rfl)); intro g11 hgx w203 hbx hb; have B11 := As hbx; have NE3_11 := Nn B3 hgx; have NE6_11 := Nn B6 hgx; have NE7_11 := Nn B7 hgx; have G11 := Gg HB hgx; replace H81 := As (H81.1.be hb); replace H82 := As (H82.1.be hb); replace H83 := As (H83.1.be hb); replace H202 := As (H202.1.be hb); replace B3 := Bb B3 hb; replace B6 := Bb B6 hb; replace B7 := Bb B7 hb; replace HB := Ob HB hb; clear hbx hb hgx) | (go_at_call 47; (with_reducible refine (integer_Of.run x _ (by have := HI.out; omega) (by have := HI.out; omega)).mono ?_); rintro e w201 ⟨s201, A201, k201, c201, rfl, hr201, hz201, hu201, hb⟩; have H202 := Aside0.mk hr201; have Z201 := Aside0.mk (And.intro hz201 hu201); clear hr201 hz201 hu201; replace H81 := As (H81.1.be hb); replace H82 := As (H82.1.be hb); replace H83 := As (H83.1.be hb); replace B3 := Bb B3 hb; replace B6 := Bb B6 hb; replace B7 := Bb B7 hb; replace HB := Ob HB hb; clear hb))
   replace H81 := As (H81.1.drew)
   replace H82 := As (H82.1.drew)
   replace H83 := As (H83.1.drew)
   replace H202 := As (H202.1.drew)
   replace B3 := Bd B3
   replace B6 := Bd B6
   replace B7 := Bd B7
   replace B11 := Bd B11
   replace HB := Od HB
   refine start_ (n := 6) (S := fun w' => w'.cell? ⟨g11, 0, none⟩ = some (.bool s201) ∧ w'.cell? ⟨g11, 1, none⟩ = some (.slice A201 k201 c201)) (ds := [5]) (Bt 6 0) (by kernel_rfl) rfl (by kernel_rfl) ⟨Cl0 B11, Cl1 B11⟩ (fun hHeld => ?_)
   generalize w204.drew = w205 at hHeld H81 H82 H83 H202 B3 B6 B7 B11 HB ⊢
   refine pure_ (i := 0) (N := some 30) (v := ?_) (a' := ?_) (Bt 6 1) rfl rfl (by kernel_rfl) (fun _ _ _ h => h) (Or.inl ⟨by rfl, ?_⟩) ?_ ?_
   rotate_left
   ·
    intro w'
    go_simp
    with_reducible rfl
   rotate_left
   ·
    simp only [Nrm, Option.some.injEq, List.setIfInBounds_toArray, List.set_cons_zero, List.set_cons_succ, i64_w, i32_w]
    rfl
   refine take_ (i := 2) (N := some 32) (v := ?_) (a' := ?_) (Bt 6 5) rfl rfl (by kernel_rfl) (fun _ _ _ h => h) (Or.inl ⟨by rfl, ?_⟩) hHeld ?_ ?_
   rotate_left
   ·
    rintro w' ⟨s0, s1⟩
    go_simp
    with_reducible rfl
   rotate_left
   ·
    simp only [Nrm, Option.some.injEq, List.setIfInBounds_toArray, List.set_cons_zero, List.set_cons_succ, i64_w, i32_w]
    rfl
   refine two_ (i := 1) (j := 4) (Ni := some 31) (Nj := some 12) (Bt 6 7) (Bt 6 21) rfl rfl rfl rfl (by kernel_rfl) (by decide) (by decide) (fun K hK => ?_) (fun K hK => ?_)
   focus
    refine goes_ Tryz.func69 (by kernel_rfl) rfl #[.bool false, .slice B2 k2 c2] (by rfl) rfl rfl (by (try simp only [List.map_toArray, List.map_cons, List.map_nil]); first | done | rfl) ?_
    with_reducible refine (integer_Make.run _ _ ((wn wss).getD i.toNat 0) (wss.getD i.toNat []).length _ H83.1.na (by have := HL.out; have := LT.out; have := E.out; omega)).mono ?_
    rintro e w218 ⟨s218, A218, k218, c218, rfl, hr218, hz218, hu218, hb⟩
    refine ⟨_, rfl, ?_⟩
    have H219 := Aside0.mk hr218
    have Z218 := Aside0.mk (And.intro hz218 hu218)
    clear hr218 hz218 hu218
    replace H81 := As (H81.1.be hb)
    replace H82 := As (H82.1.be hb)
    replace H83 := As (H83.1.be hb)
    replace H202 := As (H202.1.be hb)
    replace B3 := Bb B3 hb
    replace B6 := Bb B6 hb
    replace B7 := Bb B7 hb
    replace B11 := Bb B11 hb
    replace HB := Ob HB hb
    clear hb
    refine hK.out _ _ ⟨Cl0 B11, Cl1 B11⟩ (fun hHeld => ?_)
    clear hK K
    refine norm_ (a' := ?_) ?_ ?_
    rotate_left
    ·
     show Act.put _ (some 31) _ = _
     simp only [Nrm, Option.some.injEq, List.setIfInBounds_toArray, List.set_cons_zero, List.set_cons_succ, i64_w, i32_w]
     rfl
    refine two_ (i := 3) (j := 4) (Ni := some 33) (Nj := some 12) (Bt 6 15) (Bt 6 23) rfl rfl rfl rfl (by kernel_rfl) (by decide) (by decide) (fun K hK => ?_) (fun K hK => ?_)
    focus
     refine goes_ Tryz.func41 (by kernel_rfl) rfl #[.agg #[.bool s218, .slice A218 k218 c218], .agg #[.bool s201, .slice A201 k201 c201]] (by rfl) rfl rfl (by (try simp only [List.map_toArray, List.map_cons, List.map_nil]); first | done | rfl) ?_
     with_reducible refine (integer_Mul.run s218 s201 _ _ _ _ _ _ ((wn wss).getD i.toNat 0) (x : Int).natAbs (wss.getD i.toNat []).length 2 _ H219.1.na H202.1.na (by have := HL.out; have := LT.out; have := E.out; omega)).mono ?_
     rintro e w242 ⟨s242, A242, k242, c242, rfl, hr242, hz242, hu242, hb⟩
     refine ⟨_, rfl, ?_⟩
     have H243 := Aside0.mk hr242
     have Z242 := Aside0.mk (And.intro hz242 hu242)
     clear hr242 hz242 hu242
     replace H81 := As (H81.1.be hb)
     replace H82 := As (H82.1.be hb)
     replace H83 := As (H83.1.be hb)
     replace H202 := As (H202.1.be hb)
     replace H219 := As (H219.1.be hb)
     replace B3 := Bb B3 hb
     replace B6 := Bb B6 hb
     replace B7 := Bb B7 hb
     replace B11 := Bb B11 hb
     replace HB := Ob HB hb
     clear hb
     refine hK.out _ _ ⟨Cl0 B11, Cl1 B11⟩ (fun hHeld => ?_)
     clear hK K
     refine norm_ (a' := ?_) ?_ ?_
     rotate_left
     ·
      show Act.put _ (some 33) _ = _
      simp only [Nrm, Option.some.injEq, List.setIfInBounds_toArray, List.set_cons_zero, List.set_cons_succ, i64_w, i32_w]
      rfl
     refine one_ (i := 4) (N := some 12) (Bt 6 31) rfl rfl (by kernel_rfl) (by decide) (fun K hK => ?_)
     refine box_step (by rfl) (N := 12) (by rfl) (cs := #[.bool false, .slice none 0 0]) (t := 32) ?hr ?_
     (case hr => first | (go_simp; done) | (go_simp; rfl))
     intro g12 hgx w254 hbx hb
     have B12 := As hbx
     have NE3_12 := Nn B3 hgx
     have NE6_12 := Nn B6 hgx
     have NE7_12 := Nn B7 hgx
     have NE11_12 := Nn B11 hgx
     have G12 := Gg HB hgx
     replace H81 := As (H81.1.be hb)
     replace H82 := As (H82.1.be hb)
     replace H83 := As (H83.1.be hb)
     replace H202 := As (H202.1.be hb)
     replace H219 := As (H219.1.be hb)
     replace H243 := As (H243.1.be hb)
     replace B3 := Bb B3 hb
     replace B6 := Bb B6 hb
     replace B7 := Bb B7 hb
     replace B11 := Bb B11 hb
     replace HB := Ob HB hb
     clear hbx hb hgx
     refine hK.out _ _ ⟨Cl0 B11, Cl1 B11⟩ (fun hHeld => ?_)
     clear hK K
     refine norm_ (a' := ?_) ?_ ?_
     rotate_left
     ·
      show Act.put _ (some 12) _ = _
      simp only [Nrm, Option.some.injEq, List.setIfInBounds_toArray, List.set_cons_zero, List.set_cons_succ, i64_w, i32_w]
      rfl
     refine last_ (i := 5) (N := none) (Bt 6 63) rfl rfl (by kernel_rfl) (by decide) (fun K hK => ?_)
     (try clear cb12_0)
     have cb12_0 := Cl0 B12
     (try clear fb12_0)
     have fb12_0 := Fz B12 0
     (try clear cb12_1)
     have cb12_1 := Cl1 B12
     (try clear fb12_1)
     have fb12_1 := Fz B12 1
     refine skip_ (w1 := ?_) (by rfl) rfl ?_ ?_
     rotate_left
     ·
      go_simp
      rfl
     generalize hw : ((w254.setCell ⟨g12, 0, none⟩ (.bool s242)).setCell ⟨g12, 1, none⟩ (.slice A242 k242 c242)) = w266
     replace hw := Eq.symm hw
     have ho : Only w254 w266 g12 := (by rw [hw]; exact Only.setg (Only.setg (Only.refl _ _) 0 _) 1 _)
     have hB2 : w266.heap[g12]? = some (.cells #[.bool s242, .slice A242 k242 c242] 32 (0, 0)) := (by rw [hw]; exact (blk_put (blk_put B12.out 0 _ rfl) 1 _ rfl))
     replace H81 := As (H81.1.o2 ho B12)
     replace H82 := As (H82.1.o2 ho B12)
     replace H83 := As (H83.1.o2 ho B12)
     replace H202 := As (H202.1.o2 ho B12)
     replace H219 := As (H219.1.o2 ho B12)
     replace H243 := As (H243.1.o2 ho B12)
     replace B3 := Oo B3 ho NE3_12
     replace B6 := Oo B6 ho NE6_12
     replace B7 := Oo B7 ho NE7_12
     replace B11 := Oo B11 ho NE11_12
     replace HB := Lo HB ho G12
     replace B12 := As hB2
     clear hw ho hB2
     refine hK.out _ _ ?_
     clear hK K
     refine done_ (by kernel_rfl) ?_
     rename World => w277
    rotate_left
    focus
     refine box_step (by rfl) (N := 12) (by rfl) (cs := #[.bool false, .slice none 0 0]) (t := 32) ?hr ?_
     (case hr => first | (go_simp; done) | (go_simp; rfl))
     intro g12 hgx w254 hbx hb
     have B12 := As hbx
     have NE3_12 := Nn B3 hgx
     have NE6_12 := Nn B6 hgx
     have NE7_12 := Nn B7 hgx
     have NE11_12 := Nn B11 hgx
     have G12 := Gg HB hgx
     replace H81 := As (H81.1.be hb)
     replace H82 := As (H82.1.be hb)
     replace H83 := As (H83.1.be hb)
     replace H202 := As (H202.1.be hb)
     replace H219 := As (H219.1.be hb)
     replace B3 := Bb B3 hb
     replace B6 := Bb B6 hb
     replace B7 := Bb B7 hb
     replace B11 := Bb B11 hb
     replace HB := Ob HB hb
     clear hbx hb hgx
     refine hK.out _ _ ⟨Cl0 B11, Cl1 B11⟩ (fun hHeld => ?_)
     clear hK K
     refine norm_ (a' := ?_) ?_ ?_
     rotate_left
     ·
      show Act.put _ (some 12) _ = _
      simp only [Nrm, Option.some.injEq, List.setIfInBounds_toArray, List.set_cons_zero, List.set_cons_succ, i64_w, i32_w]
      rfl
     refine one_ (i := 3) (N := some 33) (Bt 6 31) rfl rfl (by kernel_rfl) (by decide) (fun K hK => ?_)
     refine goes_ Tryz.func41 (by kernel_rfl) rfl #[.agg #[.bool s218, .slice A218 k218 c218], .agg #[.bool s201, .slice A201 k201 c201]] (by rfl) rfl rfl (by (try simp only [List.map_toArray, List.map_cons, List.map_nil]); first | done | rfl) ?_
     with_reducible refine (integer_Mul.run s218 s201 _ _ _ _ _ _ ((wn wss).getD i.toNat 0) (x : Int).natAbs (wss.getD i.toNat []).length 2 _ H219.1.na H202.1.na (by have := HL.out; have := LT.out; have := E.out; omega)).mono ?_
     rintro e w242 ⟨s242, A242, k242, c242, rfl, hr242, hz242, hu242, hb⟩
     refine ⟨_, rfl, ?_⟩
     have H243 := Aside0.mk hr242
     have Z242 := Aside0.mk (And.intro hz242 hu242)
     clear hr242 hz242 hu242
     replace H81 := As (H81.1.be hb)
     replace H82 := As (H82.1.be hb)
     replace H83 := As (H83.1.be hb)
     replace H202 := As (H202.1.be hb)
     replace H219 := As (H219.1.be hb)
     replace B3 := Bb B3 hb
     replace B6 := Bb B6 hb
     replace B7 := Bb B7 hb
     replace B11 := Bb B11 hb
     replace B12 := Bb B12 hb
     replace HB := Ob HB hb
     clear hb
     refine hK.out _ _ ⟨Cl0 B11, Cl1 B11⟩ (fun hHeld => ?_)
     clear hK K
     refine norm_ (a' := ?_) ?_ ?_
     rotate_left
     ·
      show Act.put _ (some 33) _ = _
      simp only [Nrm, Option.some.injEq, List.setIfInBounds_toArray, List.set_cons_zero, List.set_cons_succ, i64_w, i32_w]
      rfl
     refine last_ (i := 5) (N := none) (Bt 6 63) rfl rfl (by kernel_rfl) (by decide) (fun K hK => ?_)
     (try clear cb12_0)
     have cb12_0 := Cl0 B12
     (try clear fb12_0)
     have fb12_0 := Fz B12 0
     (try clear cb12_1)
     have cb12_1 := Cl1 B12
     (try clear fb12_1)
     have fb12_1 := Fz B12 1
     refine skip_ (w1 := ?_) (by rfl) rfl ?_ ?_
     rotate_left
     ·
      go_simp
      rfl
     generalize hw : ((w242.setCell ⟨g12, 0, none⟩ (.bool s242)).setCell ⟨g12, 1, none⟩ (.slice A242 k242 c242)) = w266
     replace hw := Eq.symm hw
     have ho : Only w242 w266 g12 := (by rw [hw]; exact Only.setg (Only.setg (Only.refl _ _) 0 _) 1 _)
     have hB2 : w266.heap[g12]? = some (.cells #[.bool s242, .slice A242 k242 c242] 32 (0, 0)) := (by rw [hw]; exact (blk_put (blk_put B12.out 0 _ rfl) 1 _ rfl))
     replace H81 := As (H81.1.o2 ho B12)
     replace H82 := As (H82.1.o2 ho B12)
     replace H83 := As (H83.1.o2 ho B12)
     replace H202 := As (H202.1.o2 ho B12)
     replace H219 := As (H219.1.o2 ho B12)
     replace H243 := As (H243.1.o2 ho B12)
     replace B3 := Oo B3 ho NE3_12
     replace B6 := Oo B6 ho NE6_12
     replace B7 := Oo B7 ho NE7_12
     replace B11 := Oo B11 ho NE11_12
     replace HB := Lo HB ho G12
     replace B12 := As hB2
     clear hw ho hB2
     refine hK.out _ _ ?_
     clear hK K
     refine done_ (by kernel_rfl) ?_
     rename World => w277
    rotate_left
   rotate_left 2
   focus
    refine box_step (by rfl) (N := 12) (by rfl) (cs := #[.bool false, .slice none 0 0]) (t := 32) ?hr ?_
    (case hr => first | (go_simp; done) | (go_simp; rfl))
    intro g12 hgx w254 hbx hb
    have B12 := As hbx
    have NE3_12 := Nn B3 hgx
    have NE6_12 := Nn B6 hgx
    have NE7_12 := Nn B7 hgx
    have NE11_12 := Nn B11 hgx
    have G12 := Gg HB hgx
    replace H81 := As (H81.1.be hb)
    replace H82 := As (H82.1.be hb)
    replace H83 := As (H83.1.be hb)
    replace H202 := As (H202.1.be hb)
    replace B3 := Bb B3 hb
    replace B6 := Bb B6 hb
    replace B7 := Bb B7 hb
    replace B11 := Bb B11 hb
    replace HB := Ob HB hb
    clear hbx hb hgx
    refine hK.out _ _ ⟨Cl0 B11, Cl1 B11⟩ (fun hHeld => ?_)
    clear hK K
    refine norm_ (a' := ?_) ?_ ?_
    rotate_left
    ·
     show Act.put _ (some 12) _ = _
     simp only [Nrm, Option.some.injEq, List.setIfInBounds_toArray, List.set_cons_zero, List.set_cons_succ, i64_w, i32_w]
     rfl
    refine one_ (i := 1) (N := some 31) (Bt 6 23) rfl rfl (by kernel_rfl) (by decide) (fun K hK => ?_)
    refine goes_ Tryz.func69 (by kernel_rfl) rfl #[.bool false, .slice B2 k2 c2] (by rfl) rfl rfl (by (try simp only [List.map_toArray, List.map_cons, List.map_nil]); first | done | rfl) ?_
    with_reducible refine (integer_Make.run _ _ ((wn wss).getD i.toNat 0) (wss.getD i.toNat []).length _ H83.1.na (by have := HL.out; have := LT.out; have := E.out; omega)).mono ?_
    rintro e w218 ⟨s218, A218, k218, c218, rfl, hr218, hz218, hu218, hb⟩
    refine ⟨_, rfl, ?_⟩
    have H219 := Aside0.mk hr218
    have Z218 := Aside0.mk (And.intro hz218 hu218)
    clear hr218 hz218 hu218
    replace H81 := As (H81.1.be hb)
    replace H82 := As (H82.1.be hb)
    replace H83 := As (H83.1.be hb)
    replace H202 := As (H202.1.be hb)
    replace B3 := Bb B3 hb
    replace B6 := Bb B6 hb
    replace B7 := Bb B7 hb
    replace B11 := Bb B11 hb
    replace B12 := Bb B12 hb
    replace HB := Ob HB hb
    clear hb
    refine hK.out _ _ ⟨Cl0 B11, Cl1 B11⟩ (fun hHeld => ?_)
    clear hK K
    refine norm_ (a' := ?_) ?_ ?_
    rotate_left
    ·
     show Act.put _ (some 31) _ = _
     simp only [Nrm, Option.some.injEq, List.setIfInBounds_toArray, List.set_cons_zero, List.set_cons_succ, i64_w, i32_w]
     rfl
    refine one_ (i := 3) (N := some 33) (Bt 6 31) rfl rfl (by kernel_rfl) (by decide) (fun K hK => ?_)
    refine goes_ Tryz.func41 (by kernel_rfl) rfl #[.agg #[.bool s218, .slice A218 k218 c218], .agg #[.bool s201, .slice A201 k201 c201]] (by rfl) rfl rfl (by (try simp only [List.map_toArray, List.map_cons, List.map_nil]); first | done | rfl) ?_
    with_reducible refine (integer_Mul.run s218 s201 _ _ _ _ _ _ ((wn wss).getD i.toNat 0) (x : Int).natAbs (wss.getD i.toNat []).length 2 _ H219.1.na H202.1.na (by have := HL.out; have := LT.out; have := E.out; omega)).mono ?_
    rintro e w242 ⟨s242, A242, k242, c242, rfl, hr242, hz242, hu242, hb⟩
    refine ⟨_, rfl, ?_⟩
    have H243 := Aside0.mk hr242
    have Z242 := Aside0.mk (And.intro hz242 hu242)
    clear hr242 hz242 hu242
    replace H81 := As (H81.1.be hb)
    replace H82 := As (H82.1.be hb)
    replace H83 := As (H83.1.be hb)
    replace H202 := As (H202.1.be hb)
    replace H219 := As (H219.1.be hb)
    replace B3 := Bb B3 hb
    replace B6 := Bb B6 hb
    replace B7 := Bb B7 hb
    replace B11 := Bb B11 hb
    replace B12 := Bb B12 hb
    replace HB := Ob HB hb
    clear hb
    refine hK.out _ _ ⟨Cl0 B11, Cl1 B11⟩ (fun hHeld => ?_)
    clear hK K
    refine norm_ (a' := ?_) ?_ ?_
    rotate_left
    ·
     show Act.put _ (some 33) _ = _
     simp only [Nrm, Option.some.injEq, List.setIfInBounds_toArray, List.set_cons_zero, List.set_cons_succ, i64_w, i32_w]
     rfl
    refine last_ (i := 5) (N := none) (Bt 6 63) rfl rfl (by kernel_rfl) (by decide) (fun K hK => ?_)
    (try clear cb12_0)
    have cb12_0 := Cl0 B12
    (try clear fb12_0)
    have fb12_0 := Fz B12 0
    (try clear cb12_1)
    have cb12_1 := Cl1 B12
    (try clear fb12_1)
    have fb12_1 := Fz B12 1
    refine skip_ (w1 := ?_) (by rfl) rfl ?_ ?_
    rotate_left
    ·
     go_simp
     rfl
    generalize hw : ((w242.setCell ⟨g12, 0, none⟩ (.bool s242)).setCell ⟨g12, 1, none⟩ (.slice A242 k242 c242)) = w266
    replace hw := Eq.symm hw
    have ho : Only w242 w266 g12 := (by rw [hw]; exact Only.setg (Only.setg (Only.refl _ _) 0 _) 1 _)
    have hB2 : w266.heap[g12]? = some (.cells #[.bool s242, .slice A242 k242 c242] 32 (0, 0)) := (by rw [hw]; exact (blk_put (blk_put B12.out 0 _ rfl) 1 _ rfl))
    replace H81 := As (H81.1.o2 ho B12)
    replace H82 := As (H82.1.o2 ho B12)
    replace H83 := As (H83.1.o2 ho B12)
    replace H202 := As (H202.1.o2 ho B12)
    replace H219 := As (H219.1.o2 ho B12)
    replace H243 := As (H243.1.o2 ho B12)
    replace B3 := Oo B3 ho NE3_12
    replace B6 := Oo B6 ho NE6_12
    replace B7 := Oo B7 ho NE7_12
    replace B11 := Oo B11 ho NE11_12
    replace HB := Lo HB ho G12
    replace B12 := As hB2
    clear hw ho hB2
    refine hK.out _ _ ?_
    clear hK K
    refine done_ (by kernel_rfl) ?_
    rename World => w277
   rotate_left
   all_goals
    (try clear cb7_0)
    have cb7_0 := Cl0 B7
    (try clear cb7_1)
    have cb7_1 := Cl1 B7
    (try clear cb12_0)
    have cb12_0 := Cl0 B12
    (try clear cb12_1)
    have cb12_1 := Cl1 B12
    go_wp2_with (first | (go_at_call 92; (with_reducible refine (nat_Add.run _ _ ((wn wss).take i.toNat).sum ((wn wss).getD i.toNat 0) (L + i.toNat) _ (H82.1.na.mono (by have := LT.out; omega)) (H83.1.na.mono (by have := LT.out; omega)) (by have := HL.out; have := E.out; omega)).mono ?_); rintro e w282 ⟨r282, rfl, hr282, hb⟩; obtain ⟨A282, k282, c282, rfl⟩ := hr282.sl; have H283 := Aside0.mk hr282; clear hr282; replace H81 := As (H81.1.be hb); replace H82 := As (H82.1.be hb); replace H83 := As (H83.1.be hb); replace H202 := As (H202.1.be hb); replace H219 := As (H219.1.be hb); replace H243 := As (H243.1.be hb); replace H280 := As (H280.1.be hb); replace B3 := Bb B3 hb; replace B6 := Bb B6 hb; replace B7 := Bb B7 hb; replace B11 := Bb B11 hb; replace B12 := Bb B12 hb; replace HB := Ob HB hb; clear hb) | ((with_reducible refine gate_store (t := 32) (p := 7) rfl ?_); refine Sto (t := 32) (p := 7) (by rfl) (.tmp 41) (by rfl) (by rfl) g7 #[.bool s279, .slice A279 k279 c279] (by rfl) (by first | rfl | (go_simp; done) | (go_simp; rfl)) B7 (by kernel_rfl) rfl (by kernel_rfl) ?_; intro w281 ho hB2; replace H81 := As (H81.1.o2 ho B7); replace H82 := As (H82.1.o2 ho B7); replace H83 := As (H83.1.o2 ho B7); replace H202 := As (H202.1.o2 ho B7); replace H219 := As (H219.1.o2 ho B7); replace H243 := As (H243.1.o2 ho B7); replace H280 := As (H280.1.o2 ho B7); replace B3 := Oo B3 ho NE3_7; replace B6 := Oo B6 ho NE6_7; replace B11 := Ou B11 ho NE7_11; replace B12 := Ou B12 ho NE7_12; replace HB := Lo HB ho G7; replace B7 := hB2; clear ho hB2) | (go_at_call 101; (with_reducible refine (integer_Add.run s s242 _ _ _ _ _ _ n (((wn wss).getD i.toNat 0) * (x : Int).natAbs) (tot wss i.toNat + 5 * i.toNat) ((wss.getD i.toNat []).length + 2) _ H81.1.na H243.1.na (by have := HL.out; have := LT.out; have := E.out; omega)).mono ?_); rintro e w279 ⟨s279, A279, k279, c279, n279, rfl, hr279, hz279, hu279, hb⟩; have H280 := Aside0.mk hr279; have Z279 := Aside0.mk (And.intro hz279 hu279); clear hr279 hz279 hu279; replace H81 := As (H81.1.be hb); replace H82 := As (H82.1.be hb); replace H83 := As (H83.1.be hb); replace H202 := As (H202.1.be hb); replace H219 := As (H219.1.be hb); replace H243 := As (H243.1.be hb); replace B3 := Bb B3 hb; replace B6 := Bb B6 hb; replace B7 := Bb B7 hb; replace B11 := Bb B11 hb; replace B12 := Bb B12 hb; replace HB := Ob HB hb; clear hb))
    go_roundg gq
    case measure => omega
    case rel =>
     have hE := E.out
     have hL := HL.out
     have hI := HIq.out
     have hT := LT.out
     have ei1 : i1 = i + 1 := by rw [← hi1, i64_w]; unfold wrap64; omega
     have ei2 : i1.toNat = i.toNat + 1 := by omega
     refine ⟨i1, _, _, _, _, _, _, _, _, rfl, rfl, ⟨by omega, by omega⟩, B3, B6, B7, ⟨(H280.1.na).mono (by rw [ei2, hT.1]; omega)⟩, ⟨?_⟩, ⟨?_⟩, HB⟩
     ·
      rw [ei2, show mom1 ps (wn wss) (i.toNat + 1) = mom1 ps (wn wss) i.toNat + ((wn wss).getD i.toNat 0 : Int) * ps.getD i.toNat 0 from rfl, hE.2.2, ← HZ.out]
      have z1 := Z218.out.1
      have z2 := Z201.out.1
      have z3 := Z242.out.1
      have z5 := Z279.out.1
      rw [z5, z3, z1, z2, zi_false]
     ·
      rw [ei2, sum_take _ _ (by rw [wn_len]; omega)]
      exact (H283.1.na).mono (by omega)
  ·
   have d1 : decide (i < (wss.length : Int)) = false := decide_eq_false ci
   have ei : i = (wss.length : Int) := by have := HIq.out; omega
   subst ei
   have HT := Aside0.mk (show tot wss wss.length ≤ L from Nat.le_trans (tot_le _ _) HW.out.2.2)
   clear ci
   rw [Int.toNat_natCast] at H81 HZ H82
   rw [List.take_of_length_le (by rw [wn_len]; exact Nat.le_refl _)] at H82
   go_wp2
   replace H81 := As (H81.1.drew)
   replace H82 := As (H82.1.drew)
   replace B3 := Bd B3
   replace B6 := Bd B6
   replace B7 := Bd B7
   replace HB := Od HB
   refine start_ (n := 10) (S := fun w' => w'.cell? ⟨g7, 0, none⟩ = some (.bool s) ∧ w'.cell? ⟨g7, 1, none⟩ = some (.slice A k c)) (ds := [8]) (Bt 10 0) (by kernel_rfl) rfl (by kernel_rfl) ⟨Cl0 B7, Cl1 B7⟩ (fun hHeld => ?_)
   generalize wr.drew = w401 at hHeld H81 H82 B3 B6 B7 HB ⊢
   refine pure_ (i := 1) (N := some 48) (v := ?_) (a' := ?_) (Bt 10 2) rfl rfl (by kernel_rfl) (fun _ _ _ h => h) (Or.inl ⟨by rfl, ?_⟩) ?_ ?_
   rotate_left
   ·
    intro w'
    go_simp
    with_reducible rfl
   rotate_left
   ·
    simp only [Nrm, Option.some.injEq, List.setIfInBounds_toArray, List.set_cons_zero, List.set_cons_succ, i64_w, i32_w]
    rfl
   refine take_ (i := 0) (N := some 47) (v := ?_) (a' := ?_) (Bt 10 3) rfl rfl (by kernel_rfl) (fun _ _ _ h => h) (Or.inl ⟨by rfl, ?_⟩) hHeld ?_ ?_
   rotate_left
   ·
    rintro w' ⟨s0, s1⟩
    go_simp
    with_reducible rfl
   rotate_left
   ·
    simp only [Nrm, Option.some.injEq, List.setIfInBounds_toArray, List.set_cons_zero, List.set_cons_succ, i64_w, i32_w]
    rfl
   refine two_ (i := 2) (j := 7) (Ni := some 49) (Nj := some 13) (Bt 10 7) (Bt 10 131) rfl rfl rfl rfl (by kernel_rfl) (by decide) (by decide) (fun K hK => ?_) (fun K hK => ?_)
   focus
    refine goes_ Tryz.func69 (by kernel_rfl) rfl #[.bool false, .slice B l d] (by rfl) rfl rfl (by (try simp only [List.map_toArray, List.map_cons, List.map_nil]); first | done | rfl) ?_
    with_reducible refine (integer_Make.run _ _ (wn wss).sum (L + wss.length) _ H82.1.na (by have := HL.out; have := HT.out; omega)).mono ?_
    rintro e w426 ⟨s426, A426, k426, c426, rfl, hr426, hz426, hu426, hb⟩
    refine ⟨_, rfl, ?_⟩
    have H427 := Aside0.mk hr426
    have Z426 := Aside0.mk (And.intro hz426 hu426)
    clear hr426 hz426 hu426
    replace H81 := As (H81.1.be hb)
    replace H82 := As (H82.1.be hb)
    replace B3 := Bb B3 hb
    replace B6 := Bb B6 hb
    replace B7 := Bb B7 hb
    replace HB := Ob HB hb
    clear hb
    refine hK.out _ _ ⟨Cl0 B7, Cl1 B7⟩ (fun hHeld => ?_)
    clear hK K
    refine norm_ (a' := ?_) ?_ ?_
    rotate_left
    ·
     show Act.put _ (some 49) _ = _
     simp only [Nrm, Option.some.injEq, List.setIfInBounds_toArray, List.set_cons_zero, List.set_cons_succ, i64_w, i32_w]
     rfl
    refine two_ (i := 3) (j := 7) (Ni := some 50) (Nj := some 13) (Bt 10 15) (Bt 10 135) rfl rfl rfl rfl (by kernel_rfl) (by decide) (by decide) (fun K hK => ?_) (fun K hK => ?_)
    focus
     refine goes_ Tryz.func46 (by kernel_rfl) rfl #[.agg #[.bool s, .slice A k c], .agg #[.bool s426, .slice A426 k426 c426]] (by rfl) rfl rfl (by (try simp only [List.map_toArray, List.map_cons, List.map_nil]); first | done | rfl) ?_
     with_reducible refine (ratio_Make.run s s426 _ _ _ _ _ _ n (wn wss).sum (tot wss wss.length + 5 * wss.length) (L + wss.length) _ H81.1.na H427.1.na (HS.out) (by have := HL.out; have := HT.out; omega)).mono ?_
     rintro e w438 ⟨s438, A438, k438, c438, D438, l438, d438, n438, m438, rfl, hq438, hr438, hm438, hz438, hb⟩
     refine ⟨_, rfl, ?_⟩
     have H439 := Aside0.mk hq438
     have H440 := Aside0.mk hr438
     have F438 := Aside0.mk (And.intro hm438 hz438)
     clear hq438 hr438 hm438 hz438
     replace H81 := As (H81.1.be hb)
     replace H82 := As (H82.1.be hb)
     replace H427 := As (H427.1.be hb)
     replace B3 := Bb B3 hb
     replace B6 := Bb B6 hb
     replace B7 := Bb B7 hb
     replace HB := Ob HB hb
     clear hb
     refine hK.out _ _ ⟨Cl0 B7, Cl1 B7⟩ (fun hHeld => ?_)
     clear hK K
     refine norm_ (a' := ?_) ?_ ?_
     rotate_left
     ·
      show Act.put _ (some 50) _ = _
      simp only [Nrm, Option.some.injEq, List.setIfInBounds_toArray, List.set_cons_zero, List.set_cons_succ, i64_w, i32_w]
      rfl
     refine pure_ (i := 4) (N := some 46) (v := ?_) (a' := ?_) (Bt 10 31) rfl rfl (by kernel_rfl) (fun _ _ _ h => h) (Or.inl ⟨by rfl, ?_⟩) ?_ ?_
     rotate_left
     ·
      intro w'
      go_simp
      with_reducible rfl
     rotate_left
     ·
      simp only [Nrm, Option.some.injEq, List.setIfInBounds_toArray, List.set_cons_zero, List.set_cons_succ, i64_w, i32_w]
      rfl
     refine pure_ (i := 5) (N := some 51) (v := ?_) (a' := ?_) (Bt 10 63) rfl rfl (by kernel_rfl) (fun _ _ _ h => h) (Or.inl ⟨by rfl, ?_⟩) ?_ ?_
     rotate_left
     ·
      intro w'
      go_simp
      with_reducible rfl
     rotate_left
     ·
      simp only [Nrm, Option.some.injEq, List.setIfInBounds_toArray, List.set_cons_zero, List.set_cons_succ, i64_w, i32_w]
      rfl
     refine pure_ (i := 6) (N := some 52) (v := ?_) (a' := ?_) (Bt 10 127) rfl rfl (by kernel_rfl) (fun _ _ _ h => h) (Or.inl ⟨by rfl, ?_⟩) ?_ ?_
     rotate_left
     ·
      intro w'
      go_simp
      with_reducible rfl
     rotate_left
     ·
      simp only [Nrm, Option.some.injEq, List.setIfInBounds_toArray, List.set_cons_zero, List.set_cons_succ, i64_w, i32_w]
      rfl
     refine one_ (i := 7) (N := some 13) (Bt 10 255) rfl rfl (by kernel_rfl) (by decide) (fun K hK => ?_)
     refine box_step (by rfl) (N := 13) (by rfl) (cs := #[.bool false, .slice none 0 0, .slice none 0 0]) (t := 34) ?hr ?_
     (case hr => first | (go_simp; done) | (go_simp; rfl))
     intro g13 hgx w486 hbx hb
     have B13 := As hbx
     have NE3_13 := Nn B3 hgx
     have NE6_13 := Nn B6 hgx
     have NE7_13 := Nn B7 hgx
     have G13 := Gg HB hgx
     replace H81 := As (H81.1.be hb)
     replace H82 := As (H82.1.be hb)
     replace H427 := As (H427.1.be hb)
     replace H439 := As (H439.1.be hb)
     replace H440 := As (H440.1.be hb)
     replace B3 := Bb B3 hb
     replace B6 := Bb B6 hb
     replace B7 := Bb B7 hb
     replace HB := Ob HB hb
     clear hbx hb hgx
     refine hK.out _ _ ⟨Cl0 B7, Cl1 B7⟩ (fun hHeld => ?_)
     clear hK K
     refine norm_ (a' := ?_) ?_ ?_
     rotate_left
     ·
      show Act.put _ (some 13) _ = _
      simp only [Nrm, Option.some.injEq, List.setIfInBounds_toArray, List.set_cons_zero, List.set_cons_succ, i64_w, i32_w]
      rfl
     refine last_ (i := 8) (N := none) (Bt 10 511) rfl rfl (by kernel_rfl) (by decide) (fun K hK => ?_)
     (try clear cb13_0)
     have cb13_0 := Cl0 B13
     (try clear fb13_0)
     have fb13_0 := Fz B13 0
     (try clear cb13_1)
     have cb13_1 := Cl1 B13
     (try clear fb13_1)
     have fb13_1 := Fz B13 1
     (try clear cb13_2)
     have cb13_2 := Cl2 B13
     (try clear fb13_2)
     have fb13_2 := Fz B13 2
     refine skip_ (w1 := ?_) (by rfl) rfl ?_ ?_
     rotate_left
     ·
      go_simp
      rfl
     generalize hw : (((w486.setCell ⟨g13, 0, none⟩ (.bool s438)).setCell ⟨g13, 1, none⟩ (.slice A438 k438 c438)).setCell ⟨g13, 2, none⟩ (.slice D438 l438 d438)) = w498
     replace hw := Eq.symm hw
     have ho : Only w486 w498 g13 := (by rw [hw]; exact Only.setg (Only.setg (Only.setg (Only.refl _ _) 0 _) 1 _) 2 _)
     have hB2 : w498.heap[g13]? = some (.cells #[.bool s438, .slice A438 k438 c438, .slice D438 l438 d438] 34 (0, 0)) := (by rw [hw]; exact (blk_put (blk_put (blk_put B13.out 0 _ rfl) 1 _ rfl) 2 _ rfl))
     replace H81 := As (H81.1.o3 ho B13)
     replace H82 := As (H82.1.o3 ho B13)
     replace H427 := As (H427.1.o3 ho B13)
     replace H439 := As (H439.1.o3 ho B13)
     replace H440 := As (H440.1.o3 ho B13)
     replace B3 := Oo B3 ho NE3_13
     replace B6 := Oo B6 ho NE6_13
     replace B7 := Oo B7 ho NE7_13
     replace HB := Lo HB ho G13
     replace B13 := As hB2
     clear hw ho hB2
     refine hK.out _ _ ?_
     clear hK K
     refine pure_ (i := 9) (N := some 14) (v := ?_) (a' := ?_) (Bt 10 1023) rfl rfl (by kernel_rfl) (fun _ _ _ h => h) (Or.inl ⟨by rfl, ?_⟩) ?_ ?_
     rotate_left
     ·
      intro w'
      go_simp
      with_reducible rfl
     rotate_left
     ·
      simp only [Nrm, Option.some.injEq, List.setIfInBounds_toArray, List.set_cons_zero, List.set_cons_succ, i64_w, i32_w]
      rfl
     refine done_ (by kernel_rfl) ?_
     rename World => w521
    rotate_left
    focus
     refine box_step (by rfl) (N := 13) (by rfl) (cs := #[.bool false, .slice none 0 0, .slice none 0 0]) (t := 34) ?hr ?_
     (case hr => first | (go_simp; done) | (go_simp; rfl))
     intro g13 hgx w486 hbx hb
     have B13 := As hbx
     have NE3_13 := Nn B3 hgx
     have NE6_13 := Nn B6 hgx
     have NE7_13 := Nn B7 hgx
     have G13 := Gg HB hgx
     replace H81 := As (H81.1.be hb)
     replace H82 := As (H82.1.be hb)
     replace H427 := As (H427.1.be hb)
     replace B3 := Bb B3 hb
     replace B6 := Bb B6 hb
     replace B7 := Bb B7 hb
     replace HB := Ob HB hb
     clear hbx hb hgx
     refine hK.out _ _ ⟨Cl0 B7, Cl1 B7⟩ (fun hHeld => ?_)
     clear hK K
     refine norm_ (a' := ?_) ?_ ?_
     rotate_left
     ·
      show Act.put _ (some 13) _ = _
      simp only [Nrm, Option.some.injEq, List.setIfInBounds_toArray, List.set_cons_zero, List.set_cons_succ, i64_w, i32_w]
      rfl
     refine one_ (i := 3) (N := some 50) (Bt 10 143) rfl rfl (by kernel_rfl) (by decide) (fun K hK => ?_)
     refine goes_ Tryz.func46 (by kernel_rfl) rfl #[.agg #[.bool s, .slice A k c], .agg #[.bool s426, .slice A426 k426 c426]] (by rfl) rfl rfl (by (try simp only [List.map_toArray, List.map_cons, List.map_nil]); first | done | rfl) ?_
     with_reducible refine (ratio_Make.run s s426 _ _ _ _ _ _ n (wn wss).sum (tot wss wss.length + 5 * wss.length) (L + wss.length) _ H81.1.na H427.1.na (HS.out) (by have := HL.out; have := HT.out; omega)).mono ?_
     rintro e w438 ⟨s438, A438, k438, c438, D438, l438, d438, n438, m438, rfl, hq438, hr438, hm438, hz438, hb⟩
     refine ⟨_, rfl, ?_⟩
     have H439 := Aside0.mk hq438
     have H440 := Aside0.mk hr438
     have F438 := Aside0.mk (And.intro hm438 hz438)
     clear hq438 hr438 hm438 hz438
     replace H81 := As (H81.1.be hb)
     replace H82 := As (H82.1.be hb)
     replace H427 := As (H427.1.be hb)
     replace B3 := Bb B3 hb
     replace B6 := Bb B6 hb
     replace B7 := Bb B7 hb
     replace B13 := Bb B13 hb
     replace HB := Ob HB hb
     clear hb
     refine hK.out _ _ ⟨Cl0 B7, Cl1 B7⟩ (fun hHeld => ?_)
     clear hK K
     refine norm_ (a' := ?_) ?_ ?_
     rotate_left
     ·
      show Act.put _ (some 50) _ = _
      simp only [Nrm, Option.some.injEq, List.setIfInBounds_toArray, List.set_cons_zero, List.set_cons_succ, i64_w, i32_w]
      rfl
     refine pure_ (i := 4) (N := some 46) (v := ?_) (a' := ?_) (Bt 10 159) rfl rfl (by kernel_rfl) (fun _ _ _ h => h) (Or.inl ⟨by rfl, ?_⟩) ?_ ?_
     rotate_left
     ·
      intro w'
      go_simp
      with_reducible rfl
     rotate_left
     ·
      simp only [Nrm, Option.some.injEq, List.setIfInBounds_toArray, List.set_cons_zero, List.set_cons_succ, i64_w, i32_w]
      rfl
     refine pure_ (i := 5) (N := some 51) (v := ?_) (a' := ?_) (Bt 10 191) rfl rfl (by kernel_rfl) (fun _ _ _ h => h) (Or.inl ⟨by rfl, ?_⟩) ?_ ?_
     rotate_left
     ·
      intro w'
      go_simp
      with_reducible rfl
     rotate_left
     ·
      simp only [Nrm, Option.some.injEq, List.setIfInBounds_toArray, List.set_cons_zero, List.set_cons_succ, i64_w, i32_w]
      rfl
     refine pure_ (i := 6) (N := some 52) (v := ?_) (a' := ?_) (Bt 10 255) rfl rfl (by kernel_rfl) (fun _ _ _ h => h) (Or.inl ⟨by rfl, ?_⟩) ?_ ?_
     rotate_left
     ·
      intro w'
      go_simp
      with_reducible rfl
     rotate_left
     ·
      simp only [Nrm, Option.some.injEq, List.setIfInBounds_toArray, List.set_cons_zero, List.set_cons_succ, i64_w, i32_w]
      rfl
     refine last_ (i := 8) (N := none) (Bt 10 511) rfl rfl (by kernel_rfl) (by decide) (fun K hK => ?_)
     (try clear cb13_0)
     have cb13_0 := Cl0 B13
     (try clear fb13_0)
     have fb13_0 := Fz B13 0
     (try clear cb13_1)
     have cb13_1 := Cl1 B13
     (try clear fb13_1)
     have fb13_1 := Fz B13 1
     (try clear cb13_2)
     have cb13_2 := Cl2 B13
     (try clear fb13_2)
     have fb13_2 := Fz B13 2
     refine skip_ (w1 := ?_) (by rfl) rfl ?_ ?_
     rotate_left
     ·
      go_simp
      rfl
     generalize hw : (((w438.setCell ⟨g13, 0, none⟩ (.bool s438)).setCell ⟨g13, 1, none⟩ (.slice A438 k438 c438)).setCell ⟨g13, 2, none⟩ (.slice D438 l438 d438)) = w498
     replace hw := Eq.symm hw
     have ho : Only w438 w498 g13 := (by rw [hw]; exact Only.setg (Only.setg (Only.setg (Only.refl _ _) 0 _) 1 _) 2 _)
     have hB2 : w498.heap[g13]? = some (.cells #[.bool s438, .slice A438 k438 c438, .slice D438 l438 d438] 34 (0, 0)) := (by rw [hw]; exact (blk_put (blk_put (blk_put B13.out 0 _ rfl) 1 _ rfl) 2 _ rfl))
     replace H81 := As (H81.1.o3 ho B13)
     replace H82 := As (H82.1.o3 ho B13)
     replace H427 := As (H427.1.o3 ho B13)
     replace H439 := As (H439.1.o3 ho B13)
     replace H440 := As (H440.1.o3 ho B13)
     replace B3 := Oo B3 ho NE3_13
     replace B6 := Oo B6 ho NE6_13
     replace B7 := Oo B7 ho NE7_13
     replace HB := Lo HB ho G13
     replace B13 := As hB2
     clear hw ho hB2
     refine hK.out _ _ ?_
     clear hK K
     refine pure_ (i := 9) (N := some 14) (v := ?_) (a' := ?_) (Bt 10 1023) rfl rfl (by kernel_rfl) (fun _ _ _ h => h) (Or.inl ⟨by rfl, ?_⟩) ?_ ?_
     rotate_left
     ·
      intro w'
      go_simp
      with_reducible rfl
     rotate_left
     ·
      simp only [Nrm, Option.some.injEq, List.setIfInBounds_toArray, List.set_cons_zero, List.set_cons_succ, i64_w, i32_w]
      rfl
     refine done_ (by kernel_rfl) ?_
     rename World => w521
    rotate_left
   rotate_left 2
   focus
    refine box_step (by rfl) (N := 13) (by rfl) (cs := #[.bool false, .slice none 0 0, .slice none 0 0]) (t := 34) ?hr ?_
    (case hr => first | (go_simp; done) | (go_simp; rfl))
    intro g13 hgx w486 hbx hb
    have B13 := As hbx
    have NE3_13 := Nn B3 hgx
    have NE6_13 := Nn B6 hgx
    have NE7_13 := Nn B7 hgx
    have G13 := Gg HB hgx
    replace H81 := As (H81.1.be hb)
    replace H82 := As (H82.1.be hb)
    replace B3 := Bb B3 hb
    replace B6 := Bb B6 hb
    replace B7 := Bb B7 hb
    replace HB := Ob HB hb
    clear hbx hb hgx
    refine hK.out _ _ ⟨Cl0 B7, Cl1 B7⟩ (fun hHeld => ?_)
    clear hK K
    refine norm_ (a' := ?_) ?_ ?_
    rotate_left
    ·
     show Act.put _ (some 13) _ = _
     simp only [Nrm, Option.some.injEq, List.setIfInBounds_toArray, List.set_cons_zero, List.set_cons_succ, i64_w, i32_w]
     rfl
    refine one_ (i := 2) (N := some 49) (Bt 10 135) rfl rfl (by kernel_rfl) (by decide) (fun K hK => ?_)
    refine goes_ Tryz.func69 (by kernel_rfl) rfl #[.bool false, .slice B l d] (by rfl) rfl rfl (by (try simp only [List.map_toArray, List.map_cons, List.map_nil]); first | done | rfl) ?_
    with_reducible refine (integer_Make.run _ _ (wn wss).sum (L + wss.length) _ H82.1.na (by have := HL.out; have := HT.out; omega)).mono ?_
    rintro e w426 ⟨s426, A426, k426, c426, rfl, hr426, hz426, hu426, hb⟩
    refine ⟨_, rfl, ?_⟩
    have H427 := Aside0.mk hr426
    have Z426 := Aside0.mk (And.intro hz426 hu426)
    clear hr426 hz426 hu426
    replace H81 := As (H81.1.be hb)
    replace H82 := As (H82.1.be hb)
    replace B3 := Bb B3 hb
    replace B6 := Bb B6 hb
    replace B7 := Bb B7 hb
    replace B13 := Bb B13 hb
    replace HB := Ob HB hb
    clear hb
    refine hK.out _ _ ⟨Cl0 B7, Cl1 B7⟩ (fun hHeld => ?_)
    clear hK K
    refine norm_ (a' := ?_) ?_ ?_
    rotate_left
    ·
     show Act.put _ (some 49) _ = _
     simp only [Nrm, Option.some.injEq, List.setIfInBounds_toArray, List.set_cons_zero, List.set_cons_succ, i64_w, i32_w]
     rfl
    refine one_ (i := 3) (N := some 50) (Bt 10 143) rfl rfl (by kernel_rfl) (by decide) (fun K hK => ?_)
    refine goes_ Tryz.func46 (by kernel_rfl) rfl #[.agg #[.bool s, .slice A k c], .agg #[.bool s426, .slice A426 k426 c426]] (by rfl) rfl rfl (by (try simp only [List.map_toArray, List.map_cons, List.map_nil]); first | done | rfl) ?_
    with_reducible refine (ratio_Make.run s s426 _ _ _ _ _ _ n (wn wss).sum (tot wss wss.length + 5 * wss.length) (L + wss.length) _ H81.1.na H427.1.na (HS.out) (by have := HL.out; have := HT.out; omega)).mono ?_
    rintro e w438 ⟨s438, A438, k438, c438, D438, l438, d438, n438, m438, rfl, hq438, hr438, hm438, hz438, hb⟩
    refine ⟨_, rfl, ?_⟩
    have H439 := Aside0.mk hq438
    have H440 := Aside0.mk hr438
    have F438 := Aside0.mk (And.intro hm438 hz438)
    clear hq438 hr438 hm438 hz438
    replace H81 := As (H81.1.be hb)
    replace H82 := As (H82.1.be hb)
    replace H427 := As (H427.1.be hb)
    replace B3 := Bb B3 hb
    replace B6 := Bb B6 hb
    replace B7 := Bb B7 hb
    replace B13 := Bb B13 hb
    replace HB := Ob HB hb
    clear hb
    refine hK.out _ _ ⟨Cl0 B7, Cl1 B7⟩ (fun hHeld => ?_)
    clear hK K
    refine norm_ (a' := ?_) ?_ ?_
    rotate_left
    ·
     show Act.put _ (some 50) _ = _
     simp only [Nrm, Option.some.injEq, List.setIfInBounds_toArray, List.set_cons_zero, List.set_cons_succ, i64_w, i32_w]
     rfl
    refine pure_ (i := 4) (N := some 46) (v := ?_) (a' := ?_) (Bt 10 159) rfl rfl (by kernel_rfl) (fun _ _ _ h => h) (Or.inl ⟨by rfl, ?_⟩) ?_ ?_
    rotate_left
    ·
     intro w'
     go_simp
     with_reducible rfl
    rotate_left
    ·
     simp only [Nrm, Option.some.injEq, List.setIfInBounds_toArray, List.set_cons_zero, List.set_cons_succ, i64_w, i32_w]
     rfl
    refine pure_ (i := 5) (N := some 51) (v := ?_) (a' := ?_) (Bt 10 191) rfl rfl (by kernel_rfl) (fun _ _ _ h => h) (Or.inl ⟨by rfl, ?_⟩) ?_ ?_
    rotate_left
    ·
     intro w'
     go_simp
     with_reducible rfl
    rotate_left
    ·
     simp only [Nrm, Option.some.injEq, List.setIfInBounds_toArray, List.set_cons_zero, List.set_cons_succ, i64_w, i32_w]
     rfl
    refine pure_ (i := 6) (N := some 52) (v := ?_) (a' := ?_) (Bt 10 255) rfl rfl (by kernel_rfl) (fun _ _ _ h => h) (Or.inl ⟨by rfl, ?_⟩) ?_ ?_
    rotate_left
    ·
     intro w'
     go_simp
     with_reducible rfl
    rotate_left
    ·
     simp only [Nrm, Option.some.injEq, List.setIfInBounds_toArray, List.set_cons_zero, List.set_cons_succ, i64_w, i32_w]
     rfl
    refine last_ (i := 8) (N := none) (Bt 10 511) rfl rfl (by kernel_rfl) (by decide) (fun K hK => ?_)
    (try clear cb13_0)
    have cb13_0 := Cl0 B13
    (try clear fb13_0)
    have fb13_0 := Fz B13 0
    (try clear cb13_1)
    have cb13_1 := Cl1 B13
    (try clear fb13_1)
    have fb13_1 := Fz B13 1
    (try clear cb13_2)
    have cb13_2 := Cl2 B13
    (try clear fb13_2)
    have fb13_2 := Fz B13 2
    refine skip_ (w1 := ?_) (by rfl) rfl ?_ ?_
    rotate_left
    ·
     go_simp
     rfl
    generalize hw : (((w438.setCell ⟨g13, 0, none⟩ (.bool s438)).setCell ⟨g13, 1, none⟩ (.slice A438 k438 c438)).setCell ⟨g13, 2, none⟩ (.slice D438 l438 d438)) = w498
    replace hw := Eq.symm hw
    have ho : Only w438 w498 g13 := (by rw [hw]; exact Only.setg (Only.setg (Only.setg (Only.refl _ _) 0 _) 1 _) 2 _)
    have hB2 : w498.heap[g13]? = some (.cells #[.bool s438, .slice A438 k438 c438, .slice D438 l438 d438] 34 (0, 0)) := (by rw [hw]; exact (blk_put (blk_put (blk_put B13.out 0 _ rfl) 1 _ rfl) 2 _ rfl))
    replace H81 := As (H81.1.o3 ho B13)
    replace H82 := As (H82.1.o3 ho B13)
    replace H427 := As (H427.1.o3 ho B13)
    replace H439 := As (H439.1.o3 ho B13)
    replace H440 := As (H440.1.o3 ho B13)
    replace B3 := Oo B3 ho NE3_13
    replace B6 := Oo B6 ho NE6_13
    replace B7 := Oo B7 ho NE7_13
    replace HB := Lo HB ho G13
    replace B13 := As hB2
    clear hw ho hB2
    refine hK.out _ _ ?_
    clear hK K
    refine pure_ (i := 9) (N := some 14) (v := ?_) (a' := ?_) (Bt 10 1023) rfl rfl (by kernel_rfl) (fun _ _ _ h => h) (Or.inl ⟨by rfl, ?_⟩) ?_ ?_
    rotate_left
    ·
     intro w'
     go_simp
     with_reducible rfl
    rotate_left
    ·
     simp only [Nrm, Option.some.injEq, List.setIfInBounds_toArray, List.set_cons_zero, List.set_cons_succ, i64_w, i32_w]
     rfl
    refine done_ (by kernel_rfl) ?_
    rename World => w521
   rotate_left
   all_goals
    (try clear cb13_0)
    have cb13_0 := Cl0 B13
    (try clear cb13_1)
    have cb13_1 := Cl1 B13
    (try clear cb13_2)
    have cb13_2 := Cl2 B13
    go_wp2_with (first | ((with_reducible refine gate_store (t := 34) (p := 6) rfl ?_); refine Sto (t := 34) (p := 6) (by rfl) (.tmp 53) (by rfl) (by rfl) g6 #[.bool s438, .slice A438 k438 c438, .slice D438 l438 d438] (by rfl) (by first | rfl | (go_simp; done) | (go_simp; rfl)) B6 (by kernel_rfl) rfl (by kernel_rfl) ?_; intro w523 ho hB2; replace H81 := As (H81.1.o3 ho B6); replace H82 := As (H82.1.o3 ho B6); replace H427 := As (H427.1.o3 ho B6); replace H439 := As (H439.1.o3 ho B6); replace H440 := As (H440.1.o3 ho B6); replace B3 := Oo B3 ho NE3_6; replace B7 := Ou B7 ho NE6_7; replace B13 := Ou B13 ho NE6_13; replace HB := Lo HB ho G6; replace B6 := hB2; clear ho hB2))
    try simp only [Exit.inBlock, Exit.then]
    refine bodyPost_ret (results_cell_row rfl _ _ g6 34 #[.bool s438, .slice A438 k438 c438, .slice D438 l438 d438] (0, 0) _ rfl B6.out Tryz.underlying34 rfl (by kernel_rfl)) rfl ?_
    have hL := HL.out
    have hT := HT.out
    refine ⟨_, _, _, _, _, _, _, _, _, rfl, (H439.1).mono (by omega), (H440.1).mono (by omega), F438.out.1, ?_, HB.out⟩
    have hz := F438.out.2
    rw [HZ.out, Z426.out.1, zi_false] at hz
    exact hz
theorem grid_moment2.run (ps qs : List Int) (P Q : Option Addr) (cp cq : Nat) (A : Option Addr) (cap : Nat) (wss : List (List Int)) (L : Nat) (w : World) (hp : Kd.C (Kd.int .i64) w P ps.length ps) (hr : ∀ x ∈ ps, -1000 ≤ x ∧ x ≤ 1000) (hw : WR w A wss L) (hl : wss.length = ps.length) (hl2 : ps.length ≤ 21) (hs : 0 < (wn wss).sum) (hL : L ≤ 1100000) :
  Calls Tryz.prog 80 #[.agg #[.slice P ps.length cp, .slice Q qs.length cq], .slice A wss.length cap, .int .i64 2] w fun e w' => ∃ u A k c B l d n m, e = .returned (.agg #[.bool u, .slice A k c, .slice B l d]) ∧ NC w' (.slice A k c) n (L + 130) ∧ NC w' (.slice B l d) m (L + 30) ∧ 0 < m ∧ zi u n * ((wn wss).sum : Nat) = mom2 ps (wn wss) wss.length * m ∧ Below w.heap.size w w' := by
 have hpos : 0 < ps.length := by
  rcases Nat.eq_zero_or_pos ps.length with hh | hh
  ·
   exfalso
   have : wss = [] := List.length_eq_zero_iff.1 (by omega)
   rw [this] at hs
   simp [wn] at hs
  ·
   exact hh
 obtain ⟨pd, epd, _⟩ := Kd.at_int hp 0 (Int.le_refl 0) (by omega)
 subst epd
 clear hpos
 have HP := Aside0.mk hp
 have HR := Aside0.mk hr
 have HW := Aside0.mk hw
 have HL := Aside0.mk (show wss.length = ps.length ∧ ps.length ≤ 21 ∧ L ≤ 1100000 from ⟨hl, hl2, hL⟩)
 have HS := Aside0.mk hs
 have HB := Aside0.mk (Below.refl w.heap.size w)
 clear hp hr hw hl hl2 hs hL
 go_enter Tryz.func80, Tryz.ntmps80
 go_wp2_with (first | ((with_reducible refine gate_store (t := 32) (p := 7) rfl ?_); refine Sto (t := 32) (p := 7) (by rfl) (.tmp 15) (by rfl) (by rfl) g7 #[.bool false, .slice none 0 0] (by rfl) (by first | rfl | (go_simp; done) | (go_simp; rfl)) B7 (by kernel_rfl) rfl (by kernel_rfl) ?_; intro w6 ho hB2; replace H4 := As (H4.1.o2 ho B7); replace B3 := Oo B3 ho NE3_7; replace B6 := Oo B6 ho NE6_7; replace HB := Lo HB ho G7; replace B7 := hB2; clear ho hB2) | ((with_reducible refine gate_dst (N := 7) rfl ?_); refine box_event (by rfl) (N := 7) (by rfl) (cs := #[.bool false, .slice none 0 0]) (t := 32) ?hr ?_; (case hr => first | (go_simp; done) | (go_simp; rfl)); intro g7 hgx w5 hbx hb; have B7 := As hbx; have NE3_7 := Nn B3 hgx; have NE6_7 := Nn B6 hgx; have G7 := Gg HB hgx; replace H4 := As (H4.1.be hb); replace B3 := Bb B3 hb; replace B6 := Bb B6 hb; replace HB := Ob HB hb; clear hbx hb hgx) | ((with_reducible refine gate_dst (N := 16) rfl ?_); refine ev_lit ?hg [] 0 rfl ?hr ?_; (case hg => rfl); (case hr => first | (go_simp; done) | (go_simp; rfl)); intro ad3 w3 hbk hb hge; have H4 := Aside0.mk (NA.ofBlk0 hbk); replace B3 := Bb B3 hb; replace B6 := Bb B6 hb; replace HB := Ob HB hb; clear hbk hb hge) | ((with_reducible refine gate_dst (N := 6) rfl ?_); refine box_event (by rfl) (N := 6) (by rfl) (cs := #[.bool false, .slice none 0 0, .slice none 0 0]) (t := 34) ?hr ?_; (case hr => first | (go_simp; done) | (go_simp; rfl)); intro g6 hgx w2 hbx hb; have B6 := As hbx; have NE3_6 := Nn B3 hgx; have G6 := Gg HB hgx; replace B3 := Bb B3 hb; replace HB := Ob HB hb; clear hbx hb hgx) | ((with_reducible refine gate_dst (N := 3) rfl ?_); refine box_event (by rfl) (N := 3) (by rfl) (cs := #[.slice (some pd) ps.length cp, .slice Q qs.length cq]) (t := 27) ?hr ?_; (case hr => first | (go_simp; done) | (go_simp; rfl)); intro g3 hgx w1 hbx hb; have B3 := As hbx; have G3 := Gg HB hgx; replace HB := Ob HB hb; clear hbx hb hgx))
 go_loopg [8, 19] wss.length (fun kq v8 v19 w' => ∃ (i : Int) (s : Bool) (A : Option Addr) (k c n : Nat) (B : Option Addr) (l d : Nat), v8 = .slice B l d ∧ v19 = .int .i64 i ∧ Aside0 (i + kq = (wss.length : Int) ∧ kq ≤ wss.length) ∧ Aside0 (w'.heap[g3]? = some (.cells #[.slice (some pd) ps.length cp, .slice Q qs.length cq] 27 (0, 0))) ∧ Aside0 (w'.heap[g6]? = some (.cells #[.bool false, .slice none 0 0, .slice none 0 0] 34 (0, 0))) ∧ Aside0 (w'.heap[g7]? = some (.cells #[.bool s, .slice A k c] 32 (0, 0))) ∧ Aside0 (NA w' (.slice A k c) n (tot wss i.toNat + 5 * i.toNat)) ∧ Aside0 (zi s n = mom2 ps (wn wss) i.toNat) ∧ Aside0 (NA w' (.slice B l d) ((wn wss).take i.toNat).sum (L + i.toNat)) ∧ Aside0 (Below w.heap.size w w'))
 case atStart => exact ⟨0, false, none, 0, 0, 0, _, _, _, rfl, rfl, ⟨by omega, Nat.le_refl _⟩, B3, B6, B7, ⟨(NC.nil _ _).na⟩, ⟨rfl⟩, ⟨by simpa using H4.out.mono (Nat.zero_le _)⟩, HB⟩
 case round =>
  obtain ⟨i, s, A, k, c, n, B, l, d, rfl, rfl, HIq, C3, C6, C7, H81, HZ, H82, HBl⟩ := hrel
  (try clear cb3_0)
  (try clear cb3_1)
  (try clear cb6_0)
  (try clear cb6_1)
  (try clear cb6_2)
  (try clear cb7_0)
  (try clear cb7_1)
  (try clear fb3_0)
  (try clear fb3_1)
  (try clear fb6_0)
  (try clear fb6_1)
  (try clear fb6_2)
  (try clear fb7_0)
  (try clear fb7_1)
  clear B3 B6 B7 HB
  have B3 := C3
  have B6 := C6
  have B7 := C7
  have HB := HBl
  clear C3 C6 C7 HBl
  by_cases ci : i < (wss.length : Int)
  ·
   have d1 : decide (i < (wss.length : Int)) = true := decide_eq_true ci
   have p1 : 0 ≤ i := by have := HIq.out; omega
   obtain ⟨gq, hk⟩ : ∃ g1, gk = g1 + 1 := ⟨gk - 1, by have := HIq.out; omega⟩
   subst hk
   obtain ⟨ad, B2, k2, c2, ea, hx, hn, hlen⟩ := (HW.out.below HB.out).at' i p1 ci
   subst ea
   rw [← wn_get] at hn
   have H83 := Aside0.mk hn
   obtain ⟨pd1, eb, hy⟩ := Kd.at_int HP.out i p1 (by have := HL.out; omega)
   cases eb
   replace hy := (HB.out.cell (World.block_lt_of_cell? w _ hy)).trans hy
   obtain ⟨x, hxe⟩ : ∃ x, rd ps i = x := ⟨_, rfl⟩
   rw [hxe] at hy
   have HI := Aside0.mk (show -1000 ≤ x ∧ x ≤ 1000 by rw [← hxe]; exact HR.out _ (getD_mem (by have := HL.out; omega)))
   obtain ⟨i1, hi1⟩ : ∃ i1, IntKind.i64.wrap (i + 1) = i1 := ⟨_, rfl⟩
   have E := Aside0.mk (show 0 ≤ i ∧ i < (wss.length : Int) ∧ ps.getD i.toNat 0 = x from ⟨p1, ci, hxe⟩)
   have LT := Aside0.mk (show tot wss (i.toNat + 1) = tot wss i.toNat + (wss.getD i.toNat []).length ∧ tot wss i.toNat ≤ L ∧ (wss.getD i.toNat []).length ≤ L ∧ tot wss (i.toNat + 1) ≤ L from ⟨tot_succ _ _ (by omega), Nat.le_trans (tot_le _ _) HW.out.2.2, hlen, Nat.le_trans (tot_le _ _) HW.out.2.2⟩)
   have p2 := eq_true p1
   have q1 := eq_true ci
   have q2 : (i < (ps.length : Int)) = True := eq_true (by have := HL.out; omega)
   clear hn p1 ci hxe hlen
   (try clear cb3_0)
   have cb3_0 := Cl0 B3
   go_wp2_with (first | ((with_reducible refine gate_store (t := 32) (p := 11) rfl ?_); refine Sto (t := 32) (p := 11) (by rfl) (.tmp 29) (by rfl) (by rfl) g11 #[.bool s201, .slice A201 k201 c201] (by rfl) (by first | rfl | (go_simp; done) | (go_simp; rfl)) B11 (by kernel_rfl) rfl (by kernel_rfl) ?_; intro w204 ho hB2; replace H81 := As (H81.1.o2 ho B11); replace H82 := As (H82.1.o2 ho B11); replace H83 := As (H83.1.o2 ho B11); replace H202 := As (H202.1.o2 ho B11); replace B3 := Oo B3 ho NE3_11; replace B6 := Oo B6 ho NE6_11; replace B7 := Oo B7 ho NE7_11; replace HB := Lo HB ho G11; replace B11 := hB2; clear ho hB2) | ((with_reducible refine gate_dst (N := 11) rfl ?_); refine box_event (by rfl) (N := 11) (by rfl) (cs := #[.bool false, .slice none 0 0]) (t := 32) ?hr ?_; (case hr => first | (go_simp; done) | (go_simp; rfl)); intro g11 hgx w203 hbx hb; have B11 := As hbx; have NE3_11 := Nn B3 hgx; have NE6_11 := Nn B6 hgx; have NE7_11 := Nn B7 hgx; have G11 := Gg HB hgx; replace H81 := As (H81.1.be hb); replace H82 := As (H82.1.be hb); replace H83 := As (H83.1.be hb); replace H202 := As (H202.1.be hb); replace B3 := Bb B3 hb; replace B6 := Bb B6 hb; replace B7 := Bb B7 hb; replace HB := Ob HB hb; clear hbx hb hgx) | (go_at_call 47; (with_reducible refine (integer_Of.run x _ (by have := HI.out; omega) (by have := HI.out; omega)).mono ?_); rintro e w201 ⟨s201, A201, k201, c201, rfl, hr201, hz201, hu201, hb⟩; have H202 := Aside0.mk hr201; have Z201 := Aside0.mk (And.intro hz201 hu201); clear hr201 hz201 hu201; replace H81 := As (H81.1.be hb); replace H82 := As (H82.1.be hb); replace H83 := As (H83.1.be hb); replace B3 := Bb B3 hb; replace B6 := Bb B6 hb; replace B7 := Bb B7 hb; replace HB := Ob HB hb; clear hb))
   replace H81 := As (H81.1.drew)
   replace H82 := As (H82.1.drew)
   replace H83 := As (H83.1.drew)
   replace H202 := As (H202.1.drew)
   replace B3 := Bd B3
   replace B6 := Bd B6
   replace B7 := Bd B7
   replace B11 := Bd B11
   replace HB := Od HB
   refine start_ (n := 6) (S := fun w' => w'.cell? ⟨g11, 0, none⟩ = some (.bool s201) ∧ w'.cell? ⟨g11, 1, none⟩ = some (.slice A201 k201 c201)) (ds := [5]) (Bt 6 0) (by kernel_rfl) rfl (by kernel_rfl) ⟨Cl0 B11, Cl1 B11⟩ (fun hHeld => ?_)
   generalize w204.drew = w205 at hHeld H81 H82 H83 H202 B3 B6 B7 B11 HB ⊢
   refine pure_ (i := 0) (N := some 30) (v := ?_) (a' := ?_) (Bt 6 1) rfl rfl (by kernel_rfl) (fun _ _ _ h => h) (Or.inl ⟨by rfl, ?_⟩) ?_ ?_
   rotate_left
   ·
    intro w'
    go_simp
    with_reducible rfl
   rotate_left
   ·
    simp only [Nrm, Option.some.injEq, List.setIfInBounds_toArray, List.set_cons_zero, List.set_cons_succ, i64_w, i32_w]
    rfl
   refine take_ (i := 2) (N := some 32) (v := ?_) (a' := ?_) (Bt 6 5) rfl rfl (by kernel_rfl) (fun _ _ _ h => h) (Or.inl ⟨by rfl, ?_⟩) hHeld ?_ ?_
   rotate_left
   ·
    rintro w' ⟨s0, s1⟩
    go_simp
    with_reducible rfl
   rotate_left
   ·
    simp only [Nrm, Option.some.injEq, List.setIfInBounds_toArray, List.set_cons_zero, List.set_cons_succ, i64_w, i32_w]
    rfl
   refine two_ (i := 1) (j := 4) (Ni := some 31) (Nj := some 12) (Bt 6 7) (Bt 6 21) rfl rfl rfl rfl (by kernel_rfl) (by decide) (by decide) (fun K hK => ?_) (fun K hK => ?_)
   focus
    refine goes_ Tryz.func69 (by kernel_rfl) rfl #[.bool false, .slice B2 k2 c2] (by rfl) rfl rfl (by (try simp only [List.map_toArray, List.map_cons, List.map_nil]); first | done | rfl) ?_
    with_reducible refine (integer_Make.run _ _ ((wn wss).getD i.toNat 0) (wss.getD i.toNat []).length _ H83.1.na (by have := HL.out; have := LT.out; have := E.out; omega)).mono ?_
    rintro e w218 ⟨s218, A218, k218, c218, rfl, hr218, hz218, hu218, hb⟩
    refine ⟨_, rfl, ?_⟩
    have H219 := Aside0.mk hr218
    have Z218 := Aside0.mk (And.intro hz218 hu218)
    clear hr218 hz218 hu218
    replace H81 := As (H81.1.be hb)
    replace H82 := As (H82.1.be hb)
    replace H83 := As (H83.1.be hb)
    replace H202 := As (H202.1.be hb)
    replace B3 := Bb B3 hb
    replace B6 := Bb B6 hb
    replace B7 := Bb B7 hb
    replace B11 := Bb B11 hb
    replace HB := Ob HB hb
    clear hb
    refine hK.out _ _ ⟨Cl0 B11, Cl1 B11⟩ (fun hHeld => ?_)
    clear hK K
    refine norm_ (a' := ?_) ?_ ?_
    rotate_left
    ·
     show Act.put _ (some 31) _ = _
     simp only [Nrm, Option.some.injEq, List.setIfInBounds_toArray, List.set_cons_zero, List.set_cons_succ, i64_w, i32_w]
     rfl
    refine two_ (i := 3) (j := 4) (Ni := some 33) (Nj := some 12) (Bt 6 15) (Bt 6 23) rfl rfl rfl rfl (by kernel_rfl) (by decide) (by decide) (fun K hK => ?_) (fun K hK => ?_)
    focus
     refine goes_ Tryz.func41 (by kernel_rfl) rfl #[.agg #[.bool s218, .slice A218 k218 c218], .agg #[.bool s201, .slice A201 k201 c201]] (by rfl) rfl rfl (by (try simp only [List.map_toArray, List.map_cons, List.map_nil]); first | done | rfl) ?_
     with_reducible refine (integer_Mul.run s218 s201 _ _ _ _ _ _ ((wn wss).getD i.toNat 0) (x : Int).natAbs (wss.getD i.toNat []).length 2 _ H219.1.na H202.1.na (by have := HL.out; have := LT.out; have := E.out; omega)).mono ?_
     rintro e w242 ⟨s242, A242, k242, c242, rfl, hr242, hz242, hu242, hb⟩
     refine ⟨_, rfl, ?_⟩
     have H243 := Aside0.mk hr242
     have Z242 := Aside0.mk (And.intro hz242 hu242)
     clear hr242 hz242 hu242
     replace H81 := As (H81.1.be hb)
     replace H82 := As (H82.1.be hb)
     replace H83 := As (H83.1.be hb)
     replace H202 := As (H202.1.be hb)
     replace H219 := As (H219.1.be hb)
     replace B3 := Bb B3 hb
     replace B6 := Bb B6 hb
     replace B7 := Bb B7 hb
     replace B11 := Bb B11 hb
     replace HB := Ob HB hb
     clear hb
     refine hK.out _ _ ⟨Cl0 B11, Cl1 B11⟩ (fun hHeld => ?_)
     clear hK K
     refine norm_ (a' := ?_) ?_ ?_
     rotate_left
     ·
      show Act.put _ (some 33) _ = _
      simp only [Nrm, Option.some.injEq, List.setIfInBounds_toArray, List.set_cons_zero, List.set_cons_succ, i64_w, i32_w]
      rfl
     refine one_ (i := 4) (N := some 12) (Bt 6 31) rfl rfl (by kernel_rfl) (by decide) (fun K hK => ?_)
     refine box_step (by rfl) (N := 12) (by rfl) (cs := #[.bool false, .slice none 0 0]) (t := 32) ?hr ?_
     (case hr => first | (go_simp; done) | (go_simp; rfl))
     intro g12 hgx w254 hbx hb
     have B12 := As hbx
     have NE3_12 := Nn B3 hgx
     have NE6_12 := Nn B6 hgx
     have NE7_12 := Nn B7 hgx
     have NE11_12 := Nn B11 hgx
     have G12 := Gg HB hgx
     replace H81 := As (H81.1.be hb)
     replace H82 := As (H82.1.be hb)
     replace H83 := As (H83.1.be hb)
     replace H202 := As (H202.1.be hb)
     replace H219 := As (H219.1.be hb)
     replace H243 := As (H243.1.be hb)
     replace B3 := Bb B3 hb
     replace B6 := Bb B6 hb
     replace B7 := Bb B7 hb
     replace B11 := Bb B11 hb
     replace HB := Ob HB hb
     clear hbx hb hgx
     refine hK.out _ _ ⟨Cl0 B11, Cl1 B11⟩ (fun hHeld => ?_)
     clear hK K
     refine norm_ (a' := ?_) ?_ ?_
     rotate_left
     ·
      show Act.put _ (some 12) _ = _
      simp only [Nrm, Option.some.injEq, List.setIfInBounds_toArray, List.set_cons_zero, List.set_cons_succ, i64_w, i32_w]
      rfl
     refine last_ (i := 5) (N := none) (Bt 6 63) rfl rfl (by kernel_rfl) (by decide) (fun K hK => ?_)
     (try clear cb12_0)
     have cb12_0 := Cl0 B12
     (try clear fb12_0)
     have fb12_0 := Fz B12 0
     (try clear cb12_1)
     have cb12_1 := Cl1 B12
     (try clear fb12_1)
     have fb12_1 := Fz B12 1
     refine skip_ (w1 := ?_) (by rfl) rfl ?_ ?_
     rotate_left
     ·
      go_simp
      rfl
     generalize hw : ((w254.setCell ⟨g12, 0, none⟩ (.bool s242)).setCell ⟨g12, 1, none⟩ (.slice A242 k242 c242)) = w266
     replace hw := Eq.symm hw
     have ho : Only w254 w266 g12 := (by rw [hw]; exact Only.setg (Only.setg (Only.refl _ _) 0 _) 1 _)
     have hB2 : w266.heap[g12]? = some (.cells #[.bool s242, .slice A242 k242 c242] 32 (0, 0)) := (by rw [hw]; exact (blk_put (blk_put B12.out 0 _ rfl) 1 _ rfl))
     replace H81 := As (H81.1.o2 ho B12)
     replace H82 := As (H82.1.o2 ho B12)
     replace H83 := As (H83.1.o2 ho B12)
     replace H202 := As (H202.1.o2 ho B12)
     replace H219 := As (H219.1.o2 ho B12)
     replace H243 := As (H243.1.o2 ho B12)
     replace B3 := Oo B3 ho NE3_12
     replace B6 := Oo B6 ho NE6_12
     replace B7 := Oo B7 ho NE7_12
     replace B11 := Oo B11 ho NE11_12
     replace HB := Lo HB ho G12
     replace B12 := As hB2
     clear hw ho hB2
     refine hK.out _ _ ?_
     clear hK K
     refine done_ (by kernel_rfl) ?_
     rename World => w277
    rotate_left
    focus
     refine box_step (by rfl) (N := 12) (by rfl) (cs := #[.bool false, .slice none 0 0]) (t := 32) ?hr ?_
     (case hr => first | (go_simp; done) | (go_simp; rfl))
     intro g12 hgx w254 hbx hb
     have B12 := As hbx
     have NE3_12 := Nn B3 hgx
     have NE6_12 := Nn B6 hgx
     have NE7_12 := Nn B7 hgx
     have NE11_12 := Nn B11 hgx
     have G12 := Gg HB hgx
     replace H81 := As (H81.1.be hb)
     replace H82 := As (H82.1.be hb)
     replace H83 := As (H83.1.be hb)
     replace H202 := As (H202.1.be hb)
     replace H219 := As (H219.1.be hb)
     replace B3 := Bb B3 hb
     replace B6 := Bb B6 hb
     replace B7 := Bb B7 hb
     replace B11 := Bb B11 hb
     replace HB := Ob HB hb
     clear hbx hb hgx
     refine hK.out _ _ ⟨Cl0 B11, Cl1 B11⟩ (fun hHeld => ?_)
     clear hK K
     refine norm_ (a' := ?_) ?_ ?_
     rotate_left
     ·
      show Act.put _ (some 12) _ = _
      simp only [Nrm, Option.some.injEq, List.setIfInBounds_toArray, List.set_cons_zero, List.set_cons_succ, i64_w, i32_w]
      rfl
     refine one_ (i := 3) (N := some 33) (Bt 6 31) rfl rfl (by kernel_rfl) (by decide) (fun K hK => ?_)
     refine goes_ Tryz.func41 (by kernel_rfl) rfl #[.agg #[.bool s218, .slice A218 k218 c218], .agg #[.bool s201, .slice A201 k201 c201]] (by rfl) rfl rfl (by (try simp only [List.map_toArray, List.map_cons, List.map_nil]); first | done | rfl) ?_
     with_reducible refine (integer_Mul.run s218 s201 _ _ _ _ _ _ ((wn wss).getD i.toNat 0) (x : Int).natAbs (wss.getD i.toNat []).length 2 _ H219.1.na H202.1.na (by have := HL.out; have := LT.out; have := E.out; omega)).mono ?_
     rintro e w242 ⟨s242, A242, k242, c242, rfl, hr242, hz242, hu242, hb⟩
     refine ⟨_, rfl, ?_⟩
     have H243 := Aside0.mk hr242
     have Z242 := Aside0.mk (And.intro hz242 hu242)
     clear hr242 hz242 hu242
     replace H81 := As (H81.1.be hb)
     replace H82 := As (H82.1.be hb)
     replace H83 := As (H83.1.be hb)
     replace H202 := As (H202.1.be hb)
     replace H219 := As (H219.1.be hb)
     replace B3 := Bb B3 hb
     replace B6 := Bb B6 hb
     replace B7 := Bb B7 hb
     replace B11 := Bb B11 hb
     replace B12 := Bb B12 hb
     replace HB := Ob HB hb
     clear hb
     refine hK.out _ _ ⟨Cl0 B11, Cl1 B11⟩ (fun hHeld => ?_)
     clear hK K
     refine norm_ (a' := ?_) ?_ ?_
     rotate_left
     ·
      show Act.put _ (some 33) _ = _
      simp only [Nrm, Option.some.injEq, List.setIfInBounds_toArray, List.set_cons_zero, List.set_cons_succ, i64_w, i32_w]
      rfl
     refine last_ (i := 5) (N := none) (Bt 6 63) rfl rfl (by kernel_rfl) (by decide) (fun K hK => ?_)
     (try clear cb12_0)
     have cb12_0 := Cl0 B12
     (try clear fb12_0)
     have fb12_0 := Fz B12 0
     (try clear cb12_1)
     have cb12_1 := Cl1 B12
     (try clear fb12_1)
     have fb12_1 := Fz B12 1
     refine skip_ (w1 := ?_) (by rfl) rfl ?_ ?_
     rotate_left
     ·
      go_simp
      rfl
     generalize hw : ((w242.setCell ⟨g12, 0, none⟩ (.bool s242)).setCell ⟨g12, 1, none⟩ (.slice A242 k242 c242)) = w266
     replace hw := Eq.symm hw
     have ho : Only w242 w266 g12 := (by rw [hw]; exact Only.setg (Only.setg (Only.refl _ _) 0 _) 1 _)
     have hB2 : w266.heap[g12]? = some (.cells #[.bool s242, .slice A242 k242 c242] 32 (0, 0)) := (by rw [hw]; exact (blk_put (blk_put B12.out 0 _ rfl) 1 _ rfl))
     replace H81 := As (H81.1.o2 ho B12)
     replace H82 := As (H82.1.o2 ho B12)
     replace H83 := As (H83.1.o2 ho B12)
     replace H202 := As (H202.1.o2 ho B12)
     replace H219 := As (H219.1.o2 ho B12)
     replace H243 := As (H243.1.o2 ho B12)
     replace B3 := Oo B3 ho NE3_12
     replace B6 := Oo B6 ho NE6_12
     replace B7 := Oo B7 ho NE7_12
     replace B11 := Oo B11 ho NE11_12
     replace HB := Lo HB ho G12
     replace B12 := As hB2
     clear hw ho hB2
     refine hK.out _ _ ?_
     clear hK K
     refine done_ (by kernel_rfl) ?_
     rename World => w277
    rotate_left
   rotate_left 2
   focus
    refine box_step (by rfl) (N := 12) (by rfl) (cs := #[.bool false, .slice none 0 0]) (t := 32) ?hr ?_
    (case hr => first | (go_simp; done) | (go_simp; rfl))
    intro g12 hgx w254 hbx hb
    have B12 := As hbx
    have NE3_12 := Nn B3 hgx
    have NE6_12 := Nn B6 hgx
    have NE7_12 := Nn B7 hgx
    have NE11_12 := Nn B11 hgx
    have G12 := Gg HB hgx
    replace H81 := As (H81.1.be hb)
    replace H82 := As (H82.1.be hb)
    replace H83 := As (H83.1.be hb)
    replace H202 := As (H202.1.be hb)
    replace B3 := Bb B3 hb
    replace B6 := Bb B6 hb
    replace B7 := Bb B7 hb
    replace B11 := Bb B11 hb
    replace HB := Ob HB hb
    clear hbx hb hgx
    refine hK.out _ _ ⟨Cl0 B11, Cl1 B11⟩ (fun hHeld => ?_)
    clear hK K
    refine norm_ (a' := ?_) ?_ ?_
    rotate_left
    ·
     show Act.put _ (some 12) _ = _
     simp only [Nrm, Option.some.injEq, List.setIfInBounds_toArray, List.set_cons_zero, List.set_cons_succ, i64_w, i32_w]
     rfl
    refine one_ (i := 1) (N := some 31) (Bt 6 23) rfl rfl (by kernel_rfl) (by decide) (fun K hK => ?_)
    refine goes_ Tryz.func69 (by kernel_rfl) rfl #[.bool false, .slice B2 k2 c2] (by rfl) rfl rfl (by (try simp only [List.map_toArray, List.map_cons, List.map_nil]); first | done | rfl) ?_
    with_reducible refine (integer_Make.run _ _ ((wn wss).getD i.toNat 0) (wss.getD i.toNat []).length _ H83.1.na (by have := HL.out; have := LT.out; have := E.out; omega)).mono ?_
    rintro e w218 ⟨s218, A218, k218, c218, rfl, hr218, hz218, hu218, hb⟩
    refine ⟨_, rfl, ?_⟩
    have H219 := Aside0.mk hr218
    have Z218 := Aside0.mk (And.intro hz218 hu218)
    clear hr218 hz218 hu218
    replace H81 := As (H81.1.be hb)
    replace H82 := As (H82.1.be hb)
    replace H83 := As (H83.1.be hb)
    replace H202 := As (H202.1.be hb)
    replace B3 := Bb B3 hb
    replace B6 := Bb B6 hb
    replace B7 := Bb B7 hb
    replace B11 := Bb B11 hb
    replace B12 := Bb B12 hb
    replace HB := Ob HB hb
    clear hb
    refine hK.out _ _ ⟨Cl0 B11, Cl1 B11⟩ (fun hHeld => ?_)
    clear hK K
    refine norm_ (a' := ?_) ?_ ?_
    rotate_left
    ·
     show Act.put _ (some 31) _ = _
     simp only [Nrm, Option.some.injEq, List.setIfInBounds_toArray, List.set_cons_zero, List.set_cons_succ, i64_w, i32_w]
     rfl
    refine one_ (i := 3) (N := some 33) (Bt 6 31) rfl rfl (by kernel_rfl) (by decide) (fun K hK => ?_)
    refine goes_ Tryz.func41 (by kernel_rfl) rfl #[.agg #[.bool s218, .slice A218 k218 c218], .agg #[.bool s201, .slice A201 k201 c201]] (by rfl) rfl rfl (by (try simp only [List.map_toArray, List.map_cons, List.map_nil]); first | done | rfl) ?_
    with_reducible refine (integer_Mul.run s218 s201 _ _ _ _ _ _ ((wn wss).getD i.toNat 0) (x : Int).natAbs (wss.getD i.toNat []).length 2 _ H219.1.na H202.1.na (by have := HL.out; have := LT.out; have := E.out; omega)).mono ?_
    rintro e w242 ⟨s242, A242, k242, c242, rfl, hr242, hz242, hu242, hb⟩
    refine ⟨_, rfl, ?_⟩
    have H243 := Aside0.mk hr242
    have Z242 := Aside0.mk (And.intro hz242 hu242)
    clear hr242 hz242 hu242
    replace H81 := As (H81.1.be hb)
    replace H82 := As (H82.1.be hb)
    replace H83 := As (H83.1.be hb)
    replace H202 := As (H202.1.be hb)
    replace H219 := As (H219.1.be hb)
    replace B3 := Bb B3 hb
    replace B6 := Bb B6 hb
    replace B7 := Bb B7 hb
    replace B11 := Bb B11 hb
    replace B12 := Bb B12 hb
    replace HB := Ob HB hb
    clear hb
    refine hK.out _ _ ⟨Cl0 B11, Cl1 B11⟩ (fun hHeld => ?_)
    clear hK K
    refine norm_ (a' := ?_) ?_ ?_
    rotate_left
    ·
     show Act.put _ (some 33) _ = _
     simp only [Nrm, Option.some.injEq, List.setIfInBounds_toArray, List.set_cons_zero, List.set_cons_succ, i64_w, i32_w]
     rfl
    refine last_ (i := 5) (N := none) (Bt 6 63) rfl rfl (by kernel_rfl) (by decide) (fun K hK => ?_)
    (try clear cb12_0)
    have cb12_0 := Cl0 B12
    (try clear fb12_0)
    have fb12_0 := Fz B12 0
    (try clear cb12_1)
    have cb12_1 := Cl1 B12
    (try clear fb12_1)
    have fb12_1 := Fz B12 1
    refine skip_ (w1 := ?_) (by rfl) rfl ?_ ?_
    rotate_left
    ·
     go_simp
     rfl
    generalize hw : ((w242.setCell ⟨g12, 0, none⟩ (.bool s242)).setCell ⟨g12, 1, none⟩ (.slice A242 k242 c242)) = w266
    replace hw := Eq.symm hw
    have ho : Only w242 w266 g12 := (by rw [hw]; exact Only.setg (Only.setg (Only.refl _ _) 0 _) 1 _)
    have hB2 : w266.heap[g12]? = some (.cells #[.bool s242, .slice A242 k242 c242] 32 (0, 0)) := (by rw [hw]; exact (blk_put (blk_put B12.out 0 _ rfl) 1 _ rfl))
    replace H81 := As (H81.1.o2 ho B12)
    replace H82 := As (H82.1.o2 ho B12)
    replace H83 := As (H83.1.o2 ho B12)
    replace H202 := As (H202.1.o2 ho B12)
    replace H219 := As (H219.1.o2 ho B12)
    replace H243 := As (H243.1.o2 ho B12)
    replace B3 := Oo B3 ho NE3_12
    replace B6 := Oo B6 ho NE6_12
    replace B7 := Oo B7 ho NE7_12
    replace B11 := Oo B11 ho NE11_12
    replace HB := Lo HB ho G12
    replace B12 := As hB2
    clear hw ho hB2
    refine hK.out _ _ ?_
    clear hK K
    refine done_ (by kernel_rfl) ?_
    rename World => w277
   rotate_left
   all_goals
    (try clear cb12_0)
    have cb12_0 := Cl0 B12
    (try clear cb12_1)
    have cb12_1 := Cl1 B12
    (try clear cb11_0)
    have cb11_0 := Cl0 B11
    (try clear cb11_1)
    have cb11_1 := Cl1 B11
    go_wp2_with (first | (go_at_call 92; (with_reducible refine (nat_Add.run _ _ ((wn wss).take i.toNat).sum ((wn wss).getD i.toNat 0) (L + i.toNat) _ (H82.1.na.mono (by have := LT.out; omega)) (H83.1.na.mono (by have := LT.out; omega)) (by have := HL.out; have := E.out; omega)).mono ?_); rintro e w285 ⟨r285, rfl, hr285, hb⟩; obtain ⟨A285, k285, c285, rfl⟩ := hr285.sl; have H286 := Aside0.mk hr285; clear hr285; replace H81 := As (H81.1.be hb); replace H82 := As (H82.1.be hb); replace H83 := As (H83.1.be hb); replace H202 := As (H202.1.be hb); replace H219 := As (H219.1.be hb); replace H243 := As (H243.1.be hb); replace H280 := As (H280.1.be hb); replace H283 := As (H283.1.be hb); replace B3 := Bb B3 hb; replace B6 := Bb B6 hb; replace B7 := Bb B7 hb; replace B11 := Bb B11 hb; replace B12 := Bb B12 hb; replace HB := Ob HB hb; clear hb) | ((with_reducible refine gate_store (t := 32) (p := 7) rfl ?_); refine Sto (t := 32) (p := 7) (by rfl) (.tmp 41) (by rfl) (by rfl) g7 #[.bool s282, .slice A282 k282 c282] (by rfl) (by first | rfl | (go_simp; done) | (go_simp; rfl)) B7 (by kernel_rfl) rfl (by kernel_rfl) ?_; intro w284 ho hB2; replace H81 := As (H81.1.o2 ho B7); replace H82 := As (H82.1.o2 ho B7); replace H83 := As (H83.1.o2 ho B7); replace H202 := As (H202.1.o2 ho B7); replace H219 := As (H219.1.o2 ho B7); replace H243 := As (H243.1.o2 ho B7); replace H280 := As (H280.1.o2 ho B7); replace H283 := As (H283.1.o2 ho B7); replace B3 := Oo B3 ho NE3_7; replace B6 := Oo B6 ho NE6_7; replace B11 := Ou B11 ho NE7_11; replace B12 := Ou B12 ho NE7_12; replace HB := Lo HB ho G7; replace B7 := hB2; clear ho hB2) | (go_at_call 101; (with_reducible refine (integer_Add.run s s279 _ _ _ _ _ _ n ((((wn wss).getD i.toNat 0) * (x : Int).natAbs) * (x : Int).natAbs) (tot wss i.toNat + 5 * i.toNat) (((wss.getD i.toNat []).length + 2) + 2) _ H81.1.na H280.1.na (by have := HL.out; have := LT.out; have := E.out; omega)).mono ?_); rintro e w282 ⟨s282, A282, k282, c282, n282, rfl, hr282, hz282, hu282, hb⟩; have H283 := Aside0.mk hr282; have Z282 := Aside0.mk (And.intro hz282 hu282); clear hr282 hz282 hu282; replace H81 := As (H81.1.be hb); replace H82 := As (H82.1.be hb); replace H83 := As (H83.1.be hb); replace H202 := As (H202.1.be hb); replace H219 := As (H219.1.be hb); replace H243 := As (H243.1.be hb); replace H280 := As (H280.1.be hb); replace B3 := Bb B3 hb; replace B6 := Bb B6 hb; replace B7 := Bb B7 hb; replace B11 := Bb B11 hb; replace B12 := Bb B12 hb; replace HB := Ob HB hb; clear hb) | ((with_reducible refine gate_store (t := 32) (p := 12) rfl ?_); refine Sto (t := 32) (p := 12) (by rfl) (.tmp 38) (by rfl) (by rfl) g12 #[.bool s279, .slice A279 k279 c279] (by rfl) (by first | rfl | (go_simp; done) | (go_simp; rfl)) B12 (by kernel_rfl) rfl (by kernel_rfl) ?_; intro w281 ho hB2; replace H81 := As (H81.1.o2 ho B12); replace H82 := As (H82.1.o2 ho B12); replace H83 := As (H83.1.o2 ho B12); replace H202 := As (H202.1.o2 ho B12); replace H219 := As (H219.1.o2 ho B12); replace H243 := As (H243.1.o2 ho B12); replace H280 := As (H280.1.o2 ho B12); replace B3 := Oo B3 ho NE3_12; replace B6 := Oo B6 ho NE6_12; replace B7 := Oo B7 ho NE7_12; replace B11 := Oo B11 ho NE11_12; replace HB := Lo HB ho G12; replace B12 := hB2; clear ho hB2; (try clear cb7_0); have cb7_0 := Cl0 B7; (try clear cb7_1); have cb7_1 := Cl1 B7; (try clear cb12_0); have cb12_0 := Cl0 B12; (try clear cb12_1); have cb12_1 := Cl1 B12) | (go_at_call 41; (with_reducible refine (integer_Mul.run s242 s201 _ _ _ _ _ _ (((wn wss).getD i.toNat 0) * (x : Int).natAbs) (x : Int).natAbs ((wss.getD i.toNat []).length + 2) 2 _ H243.1.na H202.1.na (by have := HL.out; have := LT.out; have := E.out; omega)).mono ?_); rintro e w279 ⟨s279, A279, k279, c279, rfl, hr279, hz279, hu279, hb⟩; have H280 := Aside0.mk hr279; have Z279 := Aside0.mk (And.intro hz279 hu279); clear hr279 hz279 hu279; replace H81 := As (H81.1.be hb); replace H82 := As (H82.1.be hb); replace H83 := As (H83.1.be hb); replace H202 := As (H202.1.be hb); replace H219 := As (H219.1.be hb); replace H243 := As (H243.1.be hb); replace B3 := Bb B3 hb; replace B6 := Bb B6 hb; replace B7 := Bb B7 hb; replace B11 := Bb B11 hb; replace B12 := Bb B12 hb; replace HB := Ob HB hb; clear hb))
    go_roundg gq
    case measure => omega
    case rel =>
     have hE := E.out
     have hL := HL.out
     have hI := HIq.out
     have hT := LT.out
     have ei1 : i1 = i + 1 := by rw [← hi1, i64_w]; unfold wrap64; omega
     have ei2 : i1.toNat = i.toNat + 1 := by omega
     refine ⟨i1, _, _, _, _, _, _, _, _, rfl, rfl, ⟨by omega, by omega⟩, B3, B6, B7, ⟨(H283.1.na).mono (by rw [ei2, hT.1]; omega)⟩, ⟨?_⟩, ⟨?_⟩, HB⟩
     ·
      rw [ei2, show mom2 ps (wn wss) (i.toNat + 1) = mom2 ps (wn wss) i.toNat + ((wn wss).getD i.toNat 0 : Int) * ps.getD i.toNat 0 * ps.getD i.toNat 0 from rfl, hE.2.2, ← HZ.out]
      have z1 := Z218.out.1
      have z2 := Z201.out.1
      have z3 := Z242.out.1
      have z4 := Z279.out.1
      have z5 := Z282.out.1
      rw [z5, z4, z3, z1, z2, zi_false]
     ·
      rw [ei2, sum_take _ _ (by rw [wn_len]; omega)]
      exact (H286.1.na).mono (by omega)
  ·
   have d1 : decide (i < (wss.length : Int)) = false := decide_eq_false ci
   have ei : i = (wss.length : Int) := by have := HIq.out; omega
   subst ei
   have HT := Aside0.mk (show tot wss wss.length ≤ L from Nat.le_trans (tot_le _ _) HW.out.2.2)
   clear ci
   rw [Int.toNat_natCast] at H81 HZ H82
   rw [List.take_of_length_le (by rw [wn_len]; exact Nat.le_refl _)] at H82
   go_wp2
   replace H81 := As (H81.1.drew)
   replace H82 := As (H82.1.drew)
   replace B3 := Bd B3
   replace B6 := Bd B6
   replace B7 := Bd B7
   replace HB := Od HB
   refine start_ (n := 10) (S := fun w' => w'.cell? ⟨g7, 0, none⟩ = some (.bool s) ∧ w'.cell? ⟨g7, 1, none⟩ = some (.slice A k c)) (ds := [8]) (Bt 10 0) (by kernel_rfl) rfl (by kernel_rfl) ⟨Cl0 B7, Cl1 B7⟩ (fun hHeld => ?_)
   generalize wr.drew = w401 at hHeld H81 H82 B3 B6 B7 HB ⊢
   refine pure_ (i := 1) (N := some 48) (v := ?_) (a' := ?_) (Bt 10 2) rfl rfl (by kernel_rfl) (fun _ _ _ h => h) (Or.inl ⟨by rfl, ?_⟩) ?_ ?_
   rotate_left
   ·
    intro w'
    go_simp
    with_reducible rfl
   rotate_left
   ·
    simp only [Nrm, Option.some.injEq, List.setIfInBounds_toArray, List.set_cons_zero, List.set_cons_succ, i64_w, i32_w]
    rfl
   refine take_ (i := 0) (N := some 47) (v := ?_) (a' := ?_) (Bt 10 3) rfl rfl (by kernel_rfl) (fun _ _ _ h => h) (Or.inl ⟨by rfl, ?_⟩) hHeld ?_ ?_
   rotate_left
   ·
    rintro w' ⟨s0, s1⟩
    go_simp
    with_reducible rfl
   rotate_left
   ·
    simp only [Nrm, Option.some.injEq, List.setIfInBounds_toArray, List.set_cons_zero, List.set_cons_succ, i64_w, i32_w]
    rfl
   refine two_ (i := 2) (j := 7) (Ni := some 49) (Nj := some 13) (Bt 10 7) (Bt 10 131) rfl rfl rfl rfl (by kernel_rfl) (by decide) (by decide) (fun K hK => ?_) (fun K hK => ?_)
   focus
    refine goes_ Tryz.func69 (by kernel_rfl) rfl #[.bool false, .slice B l d] (by rfl) rfl rfl (by (try simp only [List.map_toArray, List.map_cons, List.map_nil]); first | done | rfl) ?_
    with_reducible refine (integer_Make.run _ _ (wn wss).sum (L + wss.length) _ H82.1.na (by have := HL.out; have := HT.out; omega)).mono ?_
    rintro e w426 ⟨s426, A426, k426, c426, rfl, hr426, hz426, hu426, hb⟩
    refine ⟨_, rfl, ?_⟩
    have H427 := Aside0.mk hr426
    have Z426 := Aside0.mk (And.intro hz426 hu426)
    clear hr426 hz426 hu426
    replace H81 := As (H81.1.be hb)
    replace H82 := As (H82.1.be hb)
    replace B3 := Bb B3 hb
    replace B6 := Bb B6 hb
    replace B7 := Bb B7 hb
    replace HB := Ob HB hb
    clear hb
    refine hK.out _ _ ⟨Cl0 B7, Cl1 B7⟩ (fun hHeld => ?_)
    clear hK K
    refine norm_ (a' := ?_) ?_ ?_
    rotate_left
    ·
     show Act.put _ (some 49) _ = _
     simp only [Nrm, Option.some.injEq, List.setIfInBounds_toArray, List.set_cons_zero, List.set_cons_succ, i64_w, i32_w]
     rfl
    refine two_ (i := 3) (j := 7) (Ni := some 50) (Nj := some 13) (Bt 10 15) (Bt 10 135) rfl rfl rfl rfl (by kernel_rfl) (by decide) (by decide) (fun K hK => ?_) (fun K hK => ?_)
    focus
     refine goes_ Tryz.func46 (by kernel_rfl) rfl #[.agg #[.bool s, .slice A k c], .agg #[.bool s426, .slice A426 k426 c426]] (by rfl) rfl rfl (by (try simp only [List.map_toArray, List.map_cons, List.map_nil]); first | done | rfl) ?_
     with_reducible refine (ratio_Make.run s s426 _ _ _ _ _ _ n (wn wss).sum (tot wss wss.length + 5 * wss.length) (L + wss.length) _ H81.1.na H427.1.na (HS.out) (by have := HL.out; have := HT.out; omega)).mono ?_
     rintro e w438 ⟨s438, A438, k438, c438, D438, l438, d438, n438, m438, rfl, hq438, hr438, hm438, hz438, hb⟩
     refine ⟨_, rfl, ?_⟩
     have H439 := Aside0.mk hq438
     have H440 := Aside0.mk hr438
     have F438 := Aside0.mk (And.intro hm438 hz438)
     clear hq438 hr438 hm438 hz438
     replace H81 := As (H81.1.be hb)
     replace H82 := As (H82.1.be hb)
     replace H427 := As (H427.1.be hb)
     replace B3 := Bb B3 hb
     replace B6 := Bb B6 hb
     replace B7 := Bb B7 hb
     replace HB := Ob HB hb
     clear hb
     refine hK.out _ _ ⟨Cl0 B7, Cl1 B7⟩ (fun hHeld => ?_)
     clear hK K
     refine norm_ (a' := ?_) ?_ ?_
     rotate_left
     ·
      show Act.put _ (some 50) _ = _
      simp only [Nrm, Option.some.injEq, List.setIfInBounds_toArray, List.set_cons_zero, List.set_cons_succ, i64_w, i32_w]
      rfl
     refine pure_ (i := 4) (N := some 46) (v := ?_) (a' := ?_) (Bt 10 31) rfl rfl (by kernel_rfl) (fun _ _ _ h => h) (Or.inl ⟨by rfl, ?_⟩) ?_ ?_
     rotate_left
     ·
      intro w'
      go_simp
      with_reducible rfl
     rotate_left
     ·
      simp only [Nrm, Option.some.injEq, List.setIfInBounds_toArray, List.set_cons_zero, List.set_cons_succ, i64_w, i32_w]
      rfl
     refine pure_ (i := 5) (N := some 51) (v := ?_) (a' := ?_) (Bt 10 63) rfl rfl (by kernel_rfl) (fun _ _ _ h => h) (Or.inl ⟨by rfl, ?_⟩) ?_ ?_
     rotate_left
     ·
      intro w'
      go_simp
      with_reducible rfl
     rotate_left
     ·
      simp only [Nrm, Option.some.injEq, List.setIfInBounds_toArray, List.set_cons_zero, List.set_cons_succ, i64_w, i32_w]
      rfl
     refine pure_ (i := 6) (N := some 52) (v := ?_) (a' := ?_) (Bt 10 127) rfl rfl (by kernel_rfl) (fun _ _ _ h => h) (Or.inl ⟨by rfl, ?_⟩) ?_ ?_
     rotate_left
     ·
      intro w'
      go_simp
      with_reducible rfl
     rotate_left
     ·
      simp only [Nrm, Option.some.injEq, List.setIfInBounds_toArray, List.set_cons_zero, List.set_cons_succ, i64_w, i32_w]
      rfl
     refine one_ (i := 7) (N := some 13) (Bt 10 255) rfl rfl (by kernel_rfl) (by decide) (fun K hK => ?_)
     refine box_step (by rfl) (N := 13) (by rfl) (cs := #[.bool false, .slice none 0 0, .slice none 0 0]) (t := 34) ?hr ?_
     (case hr => first | (go_simp; done) | (go_simp; rfl))
     intro g13 hgx w486 hbx hb
     have B13 := As hbx
     have NE3_13 := Nn B3 hgx
     have NE6_13 := Nn B6 hgx
     have NE7_13 := Nn B7 hgx
     have G13 := Gg HB hgx
     replace H81 := As (H81.1.be hb)
     replace H82 := As (H82.1.be hb)
     replace H427 := As (H427.1.be hb)
     replace H439 := As (H439.1.be hb)
     replace H440 := As (H440.1.be hb)
     replace B3 := Bb B3 hb
     replace B6 := Bb B6 hb
     replace B7 := Bb B7 hb
     replace HB := Ob HB hb
     clear hbx hb hgx
     refine hK.out _ _ ⟨Cl0 B7, Cl1 B7⟩ (fun hHeld => ?_)
     clear hK K
     refine norm_ (a' := ?_) ?_ ?_
     rotate_left
     ·
      show Act.put _ (some 13) _ = _
      simp only [Nrm, Option.some.injEq, List.setIfInBounds_toArray, List.set_cons_zero, List.set_cons_succ, i64_w, i32_w]
      rfl
     refine last_ (i := 8) (N := none) (Bt 10 511) rfl rfl (by kernel_rfl) (by decide) (fun K hK => ?_)
     (try clear cb13_0)
     have cb13_0 := Cl0 B13
     (try clear fb13_0)
     have fb13_0 := Fz B13 0
     (try clear cb13_1)
     have cb13_1 := Cl1 B13
     (try clear fb13_1)
     have fb13_1 := Fz B13 1
     (try clear cb13_2)
     have cb13_2 := Cl2 B13
     (try clear fb13_2)
     have fb13_2 := Fz B13 2
     refine skip_ (w1 := ?_) (by rfl) rfl ?_ ?_
     rotate_left
     ·
      go_simp
      rfl
     generalize hw : (((w486.setCell ⟨g13, 0, none⟩ (.bool s438)).setCell ⟨g13, 1, none⟩ (.slice A438 k438 c438)).setCell ⟨g13, 2, none⟩ (.slice D438 l438 d438)) = w498
     replace hw := Eq.symm hw
     have ho : Only w486 w498 g13 := (by rw [hw]; exact Only.setg (Only.setg (Only.setg (Only.refl _ _) 0 _) 1 _) 2 _)
     have hB2 : w498.heap[g13]? = some (.cells #[.bool s438, .slice A438 k438 c438, .slice D438 l438 d438] 34 (0, 0)) := (by rw [hw]; exact (blk_put (blk_put (blk_put B13.out 0 _ rfl) 1 _ rfl) 2 _ rfl))
     replace H81 := As (H81.1.o3 ho B13)
     replace H82 := As (H82.1.o3 ho B13)
     replace H427 := As (H427.1.o3 ho B13)
     replace H439 := As (H439.1.o3 ho B13)
     replace H440 := As (H440.1.o3 ho B13)
     replace B3 := Oo B3 ho NE3_13
     replace B6 := Oo B6 ho NE6_13
     replace B7 := Oo B7 ho NE7_13
     replace HB := Lo HB ho G13
     replace B13 := As hB2
     clear hw ho hB2
     refine hK.out _ _ ?_
     clear hK K
     refine pure_ (i := 9) (N := some 14) (v := ?_) (a' := ?_) (Bt 10 1023) rfl rfl (by kernel_rfl) (fun _ _ _ h => h) (Or.inl ⟨by rfl, ?_⟩) ?_ ?_
     rotate_left
     ·
      intro w'
      go_simp
      with_reducible rfl
     rotate_left
     ·
      simp only [Nrm, Option.some.injEq, List.setIfInBounds_toArray, List.set_cons_zero, List.set_cons_succ, i64_w, i32_w]
      rfl
     refine done_ (by kernel_rfl) ?_
     rename World => w521
    rotate_left
    focus
     refine box_step (by rfl) (N := 13) (by rfl) (cs := #[.bool false, .slice none 0 0, .slice none 0 0]) (t := 34) ?hr ?_
     (case hr => first | (go_simp; done) | (go_simp; rfl))
     intro g13 hgx w486 hbx hb
     have B13 := As hbx
     have NE3_13 := Nn B3 hgx
     have NE6_13 := Nn B6 hgx
     have NE7_13 := Nn B7 hgx
     have G13 := Gg HB hgx
     replace H81 := As (H81.1.be hb)
     replace H82 := As (H82.1.be hb)
     replace H427 := As (H427.1.be hb)
     replace B3 := Bb B3 hb
     replace B6 := Bb B6 hb
     replace B7 := Bb B7 hb
     replace HB := Ob HB hb
     clear hbx hb hgx
     refine hK.out _ _ ⟨Cl0 B7, Cl1 B7⟩ (fun hHeld => ?_)
     clear hK K
     refine norm_ (a' := ?_) ?_ ?_
     rotate_left
     ·
      show Act.put _ (some 13) _ = _
      simp only [Nrm, Option.some.injEq, List.setIfInBounds_toArray, List.set_cons_zero, List.set_cons_succ, i64_w, i32_w]
      rfl
     refine one_ (i := 3) (N := some 50) (Bt 10 143) rfl rfl (by kernel_rfl) (by decide) (fun K hK => ?_)
     refine goes_ Tryz.func46 (by kernel_rfl) rfl #[.agg #[.bool s, .slice A k c], .agg #[.bool s426, .slice A426 k426 c426]] (by rfl) rfl rfl (by (try simp only [List.map_toArray, List.map_cons, List.map_nil]); first | done | rfl) ?_
     with_reducible refine (ratio_Make.run s s426 _ _ _ _ _ _ n (wn wss).sum (tot wss wss.length + 5 * wss.length) (L + wss.length) _ H81.1.na H427.1.na (HS.out) (by have := HL.out; have := HT.out; omega)).mono ?_
     rintro e w438 ⟨s438, A438, k438, c438, D438, l438, d438, n438, m438, rfl, hq438, hr438, hm438, hz438, hb⟩
     refine ⟨_, rfl, ?_⟩
     have H439 := Aside0.mk hq438
     have H440 := Aside0.mk hr438
     have F438 := Aside0.mk (And.intro hm438 hz438)
     clear hq438 hr438 hm438 hz438
     replace H81 := As (H81.1.be hb)
     replace H82 := As (H82.1.be hb)
     replace H427 := As (H427.1.be hb)
     replace B3 := Bb B3 hb
     replace B6 := Bb B6 hb
     replace B7 := Bb B7 hb
     replace B13 := Bb B13 hb
     replace HB := Ob HB hb
     clear hb
     refine hK.out _ _ ⟨Cl0 B7, Cl1 B7⟩ (fun hHeld => ?_)
     clear hK K
     refine norm_ (a' := ?_) ?_ ?_
     rotate_left
     ·
      show Act.put _ (some 50) _ = _
      simp only [Nrm, Option.some.injEq, List.setIfInBounds_toArray, List.set_cons_zero, List.set_cons_succ, i64_w, i32_w]
      rfl
     refine pure_ (i := 4) (N := some 46) (v := ?_) (a' := ?_) (Bt 10 159) rfl rfl (by kernel_rfl) (fun _ _ _ h => h) (Or.inl ⟨by rfl, ?_⟩) ?_ ?_
     rotate_left
     ·
      intro w'
      go_simp
      with_reducible rfl
     rotate_left
     ·
      simp only [Nrm, Option.some.injEq, List.setIfInBounds_toArray, List.set_cons_zero, List.set_cons_succ, i64_w, i32_w]
      rfl
     refine pure_ (i := 5) (N := some 51) (v := ?_) (a' := ?_) (Bt 10 191) rfl rfl (by kernel_rfl) (fun _ _ _ h => h) (Or.inl ⟨by rfl, ?_⟩) ?_ ?_
     rotate_left
     ·
      intro w'
      go_simp
      with_reducible rfl
     rotate_left
     ·
      simp only [Nrm, Option.some.injEq, List.setIfInBounds_toArray, List.set_cons_zero, List.set_cons_succ, i64_w, i32_w]
      rfl
     refine pure_ (i := 6) (N := some 52) (v := ?_) (a' := ?_) (Bt 10 255) rfl rfl (by kernel_rfl) (fun _ _ _ h => h) (Or.inl ⟨by rfl, ?_⟩) ?_ ?_
     rotate_left
     ·
      intro w'
      go_simp
      with_reducible rfl
     rotate_left
     ·
      simp only [Nrm, Option.some.injEq, List.setIfInBounds_toArray, List.set_cons_zero, List.set_cons_succ, i64_w, i32_w]
      rfl
     refine last_ (i := 8) (N := none) (Bt 10 511) rfl rfl (by kernel_rfl) (by decide) (fun K hK => ?_)
     (try clear cb13_0)
     have cb13_0 := Cl0 B13
     (try clear fb13_0)
     have fb13_0 := Fz B13 0
     (try clear cb13_1)
     have cb13_1 := Cl1 B13
     (try clear fb13_1)
     have fb13_1 := Fz B13 1
     (try clear cb13_2)
     have cb13_2 := Cl2 B13
     (try clear fb13_2)
     have fb13_2 := Fz B13 2
     refine skip_ (w1 := ?_) (by rfl) rfl ?_ ?_
     rotate_left
     ·
      go_simp
      rfl
     generalize hw : (((w438.setCell ⟨g13, 0, none⟩ (.bool s438)).setCell ⟨g13, 1, none⟩ (.slice A438 k438 c438)).setCell ⟨g13, 2, none⟩ (.slice D438 l438 d438)) = w498
     replace hw := Eq.symm hw
     have ho : Only w438 w498 g13 := (by rw [hw]; exact Only.setg (Only.setg (Only.setg (Only.refl _ _) 0 _) 1 _) 2 _)
     have hB2 : w498.heap[g13]? = some (.cells #[.bool s438, .slice A438 k438 c438, .slice D438 l438 d438] 34 (0, 0)) := (by rw [hw]; exact (blk_put (blk_put (blk_put B13.out 0 _ rfl) 1 _ rfl) 2 _ rfl))
     replace H81 := As (H81.1.o3 ho B13)
     replace H82 := As (H82.1.o3 ho B13)
     replace H427 := As (H427.1.o3 ho B13)
     replace H439 := As (H439.1.o3 ho B13)
     replace H440 := As (H440.1.o3 ho B13)
     replace B3 := Oo B3 ho NE3_13
     replace B6 := Oo B6 ho NE6_13
     replace B7 := Oo B7 ho NE7_13
     replace HB := Lo HB ho G13
     replace B13 := As hB2
     clear hw ho hB2
     refine hK.out _ _ ?_
     clear hK K
     refine pure_ (i := 9) (N := some 14) (v := ?_) (a' := ?_) (Bt 10 1023) rfl rfl (by kernel_rfl) (fun _ _ _ h => h) (Or.inl ⟨by rfl, ?_⟩) ?_ ?_
     rotate_left
     ·
      intro w'
      go_simp
      with_reducible rfl
     rotate_left
     ·
      simp only [Nrm, Option.some.injEq, List.setIfInBounds_toArray, List.set_cons_zero, List.set_cons_succ, i64_w, i32_w]
      rfl
     refine done_ (by kernel_rfl) ?_
     rename World => w521
    rotate_left
   rotate_left 2
   focus
    refine box_step (by rfl) (N := 13) (by rfl) (cs := #[.bool false, .slice none 0 0, .slice none 0 0]) (t := 34) ?hr ?_
    (case hr => first | (go_simp; done) | (go_simp; rfl))
    intro g13 hgx w486 hbx hb
    have B13 := As hbx
    have NE3_13 := Nn B3 hgx
    have NE6_13 := Nn B6 hgx
    have NE7_13 := Nn B7 hgx
    have G13 := Gg HB hgx
    replace H81 := As (H81.1.be hb)
    replace H82 := As (H82.1.be hb)
    replace B3 := Bb B3 hb
    replace B6 := Bb B6 hb
    replace B7 := Bb B7 hb
    replace HB := Ob HB hb
    clear hbx hb hgx
    refine hK.out _ _ ⟨Cl0 B7, Cl1 B7⟩ (fun hHeld => ?_)
    clear hK K
    refine norm_ (a' := ?_) ?_ ?_
    rotate_left
    ·
     show Act.put _ (some 13) _ = _
     simp only [Nrm, Option.some.injEq, List.setIfInBounds_toArray, List.set_cons_zero, List.set_cons_succ, i64_w, i32_w]
     rfl
    refine one_ (i := 2) (N := some 49) (Bt 10 135) rfl rfl (by kernel_rfl) (by decide) (fun K hK => ?_)
    refine goes_ Tryz.func69 (by kernel_rfl) rfl #[.bool false, .slice B l d] (by rfl) rfl rfl (by (try simp only [List.map_toArray, List.map_cons, List.map_nil]); first | done | rfl) ?_
    with_reducible refine (integer_Make.run _ _ (wn wss).sum (L + wss.length) _ H82.1.na (by have := HL.out; have := HT.out; omega)).mono ?_
    rintro e w426 ⟨s426, A426, k426, c426, rfl, hr426, hz426, hu426, hb⟩
    refine ⟨_, rfl, ?_⟩
    have H427 := Aside0.mk hr426
    have Z426 := Aside0.mk (And.intro hz426 hu426)
    clear hr426 hz426 hu426
    replace H81 := As (H81.1.be hb)
    replace H82 := As (H82.1.be hb)
    replace B3 := Bb B3 hb
    replace B6 := Bb B6 hb
    replace B7 := Bb B7 hb
    replace B13 := Bb B13 hb
    replace HB := Ob HB hb
    clear hb
    refine hK.out _ _ ⟨Cl0 B7, Cl1 B7⟩ (fun hHeld => ?_)
    clear hK K
    refine norm_ (a' := ?_) ?_ ?_
    rotate_left
    ·
     show Act.put _ (some 49) _ = _
     simp only [Nrm, Option.some.injEq, List.setIfInBounds_toArray, List.set_cons_zero, List.set_cons_succ, i64_w, i32_w]
     rfl
    refine one_ (i := 3) (N := some 50) (Bt 10 143) rfl rfl (by kernel_rfl) (by decide) (fun K hK => ?_)
    refine goes_ Tryz.func46 (by kernel_rfl) rfl #[.agg #[.bool s, .slice A k c], .agg #[.bool s426, .slice A426 k426 c426]] (by rfl) rfl rfl (by (try simp only [List.map_toArray, List.map_cons, List.map_nil]); first | done | rfl) ?_
    with_reducible refine (ratio_Make.run s s426 _ _ _ _ _ _ n (wn wss).sum (tot wss wss.length + 5 * wss.length) (L + wss.length) _ H81.1.na H427.1.na (HS.out) (by have := HL.out; have := HT.out; omega)).mono ?_
    rintro e w438 ⟨s438, A438, k438, c438, D438, l438, d438, n438, m438, rfl, hq438, hr438, hm438, hz438, hb⟩
    refine ⟨_, rfl, ?_⟩
    have H439 := Aside0.mk hq438
    have H440 := Aside0.mk hr438
    have F438 := Aside0.mk (And.intro hm438 hz438)
    clear hq438 hr438 hm438 hz438
    replace H81 := As (H81.1.be hb)
    replace H82 := As (H82.1.be hb)
    replace H427 := As (H427.1.be hb)
    replace B3 := Bb B3 hb
    replace B6 := Bb B6 hb
    replace B7 := Bb B7 hb
    replace B13 := Bb B13 hb
    replace HB := Ob HB hb
    clear hb
    refine hK.out _ _ ⟨Cl0 B7, Cl1 B7⟩ (fun hHeld => ?_)
    clear hK K
    refine norm_ (a' := ?_) ?_ ?_
    rotate_left
    ·
     show Act.put _ (some 50) _ = _
     simp only [Nrm, Option.some.injEq, List.setIfInBounds_toArray, List.set_cons_zero, List.set_cons_succ, i64_w, i32_w]
     rfl
    refine pure_ (i := 4) (N := some 46) (v := ?_) (a' := ?_) (Bt 10 159) rfl rfl (by kernel_rfl) (fun _ _ _ h => h) (Or.inl ⟨by rfl, ?_⟩) ?_ ?_
    rotate_left
    ·
     intro w'
     go_simp
     with_reducible rfl
    rotate_left
    ·
     simp only [Nrm, Option.some.injEq, List.setIfInBounds_toArray, List.set_cons_zero, List.set_cons_succ, i64_w, i32_w]
     rfl
    refine pure_ (i := 5) (N := some 51) (v := ?_) (a' := ?_) (Bt 10 191) rfl rfl (by kernel_rfl) (fun _ _ _ h => h) (Or.inl ⟨by rfl, ?_⟩) ?_ ?_
    rotate_left
    ·
     intro w'
     go_simp
     with_reducible rfl
    rotate_left
    ·
     simp only [Nrm, Option.some.injEq, List.setIfInBounds_toArray, List.set_cons_zero, List.set_cons_succ, i64_w, i32_w]
     rfl
    refine pure_ (i := 6) (N := some 52) (v := ?_) (a' := ?_) (Bt 10 255) rfl rfl (by kernel_rfl) (fun _ _ _ h => h) (Or.inl ⟨by rfl, ?_⟩) ?_ ?_
    rotate_left
    ·
     intro w'
     go_simp
     with_reducible rfl
    rotate_left
    ·
     simp only [Nrm, Option.some.injEq, List.setIfInBounds_toArray, List.set_cons_zero, List.set_cons_succ, i64_w, i32_w]
     rfl
    refine last_ (i := 8) (N := none) (Bt 10 511) rfl rfl (by kernel_rfl) (by decide) (fun K hK => ?_)
    (try clear cb13_0)
    have cb13_0 := Cl0 B13
    (try clear fb13_0)
    have fb13_0 := Fz B13 0
    (try clear cb13_1)
    have cb13_1 := Cl1 B13
    (try clear fb13_1)
    have fb13_1 := Fz B13 1
    (try clear cb13_2)
    have cb13_2 := Cl2 B13
    (try clear fb13_2)
    have fb13_2 := Fz B13 2
    refine skip_ (w1 := ?_) (by rfl) rfl ?_ ?_
    rotate_left
    ·
     go_simp
     rfl
    generalize hw : (((w438.setCell ⟨g13, 0, none⟩ (.bool s438)).setCell ⟨g13, 1, none⟩ (.slice A438 k438 c438)).setCell ⟨g13, 2, none⟩ (.slice D438 l438 d438)) = w498
    replace hw := Eq.symm hw
    have ho : Only w438 w498 g13 := (by rw [hw]; exact Only.setg (Only.setg (Only.setg (Only.refl _ _) 0 _) 1 _) 2 _)
    have hB2 : w498.heap[g13]? = some (.cells #[.bool s438, .slice A438 k438 c438, .slice D438 l438 d438] 34 (0, 0)) := (by rw [hw]; exact (blk_put (blk_put (blk_put B13.out 0 _ rfl) 1 _ rfl) 2 _ rfl))
    replace H81 := As (H81.1.o3 ho B13)
    replace H82 := As (H82.1.o3 ho B13)
    replace H427 := As (H427.1.o3 ho B13)
    replace H439 := As (H439.1.o3 ho B13)
    replace H440 := As (H440.1.o3 ho B13)
    replace B3 := Oo B3 ho NE3_13
    replace B6 := Oo B6 ho NE6_13
    replace B7 := Oo B7 ho NE7_13
    replace HB := Lo HB ho G13
    replace B13 := As hB2
    clear hw ho hB2
    refine hK.out _ _ ?_
    clear hK K
    refine pure_ (i := 9) (N := some 14) (v := ?_) (a' := ?_) (Bt 10 1023) rfl rfl (by kernel_rfl) (fun _ _ _ h => h) (Or.inl ⟨by rfl, ?_⟩) ?_ ?_
    rotate_left
    ·
     intro w'
     go_simp
     with_reducible rfl
    rotate_left
    ·
     simp only [Nrm, Option.some.injEq, List.setIfInBounds_toArray, List.set_cons_zero, List.set_cons_succ, i64_w, i32_w]
     rfl
    refine done_ (by kernel_rfl) ?_
    rename World => w521
   rotate_left
   all_goals
    (try clear cb13_0)
    have cb13_0 := Cl0 B13
    (try clear cb13_1)
    have cb13_1 := Cl1 B13
    (try clear cb13_2)
    have cb13_2 := Cl2 B13
    go_wp2_with (first | ((with_reducible refine gate_store (t := 34) (p := 6) rfl ?_); refine Sto (t := 34) (p := 6) (by rfl) (.tmp 53) (by rfl) (by rfl) g6 #[.bool s438, .slice A438 k438 c438, .slice D438 l438 d438] (by rfl) (by first | rfl | (go_simp; done) | (go_simp; rfl)) B6 (by kernel_rfl) rfl (by kernel_rfl) ?_; intro w523 ho hB2; replace H81 := As (H81.1.o3 ho B6); replace H82 := As (H82.1.o3 ho B6); replace H427 := As (H427.1.o3 ho B6); replace H439 := As (H439.1.o3 ho B6); replace H440 := As (H440.1.o3 ho B6); replace B3 := Oo B3 ho NE3_6; replace B7 := Ou B7 ho NE6_7; replace B13 := Ou B13 ho NE6_13; replace HB := Lo HB ho G6; replace B6 := hB2; clear ho hB2))
    try simp only [Exit.inBlock, Exit.then]
    refine bodyPost_ret (results_cell_row rfl _ _ g6 34 #[.bool s438, .slice A438 k438 c438, .slice D438 l438 d438] (0, 0) _ rfl B6.out Tryz.underlying34 rfl (by kernel_rfl)) rfl ?_
    have hL := HL.out
    have hT := HT.out
    refine ⟨_, _, _, _, _, _, _, _, _, rfl, (H439.1).mono (by omega), (H440.1).mono (by omega), F438.out.1, ?_, HB.out⟩
    have hz := F438.out.2
    rw [HZ.out, Z426.out.1, zi_false] at hz
    exact hz
end Go.Proofs.YtnmfmiemkcaocaaGreat.Hand
namespace Go.Proofs.YtnmfmiemkcaocaaGreat.Hand
open Go.RowKit Go.Proofs.YtnmfmiemkcaocaaGreatW.PrintWords Go.Proofs.YtnmfmiemkcaocaaGreatW.PrintLast Go.Proofs.YtnmfmiemkcaocaaGreatW.PrintMore
set_option linter.unusedVariables false
set_option linter.unusedSimpArgs false
theorem gridV_ok {ps qs : List Int} (h : gridV ps qs = 0) : ps.length ≤ 21 ∧ 0 < ps.length ∧ qs.length = ps.length ∧ ∀ x ∈ ps, -1000 ≤ x ∧ x ≤ 1000 := by
 unfold gridV at h
 split at h
 ·
  exact absurd h (by decide)
 ·
  split at h
  ·
   exact absurd h (by decide)
  ·
   split at h
   ·
    exact absurd h (by decide)
   ·
    rename_i h1 h2 h3
    split at h
    ·
     exact absurd h (by decide)
    ·
     rename_i h4
     refine ⟨by omega, by omega, by omega, fun x hx => ?_⟩
     obtain ⟨i, hi, rfl⟩ := List.mem_iff_getElem.1 hx
     rw [Bool.not_eq_true, List.any_eq_false] at h4
     have := h4 i (List.mem_range.2 hi)
     unfold offAt at this
     rw [List.getD_eq_getElem?_getD, List.getElem?_eq_getElem hi] at this
     simp at this
     exact this.1.1
theorem sum_pos {ns : List Nat} (h : ns.any (fun n => decide (0 < n)) = true) : 0 < ns.sum := by
 rw [List.any_eq_true] at h
 obtain ⟨x, hx, h2⟩ := h
 have := le_sum hx
 have := of_decide_eq_true h2
 omega
theorem checkV_ok {ps qs : List Int} {ns : List Nat} (h : checkV ps qs ns = 0) : gridV ps qs = 0 ∧ ns.length = ps.length ∧ 0 < ns.sum := by
 unfold checkV at h
 split at h
 ·
  rename_i h1
  exact absurd h h1
 ·
  rename_i h1
  split at h
  ·
   exact absurd h (by decide)
  ·
   rename_i h2
   split at h
   ·
    rename_i h3
    exact ⟨by omega, by omega, sum_pos h3⟩
   ·
    exact absurd h (by decide)
def varN (ps : List Int) (ns : List Nat) : Int := mom2 ps ns ns.length * (ns.sum : Int) - mom1 ps ns ns.length * mom1 ps ns ns.length
def varD (ns : List Nat) : Int := (ns.sum : Int) * (ns.sum : Int)
theorem pd_of {m : Nat} (h : 0 < m) : pd m = m := by unfold pd; rw [if_neg (by omega)]
theorem pn_of {s : Bool} {n m : Nat} (h : 0 < m) : pn s n m = zi s n := by unfold pn; rw [if_neg (by omega)]
theorem var_cross {W S1 S2 n1 d1 n2 d2 n3 d3 n4 d4 : Int} (h1 : n1 * W = S1 * d1) (h2 : n2 * W = S2 * d2) (h3 : n3 * (d1 * d1) = n1 * n1 * d3) (h4 : n4 * (d2 * d3) = (n2 * d3 - n3 * d2) * d4) (p1 : d1 ≠ 0) (p2 : d2 ≠ 0) (p3 : d3 ≠ 0) :
  n4 * (W * W) = (S2 * W - S1 * S1) * d4 := by
 have e3 : n3 * (W * W) = S1 * S1 * d3 := by
  have : (n3 * (W * W)) * (d1 * d1) = (S1 * S1 * d3) * (d1 * d1) := by
   have a : n3 * (W * W) * (d1 * d1) = n3 * (d1 * d1) * (W * W) := by grind
   rw [a, h3]
   have b : n1 * n1 * d3 * (W * W) = (n1 * W) * (n1 * W) * d3 := by grind
   rw [b, h1]
   grind
  exact Int.eq_of_mul_eq_mul_right (Int.mul_ne_zero p1 p1) this
 have : (n4 * (W * W)) * (d2 * d3) = ((S2 * W - S1 * S1) * d4) * (d2 * d3) := by
  have a : n4 * (W * W) * (d2 * d3) = n4 * (d2 * d3) * (W * W) := by grind
  rw [a, h4]
  have b : (n2 * d3 - n3 * d2) * d4 * (W * W) = ((n2 * W) * W * d3 - n3 * (W * W) * d2) * d4 := by grind
  rw [b, h2, e3]
  grind
 exact Int.eq_of_mul_eq_mul_right (Int.mul_ne_zero p2 p3) this
theorem grid_whole.run (x : Int) (w : World) (h0 : -1000000000 ≤ x) (h1 : x ≤ 1000000000) :
  Calls Tryz.prog 79 #[.int .i64 x] w fun e w' => ∃ u A k c B l d n m, e = .returned (.agg #[.bool u, .slice A k c, .slice B l d]) ∧ NC w' (.slice A k c) n (4) ∧ NC w' (.slice B l d) m (4) ∧ 0 < m ∧ zi u n * 1 = x * m ∧ Below w.heap.size w w' := by
 have HI := Aside0.mk (And.intro h0 h1)
 have HB := Aside0.mk (Below.refl w.heap.size w)
 clear h0 h1
 go_enter Tryz.func79, Tryz.ntmps79
 go_wp2_with (first | ((with_reducible refine gate_store (t := 34) (p := 2) rfl ?_); refine Sto (t := 34) (p := 2) (by rfl) (.tmp 10) (by rfl) (by rfl) g2 #[.bool s2, .slice A2 k2 c2, .slice D2 l2 d2] (by rfl) (by first | rfl | (go_simp; done) | (go_simp; rfl)) B2 (by kernel_rfl) rfl (by kernel_rfl) ?_; intro w7 ho hB2; replace H3 := As (H3.1.o3 ho B2); replace H4 := As (H4.1.o3 ho B2); replace B3 := Ou B3 ho NE2_3; replace HB := Lo HB ho G2; replace B2 := hB2; clear ho hB2) | ((with_reducible refine gate_store (t := 34) (p := 3) rfl ?_); refine Sto (t := 34) (p := 3) (by rfl) (.tmp 8) (by rfl) (by rfl) g3 #[.bool s2, .slice A2 k2 c2, .slice D2 l2 d2] (by rfl) (by first | rfl | (go_simp; done) | (go_simp; rfl)) B3 (by kernel_rfl) rfl (by kernel_rfl) ?_; intro w6 ho hB2; replace H3 := As (H3.1.o3 ho B3); replace H4 := As (H4.1.o3 ho B3); replace B2 := Oo B2 ho NE2_3; replace HB := Lo HB ho G3; replace B3 := hB2; clear ho hB2; (try clear cb3_0); have cb3_0 := Cl0 B3; (try clear cb3_1); have cb3_1 := Cl1 B3; (try clear cb3_2); have cb3_2 := Cl2 B3) | ((with_reducible refine gate_dst (N := 3) rfl ?_); refine box_event (by rfl) (N := 3) (by rfl) (cs := #[.bool false, .slice none 0 0, .slice none 0 0]) (t := 34) ?hr ?_; (case hr => first | (go_simp; done) | (go_simp; rfl)); intro g3 hgx w5 hbx hb; have B3 := As hbx; have NE2_3 := Nn B2 hgx; have G3 := Gg HB hgx; replace H3 := As (H3.1.be hb); replace H4 := As (H4.1.be hb); replace B2 := Bb B2 hb; replace HB := Ob HB hb; clear hbx hb hgx) | (go_at_call 23; (with_reducible refine (ratio_Of.run (x) (1) _ (by have := HI.out; omega) (by have := HI.out; omega) (by have := HI.out; omega) (by have := HI.out; omega)).mono ?_); rintro e w2 ⟨s2, A2, k2, c2, D2, l2, d2, n2, m2, rfl, hq2, hr2, hm2, hz2, hb⟩; have H3 := Aside0.mk hq2; have H4 := Aside0.mk hr2; have F2 := Aside0.mk (And.intro hm2 hz2); clear hq2 hr2 hm2 hz2; replace B2 := Bb B2 hb; replace HB := Ob HB hb; clear hb) | ((with_reducible refine gate_dst (N := 2) rfl ?_); refine box_event (by rfl) (N := 2) (by rfl) (cs := #[.bool false, .slice none 0 0, .slice none 0 0]) (t := 34) ?hr ?_; (case hr => first | (go_simp; done) | (go_simp; rfl)); intro g2 hgx w1 hbx hb; have B2 := As hbx; have G2 := Gg HB hgx; replace HB := Ob HB hb; clear hbx hb hgx))
 try simp only [Exit.inBlock, Exit.then]
 refine bodyPost_ret (results_cell_row rfl _ _ g2 34 #[.bool s2, .slice A2 k2 c2, .slice D2 l2 d2] (0, 0) _ rfl B2.out Tryz.underlying34 rfl (by kernel_rfl)) rfl ?_
 exact ⟨_, _, _, _, _, _, _, _, _, rfl, H3.1, H4.1, F2.out.1, F2.out.2, HB.out⟩
theorem grid_Variance.run (ps qs : List Int) (P Q : Option Addr) (cp cq : Nat) (A : Option Addr) (cap : Nat) (wss : List (List Int)) (L : Nat) (w : World) (hp : Kd.C (Kd.int .i64) w P ps.length ps) (hq : Kd.C (Kd.int .i64) w Q qs.length qs) (hcp : ps.length ≤ cp) (hw : WR w A wss L) (hl : wss.length ≤ 100000000) (hL : L ≤ 1100000) :
  Calls Tryz.prog 52 #[.agg #[.slice P ps.length cp, .slice Q qs.length cq], .slice A wss.length cap] w fun e w' => ∃ u A k c B l d n m, e = .returned (.tuple #[.agg #[.bool u, .slice A k c, .slice B l d], .int .i64 (checkV ps qs (wn wss))]) ∧ NC w' (.slice A k c) n (6 * L + 1000) ∧ NC w' (.slice B l d) m (3 * L + 200) ∧ 0 < m ∧ (checkV ps qs (wn wss) = 0 → zi u n * varD (wn wss) = varN ps (wn wss) * m) ∧ Below w.heap.size w w' := by
 have HP := Aside0.mk hp
 have HQ := Aside0.mk hq
 have HC := Aside0.mk hcp
 have HW := Aside0.mk hw
 have HL := Aside0.mk (And.intro hl hL)
 have HB := Aside0.mk (Below.refl w.heap.size w)
 clear hp hq hcp hw hl hL
 obtain ⟨cv, hcv⟩ : ∃ x, checkV ps qs (wn wss) = x := ⟨_, rfl⟩
 rw [hcv]
 have HG := Aside0.mk hcv
 clear hcv
 by_cases cg : cv = 0
 ·
  have kg : (cv == 0) = true := by rw [beq_iff_eq]; exact cg
  have kgn : (cv != 0) = false := by rw [bne, kg]; rfl
  have D := Aside0.mk (show gridV ps qs = 0 ∧ wss.length = ps.length ∧ 0 < (wn wss).sum by have h := checkV_ok (HG.out.trans cg); rw [wn_len] at h; exact h)
  have E0 := Aside0.mk cg
  clear cg
  go_enter Tryz.func52, Tryz.ntmps52
  go_wp2_with (first | ((with_reducible refine gate_store (t := 34) (p := 7) rfl ?_); refine Sto (t := 34) (p := 7) (by rfl) (.tmp 17) (by rfl) (by rfl) g7 #[.bool s4, .slice A4 k4 c4, .slice D4 l4 d4] (by rfl) (by first | rfl | (go_simp; done) | (go_simp; rfl)) B7 (by kernel_rfl) rfl (by kernel_rfl) ?_; intro w8 ho hB2; replace H5 := As (H5.1.o3 ho B7); replace H6 := As (H6.1.o3 ho B7); replace B2 := Oo B2 ho NE2_7; replace B4 := Oo B4 ho NE4_7; replace HB := Lo HB ho G7; replace B7 := hB2; clear ho hB2) | ((with_reducible refine gate_dst (N := 7) rfl ?_); refine box_event (by rfl) (N := 7) (by rfl) (cs := #[.bool false, .slice none 0 0, .slice none 0 0]) (t := 34) ?hr ?_; (case hr => first | (go_simp; done) | (go_simp; rfl)); intro g7 hgx w7 hbx hb; have B7 := As hbx; have NE2_7 := Nn B2 hgx; have NE4_7 := Nn B4 hgx; have G7 := Gg HB hgx; replace H5 := As (H5.1.be hb); replace H6 := As (H6.1.be hb); replace B2 := Bb B2 hb; replace B4 := Bb B4 hb; replace HB := Ob HB hb; clear hbx hb hgx) | (go_at_call 80; (with_reducible refine (grid_moment1.run ps qs P Q cp cq A cap wss L _ (Kd.C_below HP.out HB.out) (gridV_ok D.out.1).2.2.2 (HW.out.below HB.out) D.out.2.1 (gridV_ok D.out.1).1 D.out.2.2 HL.out.2).mono ?_); rintro e w4 ⟨s4, A4, k4, c4, D4, l4, d4, n4, m4, rfl, hq4, hr4, hm4, hz4, hb⟩; have H5 := Aside0.mk hq4; have H6 := Aside0.mk hr4; have F4 := Aside0.mk (And.intro hm4 hz4); clear hq4 hr4 hm4 hz4; replace B2 := Bb B2 hb; replace B4 := Bb B4 hb; replace HB := Ob HB hb; clear hb) | (go_at_call 78; (with_reducible refine (grid_check.run ps qs P Q cp cq A cap wss L _ (Kd.C_below HP.out HB.out) (Kd.C_below HQ.out HB.out) HC.out (HW.out.below HB.out) HL.out.1 (by have := HL.out; omega)).mono ?_); rintro e w3 ⟨rfl, hb⟩; replace B2 := Bb B2 hb; replace B4 := Bb B4 hb; replace HB := Ob HB hb; rw [HG.out]; clear hb; (try clear cb2_0); have cb2_0 := Cl0 B2; (try clear cb2_1); have cb2_1 := Cl1 B2) | ((with_reducible refine gate_dst (N := 4) rfl ?_); refine box_event (by rfl) (N := 4) (by rfl) (cs := #[.bool false, .slice none 0 0, .slice none 0 0]) (t := 34) ?hr ?_; (case hr => first | (go_simp; done) | (go_simp; rfl)); intro g4 hgx w2 hbx hb; have B4 := As hbx; have NE2_4 := Nn B2 hgx; have G4 := Gg HB hgx; replace B2 := Bb B2 hb; replace HB := Ob HB hb; clear hbx hb hgx; (try clear cb2_0); have cb2_0 := Cl0 B2; (try clear cb2_1); have cb2_1 := Cl1 B2) | ((with_reducible refine gate_dst (N := 2) rfl ?_); refine box_event (by rfl) (N := 2) (by rfl) (cs := #[.slice P ps.length cp, .slice Q qs.length cq]) (t := 27) ?hr ?_; (case hr => first | (go_simp; done) | (go_simp; rfl)); intro g2 hgx w1 hbx hb; have B2 := As hbx; have G2 := Gg HB hgx; replace HB := Ob HB hb; clear hbx hb hgx))
  replace H5 := As (H5.1.drew)
  replace H6 := As (H6.1.drew)
  replace B2 := Bd B2
  replace B4 := Bd B4
  replace B7 := Bd B7
  replace HB := Od HB
  refine start_ (n := 9) (S := fun w' => w'.cell? ⟨g2, 0, none⟩ = some (.slice P ps.length cp) ∧ w'.cell? ⟨g2, 1, none⟩ = some (.slice Q qs.length cq) ∧ w'.cell? ⟨g7, 0, none⟩ = some (.bool s4) ∧ w'.cell? ⟨g7, 1, none⟩ = some (.slice A4 k4 c4) ∧ w'.cell? ⟨g7, 2, none⟩ = some (.slice D4 l4 d4)) (ds := [7]) (Bt 9 0) (by kernel_rfl) rfl (by kernel_rfl) ⟨Cl0 B2, Cl1 B2, Cl0 B7, Cl1 B7, Cl2 B7⟩ (fun hHeld => ?_)
  generalize w8.drew = w9 at hHeld H5 H6 B2 B4 B7 HB ⊢
  refine pure_ (i := 1) (N := some 19) (v := ?_) (a' := ?_) (Bt 9 2) rfl rfl (by kernel_rfl) (fun _ _ _ h => h) (Or.inl ⟨by rfl, ?_⟩) ?_ ?_
  rotate_left
  ·
   intro w'
   go_simp
   with_reducible rfl
  rotate_left
  ·
   simp only [Nrm, Option.some.injEq, List.setIfInBounds_toArray, List.set_cons_zero, List.set_cons_succ, i64_w, i32_w]
   rfl
  refine take_ (i := 0) (N := some 18) (v := ?_) (a' := ?_) (Bt 9 3) rfl rfl (by kernel_rfl) (fun _ _ _ h => h) (Or.inl ⟨by rfl, ?_⟩) hHeld ?_ ?_
  rotate_left
  ·
   rintro w' ⟨s0, s1, s2, s3, s4⟩
   go_simp
   with_reducible rfl
  rotate_left
  ·
   simp only [Nrm, Option.some.injEq, List.setIfInBounds_toArray, List.set_cons_zero, List.set_cons_succ, i64_w, i32_w]
   rfl
  refine take_ (i := 3) (N := some 21) (v := ?_) (a' := ?_) (Bt 9 11) rfl rfl (by kernel_rfl) (fun _ _ _ h => h) (Or.inl ⟨by rfl, ?_⟩) hHeld ?_ ?_
  rotate_left
  ·
   rintro w' ⟨s0, s1, s2, s3, s4⟩
   go_simp
   with_reducible rfl
  rotate_left
  ·
   simp only [Nrm, Option.some.injEq, List.setIfInBounds_toArray, List.set_cons_zero, List.set_cons_succ, i64_w, i32_w]
   rfl
  refine take_ (i := 4) (N := some 22) (v := ?_) (a' := ?_) (Bt 9 27) rfl rfl (by kernel_rfl) (fun _ _ _ h => h) (Or.inl ⟨by rfl, ?_⟩) hHeld ?_ ?_
  rotate_left
  ·
   rintro w' ⟨s0, s1, s2, s3, s4⟩
   go_simp
   with_reducible rfl
  rotate_left
  ·
   simp only [Nrm, Option.some.injEq, List.setIfInBounds_toArray, List.set_cons_zero, List.set_cons_succ, i64_w, i32_w]
   rfl
  refine one_ (i := 2) (N := some 20) (Bt 9 31) rfl rfl (by kernel_rfl) (by decide) (fun K hK => ?_)
  refine goes_ Tryz.func80 (by kernel_rfl) rfl #[.agg #[.slice P ps.length cp, .slice Q qs.length cq], .slice A wss.length cap, .int .i64 2] (by rfl) rfl rfl (by (try simp only [List.map_toArray, List.map_cons, List.map_nil]); first | done | rfl) ?_
  with_reducible refine (grid_moment2.run ps qs P Q cp cq A cap wss L _ (Kd.C_below HP.out HB.out) (gridV_ok D.out.1).2.2.2 (HW.out.below HB.out) D.out.2.1 (gridV_ok D.out.1).1 D.out.2.2 HL.out.2).mono ?_
  rintro e w20 ⟨s20, A20, k20, c20, D20, l20, d20, n20, m20, rfl, hq20, hr20, hm20, hz20, hb⟩
  refine ⟨_, rfl, ?_⟩
  have H21 := Aside0.mk hq20
  have H22 := Aside0.mk hr20
  have F20 := Aside0.mk (And.intro hm20 hz20)
  clear hq20 hr20 hm20 hz20
  replace H5 := As (H5.1.be hb)
  replace H6 := As (H6.1.be hb)
  replace B2 := Bb B2 hb
  replace B4 := Bb B4 hb
  replace B7 := Bb B7 hb
  replace HB := Ob HB hb
  clear hb
  refine hK.out _ _ ⟨Cl0 B2, Cl1 B2, Cl0 B7, Cl1 B7, Cl2 B7⟩ (fun hHeld => ?_)
  clear hK K
  refine norm_ (a' := ?_) ?_ ?_
  rotate_left
  ·
   show Act.put _ (some 20) _ = _
   simp only [Nrm, Option.some.injEq, List.setIfInBounds_toArray, List.set_cons_zero, List.set_cons_succ, i64_w, i32_w]
   rfl
  refine one_ (i := 5) (N := some 23) (Bt 9 63) rfl rfl (by kernel_rfl) (by decide) (fun K hK => ?_)
  refine goes_ Tryz.func82 (by kernel_rfl) rfl #[.agg #[.bool s4, .slice A4 k4 c4, .slice D4 l4 d4], .agg #[.bool s4, .slice A4 k4 c4, .slice D4 l4 d4]] (by rfl) rfl rfl (by (try simp only [List.map_toArray, List.map_cons, List.map_nil]); first | done | rfl) ?_
  with_reducible refine (ratio_Mul.run s4 s4 _ _ _ _ _ _ _ _ _ _ _ _ n4 m4 n4 m4 (L + 130) (L + 30) (L + 130) (L + 30) _ H5.1.na H6.1.na H5.1.na H6.1.na (by have := HL.out; omega)).mono ?_
  rintro e w35 ⟨s35, A35, k35, c35, D35, l35, d35, n35, m35, rfl, hq35, hr35, hm35, hz35, hb⟩
  refine ⟨_, rfl, ?_⟩
  have H36 := Aside0.mk hq35
  have H37 := Aside0.mk hr35
  have F35 := Aside0.mk (And.intro hm35 hz35)
  clear hq35 hr35 hm35 hz35
  replace H5 := As (H5.1.be hb)
  replace H6 := As (H6.1.be hb)
  replace H21 := As (H21.1.be hb)
  replace H22 := As (H22.1.be hb)
  replace B2 := Bb B2 hb
  replace B4 := Bb B4 hb
  replace B7 := Bb B7 hb
  replace HB := Ob HB hb
  clear hb
  refine hK.out _ _ ⟨Cl0 B2, Cl1 B2, Cl0 B7, Cl1 B7, Cl2 B7⟩ (fun hHeld => ?_)
  clear hK K
  refine norm_ (a' := ?_) ?_ ?_
  rotate_left
  ·
   show Act.put _ (some 23) _ = _
   simp only [Nrm, Option.some.injEq, List.setIfInBounds_toArray, List.set_cons_zero, List.set_cons_succ, i64_w, i32_w]
   rfl
  refine one_ (i := 6) (N := some 24) (Bt 9 127) rfl rfl (by kernel_rfl) (by decide) (fun K hK => ?_)
  refine goes_ Tryz.func81 (by kernel_rfl) rfl #[.agg #[.bool s20, .slice A20 k20 c20, .slice D20 l20 d20], .agg #[.bool s35, .slice A35 k35 c35, .slice D35 l35 d35]] (by rfl) rfl rfl (by (try simp only [List.map_toArray, List.map_cons, List.map_nil]); first | done | rfl) ?_
  with_reducible refine (ratio_Sub.run s20 s35 _ _ _ _ _ _ _ _ _ _ _ _ n20 m20 n35 m35 (L + 130) (L + 30) ((L + 130) + (L + 130) + 2) ((L + 30) + (L + 30) + 6) _ H21.1.na H22.1.na H36.1.na H37.1.na (by have := HL.out; omega)).mono ?_
  rintro e w40 ⟨s40, A40, k40, c40, D40, l40, d40, n40, m40, rfl, hq40, hr40, hm40, hz40, hb⟩
  refine ⟨_, rfl, ?_⟩
  have H41 := Aside0.mk hq40
  have H42 := Aside0.mk hr40
  have F40 := Aside0.mk (And.intro hm40 hz40)
  clear hq40 hr40 hm40 hz40
  replace H5 := As (H5.1.be hb)
  replace H6 := As (H6.1.be hb)
  replace H21 := As (H21.1.be hb)
  replace H22 := As (H22.1.be hb)
  replace H36 := As (H36.1.be hb)
  replace H37 := As (H37.1.be hb)
  replace B2 := Bb B2 hb
  replace B4 := Bb B4 hb
  replace B7 := Bb B7 hb
  replace HB := Ob HB hb
  clear hb
  refine hK.out _ _ ⟨Cl0 B2, Cl1 B2, Cl0 B7, Cl1 B7, Cl2 B7⟩ (fun hHeld => ?_)
  clear hK K
  refine norm_ (a' := ?_) ?_ ?_
  rotate_left
  ·
   show Act.put _ (some 24) _ = _
   simp only [Nrm, Option.some.injEq, List.setIfInBounds_toArray, List.set_cons_zero, List.set_cons_succ, i64_w, i32_w]
   rfl
  refine last_ (i := 7) (N := none) (Bt 9 255) rfl rfl (by kernel_rfl) (by decide) (fun K hK => ?_)
  (try clear cb4_0)
  have cb4_0 := Cl0 B4
  (try clear fb4_0)
  have fb4_0 := Fz B4 0
  (try clear cb4_1)
  have cb4_1 := Cl1 B4
  (try clear fb4_1)
  have fb4_1 := Fz B4 1
  (try clear cb4_2)
  have cb4_2 := Cl2 B4
  (try clear fb4_2)
  have fb4_2 := Fz B4 2
  refine skip_ (w1 := ?_) (by rfl) rfl ?_ ?_
  rotate_left
  ·
   go_simp
   rfl
  generalize hw : (((w40.setCell ⟨g4, 0, none⟩ (.bool s40)).setCell ⟨g4, 1, none⟩ (.slice A40 k40 c40)).setCell ⟨g4, 2, none⟩ (.slice D40 l40 d40)) = w45
  replace hw := Eq.symm hw
  have ho : Only w40 w45 g4 := (by rw [hw]; exact Only.setg (Only.setg (Only.setg (Only.refl _ _) 0 _) 1 _) 2 _)
  have hB2 : w45.heap[g4]? = some (.cells #[.bool s40, .slice A40 k40 c40, .slice D40 l40 d40] 34 (0, 0)) := (by rw [hw]; exact (blk_put (blk_put (blk_put B4.out 0 _ rfl) 1 _ rfl) 2 _ rfl))
  replace H5 := As (H5.1.o3 ho B4)
  replace H6 := As (H6.1.o3 ho B4)
  replace H21 := As (H21.1.o3 ho B4)
  replace H22 := As (H22.1.o3 ho B4)
  replace H36 := As (H36.1.o3 ho B4)
  replace H37 := As (H37.1.o3 ho B4)
  replace H41 := As (H41.1.o3 ho B4)
  replace H42 := As (H42.1.o3 ho B4)
  replace B2 := Oo B2 ho NE2_4
  replace B7 := Ou B7 ho NE4_7
  replace HB := Lo HB ho G4
  replace B4 := As hB2
  clear hw ho hB2
  refine hK.out _ _ ?_
  clear hK K
  refine pure_ (i := 8) (N := some 5) (v := ?_) (a' := ?_) (Bt 9 511) rfl rfl (by kernel_rfl) (fun _ _ _ h => h) (Or.inl ⟨by rfl, ?_⟩) ?_ ?_
  rotate_left
  ·
   intro w'
   go_simp
   with_reducible rfl
  rotate_left
  ·
   simp only [Nrm, Option.some.injEq, List.setIfInBounds_toArray, List.set_cons_zero, List.set_cons_succ, i64_w, i32_w]
   rfl
  refine done_ (by kernel_rfl) ?_
  go_wp2
  try simp only [Exit.inBlock, Exit.then]
  refine bodyPost_ret (results_ct rfl _ _ g4 34 #[.bool s40, .slice A40 k40 c40, .slice D40 l40 d40] (0, 0) _ rfl B4.out Tryz.underlying34 rfl (by kernel_rfl)) rfl ?_
  have hL := HL.out
  refine ⟨_, _, _, _, _, _, _, _, _, by rw [E0.out]; rfl, (H41.1).mono (by omega), (H42.1).mono (by omega), F40.out.1, fun _ => ?_, HB.out⟩
  have q1 := F4.out
  have q2 := F20.out
  have q3 := F35.out
  have q4 := F40.out
  rw [pd_of q1.1, pn_of q1.1] at q3
  rw [pd_of q2.1, pd_of q3.1, pn_of q2.1, pn_of q3.1] at q4
  rw [Int.natCast_mul] at q3 q4
  unfold varN varD
  rw [wn_len]
  exact var_cross q1.2 q2.2 q3.2 q4.2 (by have := q1.1; omega) (by have := q2.1; omega) (by have := q3.1; omega)
 ·
  have kg : (cv == 0) = false := by rw [beq_eq_false_iff_ne]; exact cg
  have kgn : (cv != 0) = true := by rw [bne, kg]; rfl
  have E0 := Aside0.mk cg
  clear cg
  go_enter Tryz.func52, Tryz.ntmps52
  go_wp2_with (first | ((with_reducible refine gate_store (t := 34) (p := 4) rfl ?_); refine Sto (t := 34) (p := 4) (by rfl) (.tmp 13) (by rfl) (by rfl) g4 #[.bool s4, .slice A4 k4 c4, .slice D4 l4 d4] (by rfl) (by first | rfl | (go_simp; done) | (go_simp; rfl)) B4 (by kernel_rfl) rfl (by kernel_rfl) ?_; intro w7 ho hB2; replace H5 := As (H5.1.o3 ho B4); replace H6 := As (H6.1.o3 ho B4); replace B2 := Oo B2 ho NE2_4; replace HB := Lo HB ho G4; replace B4 := hB2; clear ho hB2) | (go_at_call 79; (with_reducible refine (grid_whole.run (0) _ (by decide) (by decide)).mono ?_); rintro e w4 ⟨s4, A4, k4, c4, D4, l4, d4, n4, m4, rfl, hq4, hr4, hm4, hz4, hb⟩; have H5 := Aside0.mk hq4; have H6 := Aside0.mk hr4; have F4 := Aside0.mk (And.intro hm4 hz4); clear hq4 hr4 hm4 hz4; replace B2 := Bb B2 hb; replace B4 := Bb B4 hb; replace HB := Ob HB hb; clear hb) | (go_at_call 78; (with_reducible refine (grid_check.run ps qs P Q cp cq A cap wss L _ (Kd.C_below HP.out HB.out) (Kd.C_below HQ.out HB.out) HC.out (HW.out.below HB.out) HL.out.1 (by have := HL.out; omega)).mono ?_); rintro e w3 ⟨rfl, hb⟩; replace B2 := Bb B2 hb; replace B4 := Bb B4 hb; replace HB := Ob HB hb; rw [HG.out]; clear hb) | ((with_reducible refine gate_dst (N := 4) rfl ?_); refine box_event (by rfl) (N := 4) (by rfl) (cs := #[.bool false, .slice none 0 0, .slice none 0 0]) (t := 34) ?hr ?_; (case hr => first | (go_simp; done) | (go_simp; rfl)); intro g4 hgx w2 hbx hb; have B4 := As hbx; have NE2_4 := Nn B2 hgx; have G4 := Gg HB hgx; replace B2 := Bb B2 hb; replace HB := Ob HB hb; clear hbx hb hgx; (try clear cb2_0); have cb2_0 := Cl0 B2; (try clear cb2_1); have cb2_1 := Cl1 B2) | ((with_reducible refine gate_dst (N := 2) rfl ?_); refine box_event (by rfl) (N := 2) (by rfl) (cs := #[.slice P ps.length cp, .slice Q qs.length cq]) (t := 27) ?hr ?_; (case hr => first | (go_simp; done) | (go_simp; rfl)); intro g2 hgx w1 hbx hb; have B2 := As hbx; have G2 := Gg HB hgx; replace HB := Ob HB hb; clear hbx hb hgx))
  try simp only [Exit.inBlock, Exit.then]
  refine bodyPost_ret (results_ct rfl _ _ g4 34 #[.bool s4, .slice A4 k4 c4, .slice D4 l4 d4] (0, 0) _ rfl B4.out Tryz.underlying34 rfl (by kernel_rfl)) rfl ?_
  refine ⟨_, _, _, _, _, _, _, _, _, rfl, (H5.1).mono (by omega), (H6.1).mono (by omega), F4.out.1, fun h => absurd h E0.out, HB.out⟩
theorem estimate_Variance.run (ps qs : List Int) (P Q : Option Addr) (cp cq : Nat) (A : Option Addr) (cap : Nat) (wss : List (List Int)) (L : Nat) (w : World) (hp : Kd.C (Kd.int .i64) w P ps.length ps) (hq : Kd.C (Kd.int .i64) w Q qs.length qs) (hcp : ps.length ≤ cp) (hw : WR w A wss L) (hl : wss.length ≤ 100000000) (hL : L ≤ 1100000) :
  Calls Tryz.prog 34 #[.agg #[.slice P ps.length cp, .slice Q qs.length cq], .slice A wss.length cap] w fun e w' => ∃ u A k c B l d n m, e = .returned (.tuple #[.agg #[.bool u, .slice A k c, .slice B l d], .int .i64 (checkV ps qs (wn wss))]) ∧ NC w' (.slice A k c) n (6 * L + 1000) ∧ NC w' (.slice B l d) m (3 * L + 200) ∧ 0 < m ∧ (checkV ps qs (wn wss) = 0 → zi u n * varD (wn wss) = varN ps (wn wss) * m) ∧ Below w.heap.size w w' := by
 have HP := Aside0.mk hp
 have HQ := Aside0.mk hq
 have HC := Aside0.mk hcp
 have HW := Aside0.mk hw
 have HL := Aside0.mk (And.intro hl hL)
 have HB := Aside0.mk (Below.refl w.heap.size w)
 clear hp hq hcp hw hl hL
 obtain ⟨cv, hcv⟩ : ∃ x, checkV ps qs (wn wss) = x := ⟨_, rfl⟩
 rw [hcv]
 have HG := Aside0.mk hcv
 clear hcv
 go_enter Tryz.func34, Tryz.ntmps34
 go_wp2_with (first | ((with_reducible refine gate_store (t := 34) (p := 4) rfl ?_); refine Sto (t := 34) (p := 4) (by rfl) (.tmp 9) (by rfl) (by rfl) g4 #[.bool s3, .slice A3 k3 c3, .slice D3 l3 d3] (by rfl) (by first | rfl | (go_simp; done) | (go_simp; rfl)) B4 (by kernel_rfl) rfl (by kernel_rfl) ?_; intro w6 ho hB2; replace H4 := As (H4.1.o3 ho B4); replace H5 := As (H5.1.o3 ho B4); replace B2 := Oo B2 ho NE2_4; replace HB := Lo HB ho G4; replace B4 := hB2; clear ho hB2) | (go_at_call 52; (with_reducible refine (grid_Variance.run ps qs P Q cp cq A cap wss L _ (Kd.C_below HP.out HB.out) (Kd.C_below HQ.out HB.out) HC.out (HW.out.below HB.out) HL.out.1 HL.out.2).mono ?_); rintro e w3 ⟨s3, A3, k3, c3, D3, l3, d3, n3, m3, rfl, hq3, hr3, hm3, hz3, hb⟩; have H4 := Aside0.mk hq3; have H5 := Aside0.mk hr3; have F3 := Aside0.mk (And.intro hm3 hz3); clear hq3 hr3 hm3 hz3; replace B2 := Bb B2 hb; replace B4 := Bb B4 hb; replace HB := Ob HB hb; rw [HG.out]; clear hb) | ((with_reducible refine gate_dst (N := 4) rfl ?_); refine box_event (by rfl) (N := 4) (by rfl) (cs := #[.bool false, .slice none 0 0, .slice none 0 0]) (t := 34) ?hr ?_; (case hr => first | (go_simp; done) | (go_simp; rfl)); intro g4 hgx w2 hbx hb; have B4 := As hbx; have NE2_4 := Nn B2 hgx; have G4 := Gg HB hgx; replace B2 := Bb B2 hb; replace HB := Ob HB hb; clear hbx hb hgx; (try clear cb2_0); have cb2_0 := Cl0 B2; (try clear cb2_1); have cb2_1 := Cl1 B2) | ((with_reducible refine gate_dst (N := 2) rfl ?_); refine box_event (by rfl) (N := 2) (by rfl) (cs := #[.slice P ps.length cp, .slice Q qs.length cq]) (t := 27) ?hr ?_; (case hr => first | (go_simp; done) | (go_simp; rfl)); intro g2 hgx w1 hbx hb; have B2 := As hbx; have G2 := Gg HB hgx; replace HB := Ob HB hb; clear hbx hb hgx))
 try simp only [Exit.inBlock, Exit.then]
 refine bodyPost_ret (results_ct rfl _ _ g4 34 #[.bool s3, .slice A3 k3 c3, .slice D3 l3 d3] (0, 0) _ rfl B4.out Tryz.underlying34 rfl (by kernel_rfl)) rfl ?_
 refine ⟨_, _, _, _, _, _, _, _, _, rfl, H4.1, H5.1, F3.out.1, fun h => F3.out.2 (HG.out.trans h), HB.out⟩
end Go.Proofs.YtnmfmiemkcaocaaGreat.Hand
namespace Go.Proofs.YtnmfmiemkcaocaaGreat.Hand
open Go.RowKit Go.Proofs.YtnmfmiemkcaocaaGreatW.PrintWords Go.Proofs.YtnmfmiemkcaocaaGreatW.PrintLast Go.Proofs.YtnmfmiemkcaocaaGreatW.PrintMore
set_option linter.unusedVariables false
set_option linter.unusedSimpArgs false
def estV (ns : List Nat) : Int := if 21 < ns.length then 5 else if ns.sum = 0 then 20 else 0
def reach (part all : Nat) (x y : Int) : Bool := decide (x * (all : Int) ≤ (part : Int) * y)
theorem cmpZ_nonneg {x y : Int} : 0 ≤ cmpZ x y ↔ y ≤ x := by
 rcases cmpZ_cases x y with ⟨h, e⟩ | ⟨h, e⟩ | ⟨h, e⟩ <;> rw [e] <;> constructor <;> intro _ <;> omega
theorem cmpZ_nonpos {x y : Int} : cmpZ x y ≤ 0 ↔ x ≤ y := by
 rcases cmpZ_cases x y with ⟨h, e⟩ | ⟨h, e⟩ | ⟨h, e⟩ <;> rw [e] <;> constructor <;> intro _ <;> omega
theorem cmpZ_pos {x y : Int} : 0 < cmpZ x y ↔ y < x := by
 rcases cmpZ_cases x y with ⟨h, e⟩ | ⟨h, e⟩ | ⟨h, e⟩ <;> rw [e] <;> constructor <;> intro _ <;> omega
theorem frac_le {n m a b x y : Int} (h : n * b = a * m) (hm : 0 < m) (hb : 0 < b) : x * m ≤ n * y ↔ x * b ≤ a * y := by
 constructor
 ·
  intro h1
  have h2 := Int.mul_le_mul_of_nonneg_right h1 (Int.le_of_lt hb)
  have e1 : n * y * b = a * y * m := by grind
  have e2 : x * m * b = x * b * m := by grind
  rw [e1, e2] at h2
  exact Int.le_of_mul_le_mul_right h2 hm
 ·
  intro h1
  have h2 := Int.mul_le_mul_of_nonneg_right h1 (Int.le_of_lt hm)
  have e1 : a * y * m = n * y * b := by grind
  have e2 : x * b * m = x * m * b := by grind
  rw [e1, e2] at h2
  exact Int.le_of_mul_le_mul_right h2 hb
theorem frac_ge {n m a b x y : Int} (h : n * b = a * m) (hm : 0 < m) (hb : 0 < b) : n * y ≤ x * m ↔ a * y ≤ x * b := by
 constructor
 ·
  intro h1
  have h2 := Int.mul_le_mul_of_nonneg_right h1 (Int.le_of_lt hb)
  have e1 : n * y * b = a * y * m := by grind
  have e2 : x * m * b = x * b * m := by grind
  rw [e1, e2] at h2
  exact Int.le_of_mul_le_mul_right h2 hm
 ·
  intro h1
  have h2 := Int.mul_le_mul_of_nonneg_right h1 (Int.le_of_lt hm)
  have e1 : a * y * m = n * y * b := by grind
  have e2 : x * b * m = x * m * b := by grind
  rw [e1, e2] at h2
  exact Int.le_of_mul_le_mul_right h2 hb
theorem estimate_check.run (A : Option Addr) (cap : Nat) (wss : List (List Int)) (L : Nat) (w : World) (hw : WR w A wss L) (hl : wss.length ≤ 100000000) (hL : L ≤ 1100000) :
  Calls Tryz.prog 58 #[.slice A wss.length cap] w fun e w' => e = .returned (.int .i64 (estV (wn wss))) ∧ Below w.heap.size w w' := by
 have HW := Aside0.mk hw
 have HL := Aside0.mk (And.intro hl hL)
 have HB := Aside0.mk (Below.refl w.heap.size w)
 clear hw hl hL
 by_cases c1 : 21 < wss.length
 ·
  have k1 : decide ((21 : Int) < (wss.length : Int)) = true := decide_eq_true (by omega)
  have D := Aside0.mk c1
  clear c1
  go_enter Tryz.func58, Tryz.ntmps58
  go_wp2
  go_ret
  refine ⟨?_, HB.out⟩
  rw [show estV (wn wss) = 5 by unfold estV; rw [wn_len, if_pos D.out]]
  rfl
 ·
  have k1 : decide ((21 : Int) < (wss.length : Int)) = false := decide_eq_false (by omega)
  have D := Aside0.mk (Nat.not_lt.1 c1)
  clear c1
  by_cases c2 : (wn wss).sum = 0
  ·
   have D2 := Aside0.mk c2
   clear c2
   go_enter Tryz.func58, Tryz.ntmps58
   go_wp2_with (first | (go_at_call 65; (with_reducible refine (nat_Bits.run _ (wn wss).sum (L + 2 + wss.length) _ H2.1.na (by have := HL.out; omega)).mono ?_); rintro e w3 ⟨b3, rfl, hw, hi⟩; replace hw := Eq.symm hw; subst hw; have HI3 := Aside0.mk hi; clear hi; have kb3 : (b3 == 0) = true := (by rw [beq_iff_eq]; exact HI3.out.1.2 (D2.out))) | (go_at_call 59; (with_reducible refine (estimate_sum.run A _ wss L _ (HW.out.below HB.out) (by have := HL.out; omega) (by have := HL.out; omega)).mono ?_); rintro e w1 ⟨A1, k1, c1, rfl, hr1, hb⟩; have H2 := Aside0.mk hr1; clear hr1; replace HB := Ob HB hb; clear hb))
   go_ret
   refine ⟨?_, HB.out⟩
   rw [show estV (wn wss) = 20 by unfold estV; rw [wn_len, if_neg (Nat.not_lt.2 D.out), if_pos D2.out]]
   rfl
  ·
   have D2 := Aside0.mk c2
   clear c2
   go_enter Tryz.func58, Tryz.ntmps58
   go_wp2_with (first | (go_at_call 65; (with_reducible refine (nat_Bits.run _ (wn wss).sum (L + 2 + wss.length) _ H2.1.na (by have := HL.out; omega)).mono ?_); rintro e w3 ⟨b3, rfl, hw, hi⟩; replace hw := Eq.symm hw; subst hw; have HI3 := Aside0.mk hi; clear hi; have kb3 : (b3 == 0) = false := (by rw [beq_eq_false_iff_ne]; intro e_; exact (D2.out) (HI3.out.1.1 e_))) | (go_at_call 59; (with_reducible refine (estimate_sum.run A _ wss L _ (HW.out.below HB.out) (by have := HL.out; omega) (by have := HL.out; omega)).mono ?_); rintro e w1 ⟨A1, k1, c1, rfl, hr1, hb⟩; have H2 := Aside0.mk hr1; clear hr1; replace HB := Ob HB hb; clear hb))
   go_ret
   refine ⟨?_, HB.out⟩
   rw [show estV (wn wss) = 0 by unfold estV; rw [wn_len, if_neg (Nat.not_lt.2 D.out), if_neg D2.out]]
   rfl
theorem estimate_reaches.run (A B D E : Option Addr) (s : Bool) (k c l d m1 m2 p1 p2 a b x y L1 L2 L3 L4 : Nat) (w : World) (hv : NA w (.slice A k c) a L1) (hu : NA w (.slice B l d) b L2) (hx : NA w (.slice D m1 m2) x L3) (hy : NA w (.slice E p1 p2) y L4) (hb : 0 < b) (hL : L1 + L2 + L3 + L4 ≤ 30000000) :
  Calls Tryz.prog 60 #[.slice A k c, .slice B l d, .agg #[.bool s, .slice D m1 m2, .slice E p1 p2]] w fun e w' => e = .returned (.bool (reach a b (pn s x y) (pd y))) ∧ Below w.heap.size w w' := by
 have H91 := Aside0.mk hv
 have H92 := Aside0.mk hu
 have H93 := Aside0.mk hx
 have H94 := Aside0.mk hy
 have HP := Aside0.mk hb
 have HL := Aside0.mk hL
 have HB := Aside0.mk (Below.refl w.heap.size w)
 clear hv hu hx hy hb hL
 go_enter Tryz.func60, Tryz.ntmps60
 go_wp2_with (first | (go_at_call 19; (with_reducible refine (ratio_Cmp.run s6 s _ _ _ _ _ _ _ _ _ _ _ _ n6 m6 x y (L1 + 2) (L2 + 2) L3 L4 _ H7.1.na H8.1.na (H93.1.be HB.1) (H94.1.be HB.1) (by have := HL.out; omega)).mono ?_); rintro e w11 ⟨rfl, hb⟩; replace H3 := As (H3.1.be hb); replace H5 := As (H5.1.be hb); replace H7 := As (H7.1.be hb); replace H8 := As (H8.1.be hb); replace B5 := Bb B5 hb; replace B7 := Bb B7 hb; replace HB := Ob HB hb; clear hb) | ((with_reducible refine gate_store (t := 34) (p := 7) rfl ?_); refine Sto (t := 34) (p := 7) (by rfl) (.tmp 15) (by rfl) (by rfl) g7 #[.bool s6, .slice A6 k6 c6, .slice D6 l6 d6] (by rfl) (by first | rfl | (go_simp; done) | (go_simp; rfl)) B7 (by kernel_rfl) rfl (by kernel_rfl) ?_; intro w10 ho hB2; replace H3 := As (H3.1.o3 ho B7); replace H5 := As (H5.1.o3 ho B7); replace H7 := As (H7.1.o3 ho B7); replace H8 := As (H8.1.o3 ho B7); replace B5 := Oo B5 ho NE5_7; replace HB := Lo HB ho G7; replace B7 := hB2; clear ho hB2; (try clear cb7_0); have cb7_0 := Cl0 B7; (try clear cb7_1); have cb7_1 := Cl1 B7; (try clear cb7_2); have cb7_2 := Cl2 B7; (try clear cb5_0); have cb5_0 := Cl0 B5; (try clear cb5_1); have cb5_1 := Cl1 B5; (try clear cb5_2); have cb5_2 := Cl2 B5) | ((with_reducible refine gate_dst (N := 7) rfl ?_); refine box_event (by rfl) (N := 7) (by rfl) (cs := #[.bool false, .slice none 0 0, .slice none 0 0]) (t := 34) ?hr ?_; (case hr => first | (go_simp; done) | (go_simp; rfl)); intro g7 hgx w9 hbx hb; have B7 := As hbx; have NE5_7 := Nn B5 hgx; have G7 := Gg HB hgx; replace H3 := As (H3.1.be hb); replace H5 := As (H5.1.be hb); replace H7 := As (H7.1.be hb); replace H8 := As (H8.1.be hb); replace B5 := Bb B5 hb; replace HB := Ob HB hb; clear hbx hb hgx) | (go_at_call 46; (with_reducible refine (ratio_Make.run s2 s4 _ _ _ _ _ _ a b L1 L2 _ H3.1.na H5.1.na (HP.out) (by have := HL.out; omega)).mono ?_); rintro e w6 ⟨s6, A6, k6, c6, D6, l6, d6, n6, m6, rfl, hq6, hr6, hm6, hz6, hb⟩; have H7 := Aside0.mk hq6; have H8 := Aside0.mk hr6; have F6 := Aside0.mk (And.intro hm6 hz6); clear hq6 hr6 hm6 hz6; replace H3 := As (H3.1.be hb); replace H5 := As (H5.1.be hb); replace B5 := Bb B5 hb; replace HB := Ob HB hb; clear hb) | (go_at_call 69; (with_reducible refine (integer_Make.run _ _ b L2 _ (H92.1.be HB.1) (by have := HL.out; omega)).mono ?_); rintro e w4 ⟨s4, A4, k4, c4, rfl, hr4, hz4, hu4, hb⟩; have H5 := Aside0.mk hr4; have Z4 := Aside0.mk (And.intro hz4 hu4); clear hr4 hz4 hu4; replace H3 := As (H3.1.be hb); replace B5 := Bb B5 hb; replace HB := Ob HB hb; clear hb) | (go_at_call 69; (with_reducible refine (integer_Make.run _ _ a L1 _ (H91.1.be HB.1) (by have := HL.out; omega)).mono ?_); rintro e w2 ⟨s2, A2, k2, c2, rfl, hr2, hz2, hu2, hb⟩; have H3 := Aside0.mk hr2; have Z2 := Aside0.mk (And.intro hz2 hu2); clear hr2 hz2 hu2; replace B5 := Bb B5 hb; replace HB := Ob HB hb; clear hb) | ((with_reducible refine gate_dst (N := 5) rfl ?_); refine box_event (by rfl) (N := 5) (by rfl) (cs := #[.bool s, .slice D m1 m2, .slice E p1 p2]) (t := 34) ?hr ?_; (case hr => first | (go_simp; done) | (go_simp; rfl)); intro g5 hgx w1 hbx hb; have B5 := As hbx; have G5 := Gg HB hgx; replace HB := Ob HB hb; clear hbx hb hgx))
 go_ret
 refine ⟨?_, HB.out⟩
 have hz := F6.out
 rw [Z4.out.1, Z2.out.1, zi_false, zi_false] at hz
 rw [show reach a b (pn s x y) (pd y) = decide (0 ≤ cmpZ (pn s6 n6 m6 * pd y) (pn s x y * pd m6)) by
  unfold reach
  refine decide_eq_decide.2 ?_
  rw [cmpZ_nonneg, pn_of hz.1, pd_of hz.1]
  exact (frac_le hz.2 (by have := hz.1; omega) (by have := HP.out; omega)).symm]
 rfl
end Go.Proofs.YtnmfmiemkcaocaaGreat.Hand
