/- Parts of the proof, joined: Sbt, Abk, Gss, DivP, Div, Gcd, Box, Abb, IntA, IntB. No condition. -/
import Derived.Test.YtnmfmiemkcaocaaGreatQb1
set_option maxHeartbeats 8000000
set_option maxRecDepth 100000
namespace Go.Proofs.YtnmfmiemkcaocaaGreat.Hand
open Go.RowKit Go.Proofs.YtnmfmiemkcaocaaGreatW.PrintWords Go.Proofs.YtnmfmiemkcaocaaGreatW.PrintLast Go.Proofs.YtnmfmiemkcaocaaGreatW.PrintMore
set_option linter.unusedVariables false
set_option linter.unusedSimpArgs false
theorem sbt_step (us ws vs : List Int) (i D C b b1 r S : Nat) (hi : i < vs.length) (hz : i < ws.length) (hu : i < us.length)
  (I : nv (ws.take i) + D * nv (vs.take i) = nv (us.take i) + pw i * (C + b)) (hS : S = C + D * (vs.getD i 0).toNat) (hr : r + b + S % 4294967296 = (us.getD i 0).toNat + 4294967296 * b1) :
  nv ((ws.set i (r : Int)).take (i + 1)) + D * nv (vs.take (i + 1)) = nv (us.take (i + 1)) + pw (i + 1) * (S / 4294967296 + b1) := by
 rw [take_set_self _ _ _ hz, nv_take_succ _ _ hi, nv_take_succ _ _ hu, pw_succ]
 have hd := Nat.div_add_mod S 4294967296
 simp only [Int.toNat_natCast]
 generalize S / 4294967296 = q at *
 generalize S % 4294967296 = s at *
 have e : pw i * r + pw i * b + pw i * s = pw i * (us.getD i 0).toNat + pw i * (4294967296 * b1) := by rw [← Nat.mul_add, ← Nat.mul_add, hr, Nat.mul_add]
 have e2 : pw i * (4294967296 * q) + pw i * s = pw i * C + pw i * (D * (vs.getD i 0).toNat) := by rw [← Nat.mul_add, hd, hS, Nat.mul_add]
 grind
theorem u64_mod (x : Int) : IntKind.u64.wrap x = x % 18446744073709551616 := by
 simp only [IntKind.wrap, IntKind.bits, IntKind.signed]
 simp
structure Only (w w' : World) (g : Nat) : Prop where
 os : w'.os = w.os
 tape : w'.tape = w.tape
 output : w'.output = w.output
 size : w'.heap.size = w.heap.size
 block : ∀ k, k ≠ g → w'.heap[k]? = w.heap[k]?
theorem Only.refl (w : World) (g : Nat) : Only w w g := ⟨rfl, rfl, rfl, rfl, fun _ _ => rfl⟩
theorem Only.set {w W : World} {ad : Addr} (h : Only w W ad.block) (j : Nat) (v : Value) : Only w (W.setCell (ad.add j) v) ad.block := by
 refine ⟨h.os, h.tape, h.output, by simpa [World.setCell] using h.size, fun k hk => ?_⟩
 rw [Below.heap_setCell _ _ _ _ (by rw [add_block]; exact hk)]
 exact h.block k hk
theorem Only.blk {w W : World} {g : Nat} (h : Only w W g) {ad : Addr} {xs : List Int} (hb : Blk w ad xs) (hne : ad.block ≠ g) : Blk W ad xs := ⟨hb.1, hb.2.1, by rw [h.block _ hne]; exact hb.2.2⟩
theorem Only.below {w0 w W : World} {g B : Nat} (h : Only w W g) (hb : Below B w0 w) (hg : B ≤ g) : Below B w0 W :=
 ⟨h.os.trans hb.os, h.tape.trans hb.tape, h.output.trans hb.output, by rw [h.size]; exact hb.size, fun k hk => by rw [h.block k (by omega)]; exact hb.block k hk⟩
theorem Only.drew {w W : World} {g : Nat} (h : Only w W g) (n : Nat) : Only w (W.drewN n) g := ⟨h.os, h.tape, h.output, h.size, h.block⟩
theorem nat_subtract.run (us ws : List Int) (ad av : Addr) (j n cap cv D : Nat) (w : World) (hu : Blk w ad us) (hv : Blk w av ws) (hne : av.block ≠ ad.block) (hj : j + n + 1 ≤ us.length) (hn : n ≤ ws.length) (hgu : Rg us) (hgv : Rg ws) (hD : D < 4294967296) (hL : us.length ≤ 4000000000) (hL2 : ws.length ≤ 4000000000) :
  Calls Tryz.prog 115 #[.slice (some (ad.add j)) (n + 1) cap, .slice (some av) n cv, .int .u64 (D : Int)] w fun e w' => ∃ (bo : Nat) (zs : List Int), e = .returned (.bool (decide (bo = 1))) ∧ bo ≤ 1 ∧ Blk w' ad zs ∧ Only w w' ad.block ∧ Rg zs ∧ zs.length = us.length ∧ zs.take j = us.take j ∧ zs.drop (j + n + 1) = us.drop (j + n + 1) ∧ nv ((zs.drop j).take (n + 1)) + D * nv (ws.take n) = nv ((us.drop j).take (n + 1)) + pw (n + 1) * bo := by
 have X := Aside0.mk (show j + n + 1 ≤ us.length ∧ n ≤ ws.length ∧ Rg us ∧ Rg ws ∧ D < 4294967296 ∧ us.length ≤ 4000000000 ∧ ws.length ≤ 4000000000 ∧ av.block ≠ ad.block from ⟨hj, hn, hgu, hgv, hD, hL, hL2, hne⟩)
 have BU := Aside0.mk hu
 have BV := Aside0.mk hv
 clear hj hn hgu hgv hD hL hL2 hne hu hv
 go_enter Tryz.func115, Tryz.ntmps115
 go_wp2
 go_loopg [7, 8, 15] n (fun kq v7 v8 v15 w' => ∃ (bo C i : Int) (zs : List Int), v7 = .int .u64 bo ∧ v8 = .int .u64 C ∧ v15 = .int .i64 i ∧ Aside0 (i + kq = (n : Int) ∧ kq ≤ n ∧ 0 ≤ bo ∧ bo ≤ 1 ∧ 0 ≤ C ∧ C < 4294967296) ∧ Aside0 (nv ((zs.drop j).take i.toNat) + D * nv (ws.take i.toNat) = nv ((us.drop j).take i.toNat) + pw i.toNat * (C.toNat + bo.toNat) ∧ Rg zs ∧ zs.length = us.length ∧ zs.take j = us.take j ∧ zs.drop (j + i.toNat) = us.drop (j + i.toNat)) ∧ Aside0 (Blk w' ad zs ∧ Blk w' av ws ∧ Only w w' ad.block))
 case atStart => exact ⟨0, 0, 0, us, rfl, rfl, rfl, ⟨by omega, by omega, by omega, by omega, by omega, by omega⟩, ⟨by simp [nv], X.out.2.2.1, rfl, rfl, rfl⟩, ⟨BU.out, BV.out, Only.refl _ _⟩⟩
 case round =>
  obtain ⟨bo, C, i, zs, rfl, rfl, rfl, HI, HN, HW⟩ := hrel
  by_cases ci : i < (n : Int)
  ·
   have d1 : decide (i < (n : Int)) = true := decide_eq_true ci
   have p1 : 0 ≤ i := by have := HI.out; omega
   obtain ⟨g1, hk⟩ : ∃ g1, gk = g1 + 1 := ⟨gk - 1, by have := HI.out; omega⟩
   subst hk
   have hvc := HW.out.2.1.cell i p1 (by have := X.out; omega)
   obtain ⟨p, hpe⟩ : ∃ p, rd ws i = p := ⟨_, rfl⟩
   rw [hpe] at hvc
   have hp0 : 0 ≤ p ∧ p < 4294967296 := by rw [← hpe]; exact X.out.2.2.2.1.rd i
   have hw1 : IntKind.u64.wrap p = p := u64_small p hp0.1 (by omega)
   have hcl := HW.out.1.cellN (j + i.toNat) (by have := HN.out.2.2.1; have := X.out; omega)
   rw [← add_add _ _ _ HW.out.1.2.1] at hcl
   have hfz := HW.out.1.frozen (j + i.toNat)
   rw [← add_add _ _ _ HW.out.1.2.1] at hfz
   obtain ⟨z, hze⟩ : ∃ z, zs.getD (j + i.toNat) 0 = z := ⟨_, rfl⟩
   rw [hze] at hcl
   have hz0 : 0 ≤ z ∧ z < 4294967296 := by rw [← hze]; exact HN.out.2.1.get _
   have hw2 : IntKind.u64.wrap z = z := u64_small z hz0.1 (by omega)
   obtain ⟨Di, hDi⟩ : ∃ Di : Int, Di = (D : Int) := ⟨_, rfl⟩
   obtain ⟨m, hm⟩ : ∃ m, IntKind.u64.wrap ((D : Int) * p) = m := ⟨_, rfl⟩
   obtain ⟨S, hS⟩ : ∃ S, IntKind.u64.wrap (C + m) = S := ⟨_, rfl⟩
   obtain ⟨lo, hlo⟩ : ∃ lo, Go.bits .and .u64 S 4294967295 = lo := ⟨_, rfl⟩
   obtain ⟨t1, ht1⟩ : ∃ t1, IntKind.u64.wrap (z - bo) = t1 := ⟨_, rfl⟩
   obtain ⟨t, ht⟩ : ∃ t, IntKind.u64.wrap (t1 - lo) = t := ⟨_, rfl⟩
   obtain ⟨r, hr⟩ : ∃ r, Go.bits .and .u64 t 4294967295 = r := ⟨_, rfl⟩
   obtain ⟨i1, hi1⟩ : ∃ i1, IntKind.i64.wrap (i + 1) = i1 := ⟨_, rfl⟩
   have E := Aside0.mk (show 0 ≤ i ∧ i < (n : Int) ∧ 0 ≤ p ∧ p < 4294967296 ∧ 0 ≤ z ∧ z < 4294967296 ∧ p = ws.getD i.toNat 0 ∧ z = zs.getD (j + i.toNat) 0 from ⟨p1, ci, hp0.1, hp0.2, hz0.1, hz0.2, hpe.symm, hze.symm⟩)
   clear hp0 hz0 hpe hze ci
   have q1 := eq_true E.out.2.1
   have q2 : (i < (n : Int) + 1) = True := eq_true (by have := E.out.2.1; omega)
   replace p1 := eq_true p1
   go_wp2
   obtain ⟨hi0, ci, hp0, hp1, hz0, hz1, hpe, hze⟩ := E.out
   obtain ⟨hI, hzr, hzl, htk, hdr⟩ := HN.out
   obtain ⟨hik, hkl, hb0, hb1, hC0, hC1⟩ := HI.out
   obtain ⟨hj, hn, hgu, hgv, hD, hL, hL2, hne⟩ := X.out
   have epn : (D : Int) * p = ((D * p.toNat : Nat) : Int) := by rw [Int.natCast_mul, Int.toNat_of_nonneg hp0]
   have hb : D * p.toNat ≤ 4294967295 * 4294967295 := Nat.mul_le_mul (by omega) (by omega)
   have em : m = ((D * p.toNat : Nat) : Int) := by rw [← hm, epn]; exact u64_small _ (by omega) (by omega)
   have eS : S = C + m := by rw [← hS]; exact u64_small _ (by omega) (by omega)
   obtain ⟨T, hT⟩ : ∃ T, T = C.toNat + D * p.toNat := ⟨_, rfl⟩
   have eST : S = (T : Int) := by omega
   have elo : lo = S % 4294967296 := by rw [← hlo]; exact and_low _ (by omega) (by omega)
   rw [u64_mod] at ht1 ht
   have hr2 : r % 4294967296 = t % 4294967296 := by rw [← hr, and_low _ (by omega) (by omega)]; omega
   have hl0 : 0 ≤ lo ∧ lo < 4294967296 := by omega
   obtain ⟨b1, hb1', hbt, hbr⟩ : ∃ b1 : Nat, b1 ≤ 1 ∧ t / 9223372036854775808 = (b1 : Int) ∧ r % 4294967296 + bo + lo = z + 4294967296 * b1 := by
    by_cases hneg : z - bo - lo < 0
    ·
     exact ⟨1, by omega, by omega, by omega⟩
    ·
     exact ⟨0, by omega, by omega, by omega⟩
   have ei1 : i1 = i + 1 := by rw [← hi1, i64_w]; unfold wrap64; omega
   have ei2 : i1.toNat = i.toNat + 1 := by omega
   obtain ⟨r', hr'⟩ : ∃ r' : Nat, r % 4294967296 = (r' : Int) := ⟨(r % 4294967296).toNat, by omega⟩
   have hzu : zs.getD (j + i.toNat) 0 = us.getD (j + i.toNat) 0 := by
    have := congrArg (fun l => l.getD 0 0) hdr
    simpa [List.getD_eq_getElem?_getD, List.getElem?_drop] using this
   have hst := sbt_step (us.drop j) (zs.drop j) ws i.toNat D C.toNat bo.toNat b1 r' T (by omega) (by rw [List.length_drop]; omega) (by rw [List.length_drop]; omega) hI (by rw [← hpe]; exact hT) (by
    have : (us.drop j).getD i.toNat 0 = z := by rw [hze, hzu]; simp [List.getD_eq_getElem?_getD, List.getElem?_drop]
    rw [this]
    omega)
   rw [hr', add_add _ _ _ HW.out.1.2.1]
   have hd4 : S / 4294967296 = ((T / 4294967296 : Nat) : Int) := by omega
   obtain ⟨q, hq⟩ : ∃ q, T / 4294967296 = q := ⟨_, rfl⟩
   have hqb : q < 4294967296 := by omega
   rw [hq] at hd4 hst
   rw [hd4, hbt]
   go_roundg g1
   case measure => omega
   case rel =>
    refine ⟨_, _, i1, zs.set (j + i.toNat) (r' : Int), rfl, rfl, rfl, ⟨by omega, by omega, by omega, by omega, by omega, by omega⟩, ⟨?_, hzr.set _ (by omega) (by omega), by rw [List.length_set]; exact hzl, ?_, ?_⟩, ⟨HW.out.1.set _ _, HW.out.2.1.far _ _ (fun e => hne e.symm), HW.out.2.2.set _ _⟩⟩
    ·
     rw [ei2, List.drop_set, if_neg (by omega), show j + i.toNat - j = i.toNat by omega]
     simpa using hst
    ·
     rw [List.take_set_of_le (by omega)]; exact htk
    ·
     rw [ei2, List.drop_set_of_lt (by omega)]
     have := congrArg (List.drop 1) hdr
     simpa [List.drop_drop, Nat.add_assoc] using this
  ·
   have d1 : decide (i < (n : Int)) = false := decide_eq_false ci
   have ei : i = (n : Int) := by have := HI.out; omega
   subst ei
   have hcl := HW.out.1.cellN (j + n) (by have := HN.out.2.2.1; have := X.out; omega)
   rw [← add_add _ _ _ HW.out.1.2.1] at hcl
   have hfz := HW.out.1.frozen (j + n)
   rw [← add_add _ _ _ HW.out.1.2.1] at hfz
   obtain ⟨z, hze⟩ : ∃ z, zs.getD (j + n) 0 = z := ⟨_, rfl⟩
   rw [hze] at hcl
   have hz0 : 0 ≤ z ∧ z < 4294967296 := by rw [← hze]; exact HN.out.2.1.get _
   have hw2 : IntKind.u64.wrap z = z := u64_small z hz0.1 (by omega)
   obtain ⟨t1, ht1⟩ : ∃ t1, IntKind.u64.wrap (z - bo) = t1 := ⟨_, rfl⟩
   obtain ⟨t, ht⟩ : ∃ t, IntKind.u64.wrap (t1 - C) = t := ⟨_, rfl⟩
   obtain ⟨r, hr⟩ : ∃ r, Go.bits .and .u64 t 4294967295 = r := ⟨_, rfl⟩
   have E := Aside0.mk (And.intro hz0 hze)
   clear hz0 hze ci
   go_wp2
   go_ret
   obtain ⟨⟨hz0, hz1⟩, hze⟩ := E.out
   obtain ⟨hI, hzr, hzl, htk, hdr⟩ := HN.out
   obtain ⟨hik, hkl, hb0, hb1, hC0, hC1⟩ := HI.out
   obtain ⟨hj, hn, hgu, hgv, hD, hL, hL2, hne⟩ := X.out
   rw [u64_mod] at ht1 ht
   have hr2 : r % 4294967296 = t % 4294967296 := by rw [← hr, and_low _ (by omega) (by omega)]; omega
   obtain ⟨b1, hb1', hbt, hbr⟩ : ∃ b1 : Nat, b1 ≤ 1 ∧ t / 9223372036854775808 = (b1 : Int) ∧ r % 4294967296 + bo + C = z + 4294967296 * b1 := by
    by_cases hneg : z - bo - C < 0
    ·
     exact ⟨1, by omega, by omega, by omega⟩
    ·
     exact ⟨0, by omega, by omega, by omega⟩
   obtain ⟨r', hr'⟩ : ∃ r' : Nat, r % 4294967296 = (r' : Int) := ⟨(r % 4294967296).toNat, by omega⟩
   simp only [Int.toNat_natCast] at hI hdr
   have hzu : zs.getD (j + n) 0 = us.getD (j + n) 0 := by
    have := congrArg (fun l => l.getD 0 0) hdr
    simpa [List.getD_eq_getElem?_getD, List.getElem?_drop] using this
   have hw := HW.out.1.set (j + n) (r' : Int)
   rw [← add_add _ _ _ HW.out.1.2.1] at hw
   refine ⟨b1, zs.set (j + n) (r' : Int), ?_, hb1', by rw [hr']; exact hw, by rw [add_add _ _ _ HW.out.1.2.1]; exact HW.out.2.2.set _ _, hzr.set _ (by omega) (by omega), by rw [List.length_set]; exact hzl, by rw [List.take_set_of_le (by omega)]; exact htk, ?_, ?_⟩
   ·
    rw [hbt]
    have e : (((b1 : Int) == 1) : Bool) = decide (b1 = 1) := by
     rcases Nat.lt_or_ge b1 1 with h | h
     ·
      have : b1 = 0 := by omega
      subst this; rfl
     ·
      have : b1 = 1 := by omega
      subst this; rfl
    refine Eq.trans ?_ (congrArg (fun x => Ending.returned (Value.bool x)) e)
    rfl
   ·
    rw [List.drop_set_of_lt (by omega)]
    have := congrArg (List.drop 1) hdr
    simpa [List.drop_drop, Nat.add_assoc] using this
   ·
    rw [List.drop_set, if_neg (by omega), show j + n - j = n by omega, take_set_self _ _ _ (by rw [List.length_drop]; omega), nv_take_succ _ _ (by rw [List.length_drop]; omega), pw_succ]
    have hu : (us.drop j).getD n 0 = z := by rw [← hze, hzu]; simp [List.getD_eq_getElem?_getD, List.getElem?_drop]
    rw [hu]
    simp only [Int.toNat_natCast]
    have e0 : r' + bo.toNat + C.toNat = z.toNat + 4294967296 * b1 := by omega
    have e : pw n * r' + pw n * bo.toNat + pw n * C.toNat = pw n * z.toNat + pw n * (4294967296 * b1) := by rw [← Nat.mul_add, ← Nat.mul_add, e0, Nat.mul_add]
    grind
end Go.Proofs.YtnmfmiemkcaocaaGreat.Hand
namespace Go.Proofs.YtnmfmiemkcaocaaGreat.Hand
open Go.RowKit Go.Proofs.YtnmfmiemkcaocaaGreatW.PrintWords Go.Proofs.YtnmfmiemkcaocaaGreatW.PrintLast Go.Proofs.YtnmfmiemkcaocaaGreatW.PrintMore
set_option linter.unusedVariables false
set_option linter.unusedSimpArgs false
theorem abk_step (us ws vs : List Int) (i C r q : Nat) (hi : i < vs.length) (hz : i < ws.length) (hu : i < us.length)
  (I : nv (ws.take i) + pw i * C = nv (us.take i) + nv (vs.take i)) (hr : r + 4294967296 * q = C + (us.getD i 0).toNat + (vs.getD i 0).toNat) :
  nv ((ws.set i (r : Int)).take (i + 1)) + pw (i + 1) * q = nv (us.take (i + 1)) + nv (vs.take (i + 1)) := by
 rw [take_set_self _ _ _ hz, nv_take_succ _ _ hi, nv_take_succ _ _ hu, pw_succ]
 simp only [Int.toNat_natCast]
 have e : pw i * r + pw i * (4294967296 * q) = pw i * C + pw i * (us.getD i 0).toNat + pw i * (vs.getD i 0).toNat := by rw [← Nat.mul_add, ← Nat.mul_add, ← Nat.mul_add, hr]
 grind
theorem nat_addBack.run (us ws : List Int) (ad av : Addr) (j n cap cv : Nat) (w : World) (hu : Blk w ad us) (hv : Blk w av ws) (hne : av.block ≠ ad.block) (hj : j + n + 1 ≤ us.length) (hn : n ≤ ws.length) (hgu : Rg us) (hgv : Rg ws) (hL : us.length ≤ 4000000000) (hL2 : ws.length ≤ 4000000000) :
  Calls Tryz.prog 116 #[.slice (some (ad.add j)) (n + 1) cap, .slice (some av) n cv] w fun e w' => ∃ (k : Nat) (zs : List Int), k ≤ 1 ∧ (∃ x, e = .returned x) ∧ Blk w' ad zs ∧ Only w w' ad.block ∧ Rg zs ∧ zs.length = us.length ∧ zs.take j = us.take j ∧ zs.drop (j + n + 1) = us.drop (j + n + 1) ∧ nv ((zs.drop j).take (n + 1)) + pw (n + 1) * k = nv ((us.drop j).take (n + 1)) + nv (ws.take n) := by
 have X := Aside0.mk (show j + n + 1 ≤ us.length ∧ n ≤ ws.length ∧ Rg us ∧ Rg ws ∧ us.length ≤ 4000000000 ∧ ws.length ≤ 4000000000 ∧ av.block ≠ ad.block from ⟨hj, hn, hgu, hgv, hL, hL2, hne⟩)
 have BU := Aside0.mk hu
 have BV := Aside0.mk hv
 clear hj hn hgu hgv hL hL2 hne hu hv
 go_enter Tryz.func116, Tryz.ntmps116
 go_wp2
 go_loopg [4, 9] n (fun kq v4 v9 w' => ∃ (C i : Int) (zs : List Int), v4 = .int .u64 C ∧ v9 = .int .i64 i ∧ Aside0 (i + kq = (n : Int) ∧ kq ≤ n ∧ 0 ≤ C ∧ C ≤ 1) ∧ Aside0 (nv ((zs.drop j).take i.toNat) + pw i.toNat * C.toNat = nv ((us.drop j).take i.toNat) + nv (ws.take i.toNat) ∧ Rg zs ∧ zs.length = us.length ∧ zs.take j = us.take j ∧ zs.drop (j + i.toNat) = us.drop (j + i.toNat)) ∧ Aside0 (Blk w' ad zs ∧ Blk w' av ws ∧ Only w w' ad.block))
 case atStart => exact ⟨0, 0, us, rfl, rfl, ⟨by omega, by omega, by omega, by omega⟩, ⟨by simp [nv], X.out.2.2.1, rfl, rfl, rfl⟩, ⟨BU.out, BV.out, Only.refl _ _⟩⟩
 case round =>
  obtain ⟨C, i, zs, rfl, rfl, HI, HN, HW⟩ := hrel
  by_cases ci : i < (n : Int)
  ·
   have d1 : decide (i < (n : Int)) = true := decide_eq_true ci
   have p1 : 0 ≤ i := by have := HI.out; omega
   obtain ⟨g1, hk⟩ : ∃ g1, gk = g1 + 1 := ⟨gk - 1, by have := HI.out; omega⟩
   subst hk
   have hvc := HW.out.2.1.cell i p1 (by have := X.out; omega)
   obtain ⟨p, hpe⟩ : ∃ p, rd ws i = p := ⟨_, rfl⟩
   rw [hpe] at hvc
   have hp0 : 0 ≤ p ∧ p < 4294967296 := by rw [← hpe]; exact X.out.2.2.2.1.rd i
   have hw1 : IntKind.u64.wrap p = p := u64_small p hp0.1 (by omega)
   have hcl := HW.out.1.cellN (j + i.toNat) (by have := HN.out.2.2.1; have := X.out; omega)
   rw [← add_add _ _ _ HW.out.1.2.1] at hcl
   have hfz := HW.out.1.frozen (j + i.toNat)
   rw [← add_add _ _ _ HW.out.1.2.1] at hfz
   obtain ⟨z, hze⟩ : ∃ z, zs.getD (j + i.toNat) 0 = z := ⟨_, rfl⟩
   rw [hze] at hcl
   have hz0 : 0 ≤ z ∧ z < 4294967296 := by rw [← hze]; exact HN.out.2.1.get _
   have hw2 : IntKind.u64.wrap z = z := u64_small z hz0.1 (by omega)
   obtain ⟨m, hm⟩ : ∃ m, IntKind.u64.wrap (z + p) = m := ⟨_, rfl⟩
   obtain ⟨S, hS⟩ : ∃ S, IntKind.u64.wrap (C + m) = S := ⟨_, rfl⟩
   obtain ⟨r, hr⟩ : ∃ r, Go.bits .and .u64 S 4294967295 = r := ⟨_, rfl⟩
   obtain ⟨i1, hi1⟩ : ∃ i1, IntKind.i64.wrap (i + 1) = i1 := ⟨_, rfl⟩
   have E := Aside0.mk (show 0 ≤ i ∧ i < (n : Int) ∧ 0 ≤ p ∧ p < 4294967296 ∧ 0 ≤ z ∧ z < 4294967296 ∧ p = ws.getD i.toNat 0 ∧ z = zs.getD (j + i.toNat) 0 from ⟨p1, ci, hp0.1, hp0.2, hz0.1, hz0.2, hpe.symm, hze.symm⟩)
   clear hp0 hz0 hpe hze ci
   have q1 := eq_true E.out.2.1
   have q2 : (i < (n : Int) + 1) = True := eq_true (by have := E.out.2.1; omega)
   replace p1 := eq_true p1
   go_wp2
   obtain ⟨hi0, ci, hp0, hp1, hz0, hz1, hpe, hze⟩ := E.out
   obtain ⟨hI, hzr, hzl, htk, hdr⟩ := HN.out
   obtain ⟨hik, hkl, hC0, hC1⟩ := HI.out
   obtain ⟨hj, hn, hgu, hgv, hL, hL2, hne⟩ := X.out
   have em : m = z + p := by rw [← hm]; exact u64_small _ (by omega) (by omega)
   have eS : S = C + m := by rw [← hS]; exact u64_small _ (by omega) (by omega)
   have er : r = S % 4294967296 := by rw [← hr]; exact and_low _ (by omega) (by omega)
   have ei1 : i1 = i + 1 := by rw [← hi1, i64_w]; unfold wrap64; omega
   have ei2 : i1.toNat = i.toNat + 1 := by omega
   obtain ⟨r', hr'⟩ : ∃ r' : Nat, r % 4294967296 = (r' : Int) := ⟨(r % 4294967296).toNat, by omega⟩
   obtain ⟨q, hq⟩ : ∃ q : Nat, S / 4294967296 = (q : Int) := ⟨(S / 4294967296).toNat, by omega⟩
   have hzu : zs.getD (j + i.toNat) 0 = us.getD (j + i.toNat) 0 := by
    have := congrArg (fun l => l.getD 0 0) hdr
    simpa [List.getD_eq_getElem?_getD, List.getElem?_drop] using this
   have hst := abk_step (us.drop j) (zs.drop j) ws i.toNat C.toNat r' q (by omega) (by rw [List.length_drop]; omega) (by rw [List.length_drop]; omega) hI (by
    have : (us.drop j).getD i.toNat 0 = z := by rw [hze, hzu]; simp [List.getD_eq_getElem?_getD, List.getElem?_drop]
    rw [this, ← hpe]
    omega)
   rw [hr', add_add _ _ _ HW.out.1.2.1, hq]
   go_roundg g1
   case measure => omega
   case rel =>
    refine ⟨_, i1, zs.set (j + i.toNat) (r' : Int), rfl, rfl, ⟨by omega, by omega, by omega, by omega⟩, ⟨?_, hzr.set _ (by omega) (by omega), by rw [List.length_set]; exact hzl, ?_, ?_⟩, ⟨HW.out.1.set _ _, HW.out.2.1.far _ _ (fun e => hne e.symm), HW.out.2.2.set _ _⟩⟩
    ·
     rw [ei2, List.drop_set, if_neg (by omega), show j + i.toNat - j = i.toNat by omega]
     simpa using hst
    ·
     rw [List.take_set_of_le (by omega)]; exact htk
    ·
     rw [ei2, List.drop_set_of_lt (by omega)]
     have := congrArg (List.drop 1) hdr
     simpa [List.drop_drop, Nat.add_assoc] using this
  ·
   have d1 : decide (i < (n : Int)) = false := decide_eq_false ci
   have ei : i = (n : Int) := by have := HI.out; omega
   subst ei
   have hcl := HW.out.1.cellN (j + n) (by have := HN.out.2.2.1; have := X.out; omega)
   rw [← add_add _ _ _ HW.out.1.2.1] at hcl
   have hfz := HW.out.1.frozen (j + n)
   rw [← add_add _ _ _ HW.out.1.2.1] at hfz
   obtain ⟨z, hze⟩ : ∃ z, zs.getD (j + n) 0 = z := ⟨_, rfl⟩
   rw [hze] at hcl
   have hz0 : 0 ≤ z ∧ z < 4294967296 := by rw [← hze]; exact HN.out.2.1.get _
   have hc1 : C % 4294967296 = C := by have := HI.out; omega
   obtain ⟨t1, ht1⟩ : ∃ t1, IntKind.u32.wrap (z + C) = t1 := ⟨_, rfl⟩
   have E := Aside0.mk (And.intro hz0 hze)
   clear hz0 hze ci
   go_wp2
   refine bodyPost_end (results_none rfl _ _ _) rfl ?_
   obtain ⟨⟨hz0, hz1⟩, hze⟩ := E.out
   obtain ⟨hI, hzr, hzl, htk, hdr⟩ := HN.out
   obtain ⟨hik, hkl, hC0, hC1⟩ := HI.out
   obtain ⟨hj, hn, hgu, hgv, hL, hL2, hne⟩ := X.out
   have et : t1 = (z + C) % 4294967296 := by
    rw [← ht1]
    simp only [IntKind.wrap, IntKind.bits, IntKind.signed]
    simp
   obtain ⟨r', hr'⟩ : ∃ r' : Nat, t1 = (r' : Int) := ⟨t1.toNat, by omega⟩
   obtain ⟨q, hq⟩ : ∃ q : Nat, (z + C) / 4294967296 = (q : Int) := ⟨((z + C) / 4294967296).toNat, by omega⟩
   simp only [Int.toNat_natCast] at hI hdr
   have hzu : zs.getD (j + n) 0 = us.getD (j + n) 0 := by
    have := congrArg (fun l => l.getD 0 0) hdr
    simpa [List.getD_eq_getElem?_getD, List.getElem?_drop] using this
   have hw := HW.out.1.set (j + n) (r' : Int)
   rw [← add_add _ _ _ HW.out.1.2.1] at hw
   refine ⟨q, zs.set (j + n) (r' : Int), by omega, ⟨_, rfl⟩, by rw [hr']; exact hw, by rw [add_add _ _ _ HW.out.1.2.1]; exact HW.out.2.2.set _ _, hzr.set _ (by omega) (by omega), by rw [List.length_set]; exact hzl, by rw [List.take_set_of_le (by omega)]; exact htk, ?_, ?_⟩
   ·
    rw [List.drop_set_of_lt (by omega)]
    have := congrArg (List.drop 1) hdr
    simpa [List.drop_drop, Nat.add_assoc] using this
   ·
    rw [List.drop_set, if_neg (by omega), show j + n - j = n by omega, take_set_self _ _ _ (by rw [List.length_drop]; omega), nv_take_succ _ _ (by rw [List.length_drop]; omega), pw_succ]
    have hu : (us.drop j).getD n 0 = z := by rw [← hze, hzu]; simp [List.getD_eq_getElem?_getD, List.getElem?_drop]
    rw [hu]
    simp only [Int.toNat_natCast]
    have e0 : r' + 4294967296 * q = C.toNat + z.toNat := by omega
    have e : pw n * r' + pw n * (4294967296 * q) = pw n * C.toNat + pw n * z.toNat := by rw [← Nat.mul_add, ← Nat.mul_add, e0]
    grind
end Go.Proofs.YtnmfmiemkcaocaaGreat.Hand
namespace Go.Proofs.YtnmfmiemkcaocaaGreat.Hand
open Go.RowKit Go.Proofs.YtnmfmiemkcaocaaGreatW.PrintWords Go.Proofs.YtnmfmiemkcaocaaGreatW.PrintLast Go.Proofs.YtnmfmiemkcaocaaGreatW.PrintMore
set_option linter.unusedVariables false
set_option linter.unusedSimpArgs false
structure Gs (u3 v2 q : Nat) : Prop where
 lt : q < 4294967296
 le : q * v2 ≤ u3
 top : q = 4294967295 ∨ u3 < (q + 1) * v2
def gsd (u3 v2 : Nat) : Nat := min (u3 / v2) 4294967295
theorem Gs.eq {u3 v2 q : Nat} (h : Gs u3 v2 q) (hv : 0 < v2) : q = gsd u3 v2 := by
 obtain ⟨h1, h2, h3⟩ := h
 have a : q ≤ u3 / v2 := (Nat.le_div_iff_mul_le hv).2 h2
 unfold gsd
 rcases h3 with h3 | h3
 ·
  omega
 ·
  have b : u3 / v2 < q + 1 := (Nat.div_lt_iff_lt_mul hv).2 h3
  omega
theorem gsd_gs (u3 v2 : Nat) (hv : 0 < v2) : Gs u3 v2 (gsd u3 v2) := by
 have a : gsd u3 v2 ≤ u3 / v2 := by unfold gsd; omega
 refine ⟨by unfold gsd; omega, (Nat.le_div_iff_mul_le hv).1 a, ?_⟩
 rcases Nat.lt_or_ge (u3 / v2) 4294967295 with c | c
 ·
  right
  have e : gsd u3 v2 = u3 / v2 := by unfold gsd; omega
  rw [e]
  exact (Nat.div_lt_iff_lt_mul hv).1 (Nat.lt_succ_self _)
 ·
  left
  unfold gsd
  omega
structure Gr (u2 u1 u0 v1 v0 d r : Nat) : Prop where
 eq : d * v1 + r = u2 * 4294967296 + u1
 top : 4294967295 ≤ d ∨ u2 * 4294967296 * 4294967296 + u1 * 4294967296 + u0 < (d + 1) * (v1 * 4294967296 + v0)
theorem Gr.start {u2 u1 u0 v1 v0 d r : Nat} (h1 : u0 < 4294967296) (hv : 0 < v1) (hd : d = (u2 * 4294967296 + u1) / v1) (hr : r = (u2 * 4294967296 + u1) % v1) : Gr u2 u1 u0 v1 v0 d r := by
 have h := Nat.div_add_mod (u2 * 4294967296 + u1) v1
 have hlt := Nat.mod_lt (u2 * 4294967296 + u1) hv
 rw [← hd, ← hr] at h
 rw [← hr] at hlt
 clear hd hr
 refine ⟨by rw [Nat.mul_comm]; exact h, Or.inr ?_⟩
 have e : u2 * 4294967296 * 4294967296 + u1 * 4294967296 = (v1 * d + r) * 4294967296 := by rw [h, Nat.add_mul]
 rw [e]
 have e2 : (d + 1) * (v1 * 4294967296 + v0) = (v1 * d + v1) * 4294967296 + (d + 1) * v0 := by grind
 rw [e2]
 have : (v1 * d + r + 1) * 4294967296 ≤ (v1 * d + v1) * 4294967296 := Nat.mul_le_mul_right _ (by omega)
 omega
theorem Gr.less {u2 u1 u0 v1 v0 d r : Nat} (h : Gr u2 u1 u0 v1 v0 d r) (hd : 0 < d) (c : 4294967295 < d ∨ r * 4294967296 + u0 < d * v0) : Gr u2 u1 u0 v1 v0 (d - 1) (r + v1) := by
 obtain ⟨d, rfl⟩ : ∃ e, d = e + 1 := ⟨d - 1, by omega⟩
 simp only [Nat.add_sub_cancel]
 refine ⟨by have := h.eq; grind, ?_⟩
 rcases c with c | c
 ·
  exact Or.inl (by omega)
 ·
  right
  have e : u2 * 4294967296 * 4294967296 + u1 * 4294967296 = ((d + 1) * v1 + r) * 4294967296 := by rw [h.eq, Nat.add_mul]
  rw [e]
  have e2 : (d + 1) * (v1 * 4294967296 + v0) = (d + 1) * v1 * 4294967296 + (d + 1) * v0 := by grind
  rw [e2, Nat.add_mul, Nat.add_assoc]
  exact Nat.add_lt_add_left c _
theorem Gr.done {u2 u1 u0 v1 v0 d r : Nat} (h : Gr u2 u1 u0 v1 v0 d r) (hd : d < 4294967296) (c : d * v0 ≤ r * 4294967296 + u0) : Gs (u2 * 4294967296 * 4294967296 + u1 * 4294967296 + u0) (v1 * 4294967296 + v0) d := by
 refine ⟨hd, ?_, ?_⟩
 ·
  have e : u2 * 4294967296 * 4294967296 + u1 * 4294967296 = (d * v1 + r) * 4294967296 := by rw [h.eq, Nat.add_mul]
  rw [e]
  have e2 : d * (v1 * 4294967296 + v0) = d * v1 * 4294967296 + d * v0 := by grind
  rw [e2, Nat.add_mul, Nat.add_assoc]
  exact Nat.add_le_add_left c _
 ·
  rcases h.top with t | t
  ·
   exact Or.inl (by omega)
  ·
   exact Or.inr t
theorem Gr.stop {u2 u1 u0 v1 v0 d r : Nat} (h : Gr u2 u1 u0 v1 v0 d r) (hu2 : u2 ≤ v1) (hu1 : u1 < 4294967296) (hv0 : v0 < 4294967296) (hr : 4294967296 ≤ r) : Gs (u2 * 4294967296 * 4294967296 + u1 * 4294967296 + u0) (v1 * 4294967296 + v0) d := by
 have hd : d < 4294967296 := by
  rcases Nat.lt_or_ge d 4294967296 with c | c
  ·
   exact c
  ·
   exfalso
   have a : 4294967296 * v1 ≤ d * v1 := Nat.mul_le_mul_right _ c
   have b : u2 * 4294967296 ≤ v1 * 4294967296 := Nat.mul_le_mul_right _ hu2
   have := h.eq
   omega
 refine h.done hd ?_
 have a : d * v0 ≤ 4294967295 * 4294967295 := Nat.mul_le_mul (by omega) (by omega)
 have b : 4294967296 * 4294967296 ≤ r * 4294967296 := Nat.mul_le_mul_right _ hr
 omega
theorem nat_guess.run (u2 u1 u0 v1 v0 : Nat) (w : World) (h2 : u2 ≤ v1) (h1 : u1 < 4294967296) (h0 : u0 < 4294967296) (hv : 2147483648 ≤ v1) (hv1 : v1 < 4294967296) (hv0 : v0 < 4294967296) :
  Calls Tryz.prog 114 #[.int .u32 (u2 : Int), .int .u32 (u1 : Int), .int .u32 (u0 : Int), .int .u32 (v1 : Int), .int .u32 (v0 : Int)] w fun e w' => e = .returned (.int .u64 (gsd (u2 * 4294967296 * 4294967296 + u1 * 4294967296 + u0) (v1 * 4294967296 + v0) : Int)) ∧ w' = w := by
 obtain ⟨U2, hU2⟩ : ∃ x : Int, x = (u2 : Int) := ⟨_, rfl⟩
 obtain ⟨U1, hU1⟩ : ∃ x : Int, x = (u1 : Int) := ⟨_, rfl⟩
 obtain ⟨U0, hU0⟩ : ∃ x : Int, x = (u0 : Int) := ⟨_, rfl⟩
 obtain ⟨V1, hV1⟩ : ∃ x : Int, x = (v1 : Int) := ⟨_, rfl⟩
 obtain ⟨V0, hV0⟩ : ∃ x : Int, x = (v0 : Int) := ⟨_, rfl⟩
 rw [← hU2, ← hU1, ← hU0, ← hV1, ← hV0]
 have X := Aside0.mk (show u2 ≤ v1 ∧ u1 < 4294967296 ∧ u0 < 4294967296 ∧ 2147483648 ≤ v1 ∧ v1 < 4294967296 ∧ v0 < 4294967296 from ⟨h2, h1, h0, hv, hv1, hv0⟩)
 have Y := Aside0.mk (show U2 = (u2 : Int) ∧ U1 = (u1 : Int) ∧ U0 = (u0 : Int) ∧ V1 = (v1 : Int) ∧ V0 = (v0 : Int) from ⟨hU2, hU1, hU0, hV1, hV0⟩)
 have a2 : IntKind.u64.wrap U2 = U2 := u64_small _ (by omega) (by omega)
 have a1 : IntKind.u64.wrap U1 = U1 := u64_small _ (by omega) (by omega)
 have a0 : IntKind.u64.wrap U0 = U0 := u64_small _ (by omega) (by omega)
 have b1 : IntKind.u64.wrap V1 = V1 := u64_small _ (by omega) (by omega)
 have b0 : IntKind.u64.wrap V0 = V0 := u64_small _ (by omega) (by omega)
 have f2 : (V1 = 0) = False := eq_false (by omega)
 have f3 : (V1 == 0) = false := by rw [beq_eq_false_iff_ne]; omega
 obtain ⟨s0, hs0⟩ : ∃ x, IntKind.u64.wrap (U2 * 4294967296) = x := ⟨_, rfl⟩
 obtain ⟨hd, hhd⟩ : ∃ x, Go.bits .or .u64 s0 U1 = x := ⟨_, rfl⟩
 obtain ⟨q0, hq0⟩ : ∃ x, Int.tdiv hd V1 = x := ⟨_, rfl⟩
 obtain ⟨r0, hr0⟩ : ∃ x, Int.tmod hd V1 = x := ⟨_, rfl⟩
 have es0 : s0 = (u2 : Int) * 4294967296 := by rw [← hs0, hU2]; exact u64_small _ (by omega) (by omega)
 have ehd : hd = ((u2 * 4294967296 + u1 : Nat) : Int) := by rw [← hhd, es0, hU1, or_high u2 u1 (by omega) h1]; omega
 obtain ⟨Q, hQ⟩ : ∃ Q, (u2 * 4294967296 + u1) / v1 = Q := ⟨_, rfl⟩
 obtain ⟨R, hR⟩ : ∃ R, (u2 * 4294967296 + u1) % v1 = R := ⟨_, rfl⟩
 have eq0 : q0 = (Q : Int) := by rw [← hq0, ehd, hV1, ← hQ]; rfl
 have er0 : r0 = (R : Int) := by rw [← hr0, ehd, hV1, ← hR]; rfl
 have hdb : Q ≤ 4294967298 := by
  rw [← hQ]
  apply Nat.le_of_lt_succ
  apply (Nat.div_lt_iff_lt_mul (by omega)).2
  omega
 have hrb : R < v1 := by rw [← hR]; exact Nat.mod_lt _ (by omega)
 have wq0 : IntKind.u64.wrap q0 = q0 := u64_small _ (by omega) (by omega)
 have G0 := Aside0.mk (show Gr u2 u1 u0 v1 v0 q0.toNat r0.toNat ∧ 0 ≤ q0 ∧ q0 ≤ 4294967298 ∧ 0 ≤ r0 ∧ r0 < 4294967296 from ⟨Gr.start h0 (by omega) (by omega) (by omega), by omega, by omega, by omega, by omega⟩)
 clear h2 h1 h0 hv hv1 hv0 hU2 hU1 hU0 hV1 hV0 es0 ehd eq0 er0 hdb hrb hQ hR
 go_enter Tryz.func114, Tryz.ntmps114
 go_wp2
 go_loopg [12, 13] 2 (fun kq v12 v13 w' => ∃ (d r : Int), v12 = .int .u64 d ∧ v13 = .int .u64 r ∧ Aside0 (Gr u2 u1 u0 v1 v0 d.toNat r.toNat ∧ 0 ≤ d ∧ d ≤ 4294967298 ∧ 0 ≤ r ∧ r < 4294967296 ∧ 4294967296 ≤ r + kq * 2147483648) ∧ Aside0 (w' = w))
 case atStart => exact ⟨q0, r0, rfl, rfl, ⟨G0.out.1, G0.out.2.1, G0.out.2.2.1, G0.out.2.2.2.1, G0.out.2.2.2.2, by have := G0.out; omega⟩, ⟨rfl⟩⟩
 case round =>
  obtain ⟨d, r, rfl, rfl, HI, HB⟩ := hrel
  obtain ⟨g1, hk⟩ : ∃ g1, gk = g1 + 1 := ⟨gk - 1, by have := HI.out; omega⟩
  subst hk
  obtain ⟨dv, hdv⟩ : ∃ x, IntKind.u64.wrap (d * V0) = x := ⟨_, rfl⟩
  obtain ⟨rs, hrs⟩ : ∃ x, IntKind.u64.wrap (r * 4294967296) = x := ⟨_, rfl⟩
  obtain ⟨ru, hru⟩ : ∃ x, Go.bits .or .u64 rs U0 = x := ⟨_, rfl⟩
  obtain ⟨d1, hd1⟩ : ∃ x, IntKind.u64.wrap (d - 1) = x := ⟨_, rfl⟩
  obtain ⟨r1, hr1⟩ : ∃ x, IntKind.u64.wrap (r + V1) = x := ⟨_, rfl⟩
  by_cases c1 : 4294967295 < d
  ·
   have k1 : decide (4294967295 < d) = true := decide_eq_true c1
   have Z := Aside0.mk (show d1 = d - 1 ∧ r1 = r + V1 ∧ Gr u2 u1 u0 v1 v0 d1.toNat r1.toNat ∧ 0 ≤ d1 by
    obtain ⟨hg, h0, h1, h2, h3, h4⟩ := HI.out
    obtain ⟨x2, x1, x0, xv, xv1, xv0⟩ := X.out
    obtain ⟨y2, y1, y0, yv1, yv0⟩ := Y.out
    have hd0 : 0 < d.toNat := by omega
    have e1 : d1 = d - 1 := by rw [← hd1]; exact u64_small _ (by omega) (by omega)
    have e2 : r1 = r + V1 := by rw [← hr1]; exact u64_small _ (by omega) (by omega)
    refine ⟨e1, e2, ?_, by omega⟩
    rw [show d1.toNat = d.toNat - 1 by omega, show r1.toNat = r.toNat + v1 by omega]
    exact hg.less hd0 (Or.inl (by omega)))
   by_cases c3 : 4294967295 < r1
   ·
    have k3 : decide (4294967295 < r1) = true := decide_eq_true c3
    clear c1 c3
    go_wp2
    go_ret
    obtain ⟨z1, z2, zg, z0⟩ := Z.out
    obtain ⟨x2, x1, x0, xv, xv1, xv0⟩ := X.out
    have c3 : 4294967295 < r1 := of_decide_eq_true k3
    refine ⟨?_, HB.out⟩
    rw [← (zg.stop x2 x1 xv0 (by omega)).eq (by omega), Int.toNat_of_nonneg z0]
    rfl
   ·
    have k3 : decide (4294967295 < r1) = false := decide_eq_false c3
    have C3 := Aside0.mk c3
    clear c1 c3
    go_wp2
    go_roundg g1
    case measure => omega
    case rel =>
     obtain ⟨z1, z2, zg, z0⟩ := Z.out
     obtain ⟨hg, h0, h1, h2, h3, h4⟩ := HI.out
     obtain ⟨x2, x1, x0, xv, xv1, xv0⟩ := X.out
     obtain ⟨y2, y1, y0, yv1, yv0⟩ := Y.out
     have c3 := C3.out
     exact ⟨d1, r1, rfl, rfl, ⟨zg, by omega, by omega, by omega, by omega, by omega⟩, ⟨HB.out⟩⟩
  ·
   have k1 : decide (4294967295 < d) = false := decide_eq_false c1
   have W := Aside0.mk (show dv = ((d.toNat * v0 : Nat) : Int) ∧ ru = ((r.toNat * 4294967296 + u0 : Nat) : Int) ∧ d ≤ 4294967295 by
    obtain ⟨hg, h0, h1, h2, h3, h4⟩ := HI.out
    obtain ⟨x2, x1, x0, xv, xv1, xv0⟩ := X.out
    obtain ⟨y2, y1, y0, yv1, yv0⟩ := Y.out
    have hb : d.toNat * v0 ≤ 4294967295 * 4294967295 := Nat.mul_le_mul (by omega) (by omega)
    have e1 : d * V0 = ((d.toNat * v0 : Nat) : Int) := by rw [Int.natCast_mul, Int.toNat_of_nonneg h0, yv0]
    have e2 : rs = (r.toNat : Int) * 4294967296 := by rw [← hrs, Int.toNat_of_nonneg h2]; exact u64_small _ (by omega) (by omega)
    refine ⟨by rw [← hdv, e1]; exact u64_small _ (by omega) (by omega), ?_, by omega⟩
    rw [← hru, e2, y0, or_high r.toNat u0 (by omega) x0]
    omega)
   by_cases c2 : ru < dv
   ·
    have k2 : decide (ru < dv) = true := decide_eq_true c2
    have Z := Aside0.mk (show d1 = d - 1 ∧ r1 = r + V1 ∧ Gr u2 u1 u0 v1 v0 d1.toNat r1.toNat ∧ 0 ≤ d1 by
     obtain ⟨hg, h0, h1, h2, h3, h4⟩ := HI.out
     obtain ⟨x2, x1, x0, xv, xv1, xv0⟩ := X.out
     obtain ⟨y2, y1, y0, yv1, yv0⟩ := Y.out
     have hd0 : 0 < d.toNat := by
      have c := c2
      rw [W.out.1, W.out.2.1] at c
      apply Nat.pos_of_ne_zero
      intro e
      rw [e, Nat.zero_mul] at c
      omega
     have e1 : d1 = d - 1 := by rw [← hd1]; exact u64_small _ (by omega) (by omega)
     have e2 : r1 = r + V1 := by rw [← hr1]; exact u64_small _ (by omega) (by omega)
     refine ⟨e1, e2, ?_, by omega⟩
     rw [show d1.toNat = d.toNat - 1 by omega, show r1.toNat = r.toNat + v1 by omega]
     exact hg.less hd0 (Or.inr (by have c := c2; rw [W.out.1, W.out.2.1] at c; omega)))
    by_cases c3 : 4294967295 < r1
    ·
     have k3 : decide (4294967295 < r1) = true := decide_eq_true c3
     clear c1 c2 c3
     go_wp2
     go_ret
     obtain ⟨z1, z2, zg, z0⟩ := Z.out
     obtain ⟨x2, x1, x0, xv, xv1, xv0⟩ := X.out
     have c3 : 4294967295 < r1 := of_decide_eq_true k3
     refine ⟨?_, HB.out⟩
     rw [← (zg.stop x2 x1 xv0 (by omega)).eq (by omega), Int.toNat_of_nonneg z0]
     rfl
    ·
     have k3 : decide (4294967295 < r1) = false := decide_eq_false c3
     have C3 := Aside0.mk c3
     clear c1 c2 c3
     go_wp2
     go_roundg g1
     case measure => omega
     case rel =>
      obtain ⟨z1, z2, zg, z0⟩ := Z.out
      obtain ⟨hg, h0, h1, h2, h3, h4⟩ := HI.out
      obtain ⟨x2, x1, x0, xv, xv1, xv0⟩ := X.out
      obtain ⟨y2, y1, y0, yv1, yv0⟩ := Y.out
      have c3 := C3.out
      exact ⟨d1, r1, rfl, rfl, ⟨zg, by omega, by omega, by omega, by omega, by omega⟩, ⟨HB.out⟩⟩
   ·
    have k2 : decide (ru < dv) = false := decide_eq_false c2
    have C2 := Aside0.mk c2
    clear c1 c2
    go_wp2
    go_ret
    obtain ⟨hg, h0, h1, h2, h3, h4⟩ := HI.out
    have c := C2.out
    rw [W.out.1, W.out.2.1] at c
    have := W.out.2.2
    refine ⟨?_, HB.out⟩
    obtain ⟨x2, x1, x0, xv, xv1, xv0⟩ := X.out
    rw [← (hg.done (by omega) (by omega)).eq (by omega), Int.toNat_of_nonneg h0]
    rfl
end Go.Proofs.YtnmfmiemkcaocaaGreat.Hand
namespace Go.Proofs.YtnmfmiemkcaocaaGreat.Hand
open Go.RowKit Go.Proofs.YtnmfmiemkcaocaaGreatW.PrintWords Go.Proofs.YtnmfmiemkcaocaaGreatW.PrintLast Go.Proofs.YtnmfmiemkcaocaaGreatW.PrintMore
set_option linter.unusedVariables false
set_option linter.unusedSimpArgs false
theorem gs_digit {P U V u3 v2 q ul vl : Nat} (hU : U = u3 * P + ul) (hul : ul < P) (hV : V = v2 * P + vl) (hvl : vl < P) (hv2 : 4294967296 ≤ v2) (hUV : U < V * 4294967296) (g : Gs u3 v2 q) : q * V ≤ U + V ∧ U < (q + 1) * V := by
 obtain ⟨h1, h2, h3⟩ := g
 constructor
 ·
  have e : q * V = q * v2 * P + q * vl := by rw [hV]; grind
  have a : q * v2 * P ≤ u3 * P := Nat.mul_le_mul_right _ h2
  have b : q * vl ≤ 4294967296 * P := Nat.mul_le_mul (by omega) (by omega)
  have c : 4294967296 * P ≤ v2 * P := Nat.mul_le_mul_right _ hv2
  omega
 ·
  rcases h3 with h3 | h3
  ·
   rw [h3, Nat.mul_comm]; exact hUV
  ·
   have a : (u3 + 1) * P ≤ (q + 1) * v2 * P := Nat.mul_le_mul_right _ h3
   have b : (q + 1) * V = (q + 1) * v2 * P + (q + 1) * vl := by rw [hV]; grind
   rw [Nat.add_mul, Nat.one_mul] at a
   omega
theorem div_exact {U U1 V W q : Nat} (h : U1 + q * V = U + W * 0) (hd : U < (q + 1) * V) : U1 + q * V = U ∧ U1 < V := by
 rw [Nat.add_mul, Nat.one_mul] at hd
 omega
theorem div_back {U U1 U2 V W q k : Nat} (h : U1 + q * V = U + W * 1) (h1 : U1 < W) (hd : q * V ≤ U + V) (hk : k ≤ 1) (h2 : U2 + W * k = U1 + V) (hW : U2 < W) : 1 ≤ q ∧ U2 + (q - 1) * V = U ∧ U2 < V := by
 have hq : 1 ≤ q := by
  rcases Nat.eq_zero_or_pos q with h0 | h0
  ·
   subst h0; omega
  ·
   exact h0
 obtain ⟨p, rfl⟩ : ∃ p, q = p + 1 := ⟨q - 1, by omega⟩
 rw [Nat.add_mul, Nat.one_mul] at h hd
 simp only [Nat.add_sub_cancel]
 have : k = 1 := by
  rcases Nat.lt_or_ge k 1 with c | c
  ·
   have : k = 0 := by omega
   subst this
   omega
  ·
   omega
 subst this
 omega
theorem nv_win (us : List Int) (j n : Nat) (h : j + n ≤ us.length) : nv us = nv (us.take j) + pw j * nv ((us.drop j).take n) + pw (j + n) * nv (us.drop (j + n)) := by
 rw [nv_split us j (by omega), nv_split (us.drop j) n (by rw [List.length_drop]; omega), List.drop_drop, pw_add]
 grind
structure Dv (A V X m : Nat) (i : Nat) (us qs : List Int) : Prop where
 rgu : Rg us
 rgq : Rg qs
 ulen : us.length = X + 1
 qlen : qs.length = m + 1
 eq : A = V * nv qs + nv us
 lt : nv us < V * pw i
 zero : ∀ k, k < i → qs.getD k 0 = 0
theorem Dv.win {A V X m j n : Nat} {us qs : List Int} (h : Dv A V X m (j + 1) us qs) (hX : j + n ≤ X) (hV : V < pw n) :
  nv us = nv (us.take j) + pw j * nv ((us.drop j).take (n + 1)) ∧ nv ((us.drop j).take (n + 1)) < V * 4294967296 ∧ nv (us.drop (j + n + 1)) = 0 ∧ nv (us.take j) < pw j := by
 have hl := h.ulen
 have e := nv_win us j (n + 1) (by omega)
 have hlt := h.lt
 have h0 : nv (us.drop (j + (n + 1))) = 0 := by
  rcases Nat.eq_zero_or_pos (nv (us.drop (j + (n + 1)))) with c | c
  ·
   exact c
  ·
   exfalso
   have a : pw (j + (n + 1)) * 1 ≤ pw (j + (n + 1)) * nv (us.drop (j + (n + 1))) := Nat.mul_le_mul_left _ c
   have b : V * pw (j + 1) < pw n * pw (j + 1) := Nat.mul_lt_mul_of_pos_right hV (pw_pos _)
   rw [← pw_add, show n + (j + 1) = j + (n + 1) by omega] at b
   omega
 rw [h0, Nat.mul_zero, Nat.add_zero] at e
 refine ⟨e, ?_, h0, ?_⟩
 ·
  rw [pw_succ, ← Nat.mul_assoc] at hlt
  have : pw j * nv ((us.drop j).take (n + 1)) < pw j * (V * 4294967296) := by rw [Nat.mul_comm (pw j) (V * _)]; omega
  exact Nat.lt_of_mul_lt_mul_left this
 ·
  have := nv_lt (h.rgu.take j)
  rwa [List.length_take, Nat.min_eq_left (by omega)] at this
theorem Dv.next {A V X m j n d : Nat} {us zs qs : List Int} (h : Dv A V X m (j + 1) us qs) (hX : j + n ≤ X) (hV : V < pw n) (hj : j ≤ m) (hd : d < 4294967296)
  (hr : Rg zs) (hzl : zs.length = us.length) (ht : zs.take j = us.take j) (hdr : zs.drop (j + n + 1) = us.drop (j + n + 1))
  (he : nv ((zs.drop j).take (n + 1)) + d * V = nv ((us.drop j).take (n + 1))) (hl : nv ((zs.drop j).take (n + 1)) < V) : Dv A V X m j zs (qs.set j (d : Int)) := by
 obtain ⟨w1, w2, w3, w4⟩ := h.win hX hV
 have hul := h.ulen
 have hql := h.qlen
 have e := nv_win zs j (n + 1) (by omega)
 rw [ht, show j + (n + 1) = j + n + 1 by omega, hdr, w3, Nat.mul_zero, Nat.add_zero] at e
 have hs := nv_set qs j (d : Int) (by omega)
 rw [h.zero j (by omega)] at hs
 simp only [Int.toNat_zero, Nat.mul_zero, Nat.add_zero, Int.toNat_natCast] at hs
 refine ⟨hr, h.rgq.set _ (by omega) (by omega), by omega, by rw [List.length_set]; exact hql, ?_, ?_, fun k hk => ?_⟩
 ·
  rw [h.eq, hs, w1, e, ← he]
  grind
 ·
  rw [e]
  have : pw j * (nv ((zs.drop j).take (n + 1)) + 1) ≤ pw j * V := Nat.mul_le_mul_left _ hl
  rw [Nat.mul_add, Nat.mul_one] at this
  rw [Nat.mul_comm V]
  omega
 ·
  rw [List.getD_eq_getElem?_getD, List.getElem?_set_ne (by omega), ← List.getD_eq_getElem?_getD]
  exact h.zero k (by omega)
theorem top3 (l : List Int) (n : Nat) (h : n + 3 ≤ l.length) (hg : Rg l) : nv (l.take (n + 3)) = ((l.getD (n + 2) 0).toNat * 4294967296 * 4294967296 + (l.getD (n + 1) 0).toNat * 4294967296 + (l.getD n 0).toNat) * pw n + nv (l.take n) ∧ nv (l.take n) < pw n := by
 constructor
 ·
  rw [nv_take_succ l (n + 2) (by omega), nv_take_succ l (n + 1) (by omega), nv_take_succ l n (by omega), pw_succ (n + 1), pw_succ n]
  generalize (l.getD (n + 2) 0).toNat = a
  generalize (l.getD (n + 1) 0).toNat = b
  generalize (l.getD n 0).toNat = c
  grind
 ·
  have := nv_lt (hg.take n)
  rwa [List.length_take, Nat.min_eq_left (by omega)] at this
theorem top2 (l : List Int) (n : Nat) (h : n + 2 ≤ l.length) (hg : Rg l) : nv (l.take (n + 2)) = ((l.getD (n + 1) 0).toNat * 4294967296 + (l.getD n 0).toNat) * pw n + nv (l.take n) ∧ nv (l.take n) < pw n := by
 constructor
 ·
  rw [nv_take_succ l (n + 1) (by omega), nv_take_succ l n (by omega), pw_succ n]
  generalize (l.getD (n + 1) 0).toNat = b
  generalize (l.getD n 0).toNat = c
  grind
 ·
  have := nv_lt (hg.take n)
  rwa [List.length_take, Nat.min_eq_left (by omega)] at this
theorem lenOf_nat {a r : Int} (h : LenOf a r) (hne : a ≠ 0) (h0 : 0 ≤ a) : ∃ R a' : Nat, r = (R : Int) + 1 ∧ a = (a' : Int) ∧ a' + 1 ≤ 2 ^ (R + 1) ∧ 2 ^ R ≤ a' ∧ R ≤ 31 := by
 obtain ⟨r0, r1, r2, r3, r4⟩ := h
 obtain ⟨r5, r6⟩ := r4 hne
 refine ⟨(r - 1).toNat, a.toNat, by omega, by omega, ?_, ?_, by omega⟩
 ·
  rw [show (r - 1).toNat + 1 = r.toNat by omega]
  have : ((a.toNat : Nat) : Int) < ((2 ^ r.toNat : Nat) : Int) := by rw [Int.natCast_pow, Int.toNat_of_nonneg h0]; exact r3
  exact Int.ofNat_lt.1 this
 ·
  rw [show (r - 1).toNat = r.toNat - 1 by omega]
  have : ((2 ^ (r.toNat - 1) : Nat) : Int) ≤ ((a.toNat : Nat) : Int) := by rw [Int.natCast_pow, Int.toNat_of_nonneg h0]; exact r6
  exact Int.ofNat_le.1 this
theorem up_lt {y p a u v : Nat} (h : y < p * (a + 1)) (ha : a + 1 ≤ u) (huv : u * v = 4294967296) (hv : 0 < v) : y * v < 4294967296 * p := by
 have h1 : p * (a + 1) ≤ p * u := Nat.mul_le_mul_left _ ha
 have h2 := Nat.mul_lt_mul_of_pos_right (Nat.lt_of_lt_of_le h h1) hv
 rwa [Nat.mul_assoc, huv, Nat.mul_comm p] at h2
theorem dn_le {y p a u v : Nat} (h : p * a ≤ y) (ha : u ≤ a) (huv : u * v = 2147483648) : p * 2147483648 ≤ y * v := by
 have h1 : p * u ≤ p * a := Nat.mul_le_mul_left _ ha
 have h2 := Nat.mul_le_mul_right v (Nat.le_trans h1 h)
 rwa [Nat.mul_assoc, huv] at h2
theorem top_ge {p B y w t : Nat} (dn : p * B ≤ w) (e : w = y + p * t) (l : y < p) : B ≤ t := by
 have h : p * B < p * (t + 1) := by rw [Nat.mul_add, Nat.mul_one]; omega
 have := Nat.lt_of_mul_lt_mul_left h
 omega
theorem norm_top {ys ws : List Int} {n s : Nat} {r : Int} (hy : Can ys) (hn : ys.length = n + 2) (hr : LenOf (ys.getD (n + 1) 0) r) (hs : s = (32 - r).toNat) (hw : nv ws = nv ys * 2 ^ s) (hg : Rg ws) (hl : ws.length = n + 3) :
  nv (ws.take (n + 2)) = nv ws ∧ nv ws < pw (n + 2) ∧ 2147483648 ≤ (ws.getD (n + 1) 0).toNat ∧ s < 32 := by
 have hay := hy.1.get (n + 1)
 have hne : ys.getD (n + 1) 0 ≠ 0 := by
  have := tl_last ys (by rw [hy.2]; omega)
  rwa [hy.2, hn, show n + 2 - 1 = n + 1 by omega] at this
 obtain ⟨R, a, hR, ha, b1, b2, hR31⟩ := lenOf_nat hr hne hay.1
 have hs32 : s < 32 := by omega
 have hsR : s + R = 31 := by omega
 have e1 := nv_take_succ ys (n + 1) (by omega)
 rw [List.take_of_length_le (by omega), ha, Int.toNat_natCast] at e1
 have e2 := nv_lt (hy.1.take (n + 1))
 rw [List.length_take, Nat.min_eq_left (by omega)] at e2
 have p1 : (2 : Nat) ^ (R + 1) * 2 ^ s = 4294967296 := by rw [← Nat.pow_add, show R + 1 + s = 32 by omega]
 have p2 : (2 : Nat) ^ R * 2 ^ s = 2147483648 := by rw [← Nat.pow_add, show R + s = 31 by omega]
 have hp0 : 0 < 2 ^ s := Nat.pow_pos (by omega)
 have up : nv ws < pw (n + 2) := by
  rw [hw, pw_succ (n + 1)]
  exact up_lt (by rw [Nat.mul_add]; omega) b1 p1 hp0
 have dn : pw (n + 1) * 2147483648 ≤ nv ws := by
  rw [hw]
  exact dn_le (by omega) b2 p2
 clear p1 p2 hp0 b1 b2
 have hg2 := hg.get (n + 2)
 have z : ws.getD (n + 2) 0 = 0 := by
  have e := nv_take_succ ws (n + 2) (by omega)
  rw [List.take_of_length_le (by omega)] at e
  rcases Nat.eq_zero_or_pos (ws.getD (n + 2) 0).toNat with c | c
  ·
   omega
  ·
   exfalso
   have : pw (n + 2) * 1 ≤ pw (n + 2) * (ws.getD (n + 2) 0).toNat := Nat.mul_le_mul_left _ c
   omega
 have full : nv (ws.take (n + 2)) = nv ws := by
  have e := nv_take_succ ws (n + 2) (by omega)
  rw [List.take_of_length_le (by omega), z, Int.toNat_zero, Nat.mul_zero, Nat.add_zero] at e
  exact e.symm
 refine ⟨full, up, ?_, hs32⟩
 have e := nv_take_succ ws (n + 1) (by omega)
 rw [full] at e
 have l := nv_lt (hg.take (n + 1))
 rw [List.length_take, Nat.min_eq_left (by omega)] at l
 exact top_ge dn e l
theorem Dv.start {xs ys us : List Int} {n m s : Nat} (hx : Rg xs) (hy : Can ys) (hn : ys.length = n + 2) (hm : xs.length = m + (n + 2)) (hu : Rg us) (hul : us.length = xs.length + 1) (he : nv us = nv xs * 2 ^ s) :
  Dv (nv xs * 2 ^ s) (nv ys * 2 ^ s) xs.length m (m + 1) us (List.replicate (m + 1) 0) := by
 refine ⟨hu, Rg.zeros _, hul, List.length_replicate, by rw [nv_zeros, he]; omega, ?_, fun k hk => ?_⟩
 ·
  rw [he]
  have h1 := nv_lt hx
  have h2 := tl_ge hy.1 (by rw [hy.2]; omega)
  rw [hy.2, hn, show n + 2 - 1 = n + 1 by omega] at h2
  rw [hm, show m + (n + 2) = (n + 1) + (m + 1) by omega, pw_add] at h1
  have h3 : pw (n + 1) * pw (m + 1) ≤ nv ys * pw (m + 1) := Nat.mul_le_mul_right _ h2
  have h4 : nv xs < nv ys * pw (m + 1) := by omega
  have h5 := Nat.mul_lt_mul_of_pos_right h4 (show 0 < 2 ^ s from Nat.pow_pos (by omega))
  have e : nv ys * pw (m + 1) * 2 ^ s = nv ys * 2 ^ s * pw (m + 1) := by rw [Nat.mul_right_comm]
  omega
 ·
  rw [List.getD_eq_getElem?_getD, List.getElem?_replicate, if_pos (by omega)]; rfl
theorem Dv.done {a b X m s : Nat} {us qs : List Int} (hb : 0 < b) (h : Dv (a * 2 ^ s) (b * 2 ^ s) X m 0 us qs) : nv qs = a / b ∧ nv us / 2 ^ s = a % b ∧ nv us < b * 2 ^ s := by
 have hp : 0 < 2 ^ s := Nat.pow_pos (by omega)
 have e := h.eq
 have l := h.lt
 rw [pw_zero, Nat.mul_one] at l
 have hbp : 0 < b * 2 ^ s := Nat.mul_pos hb hp
 have q1 : a * 2 ^ s / (b * 2 ^ s) = nv qs := by rw [e, Nat.mul_add_div hbp, Nat.div_eq_of_lt l, Nat.add_zero]
 have r1 : a * 2 ^ s % (b * 2 ^ s) = nv us := by rw [e, Nat.mul_add_mod, Nat.mod_eq_of_lt l]
 rw [Nat.mul_div_mul_right _ _ hp] at q1
 rw [Nat.mul_mod_mul_right] at r1
 refine ⟨q1.symm, ?_, l⟩
 rw [← r1, Nat.mul_div_cancel _ hp]
theorem getD_drop (l : List Int) (g k : Nat) : (l.drop g).getD k 0 = l.getD (g + k) 0 := by
 simp [List.getD_eq_getElem?_getD, List.getElem?_drop]
theorem dv_digit {A V X m g n x2 x1 x0 y1 y0 D : Nat} {us qs ws : List Int} (h : Dv A V X m (g + 1) us qs) (hX : g + (n + 2) ≤ X) (hV : V = nv (ws.take (n + 2))) (hVl : V < pw (n + 2)) (hw : Rg ws) (hwl : n + 2 ≤ ws.length)
  (h2 : us.getD (g + n + 2) 0 = (x2 : Int)) (h1 : us.getD (g + n + 1) 0 = (x1 : Int)) (h0 : us.getD (g + n) 0 = (x0 : Int)) (k1 : ws.getD (n + 1) 0 = (y1 : Int)) (k0 : ws.getD n 0 = (y0 : Int)) (hy : 2147483648 ≤ y1)
  (hD : gsd (x2 * 4294967296 * 4294967296 + x1 * 4294967296 + x0) (y1 * 4294967296 + y0) = D) :
  (x2 ≤ y1 ∧ x1 < 4294967296 ∧ x0 < 4294967296 ∧ y1 < 4294967296 ∧ y0 < 4294967296) ∧ D < 4294967296 ∧ D * V ≤ nv ((us.drop g).take (n + 3)) + V ∧ nv ((us.drop g).take (n + 3)) < (D + 1) * V := by
 obtain ⟨w1, w2, w3, w4⟩ := h.win hX hVl
 have hul := h.ulen
 have a1 := h.rgu.get (g + n + 1)
 have a0 := h.rgu.get (g + n)
 have c1 := hw.get (n + 1)
 have c0 := hw.get n
 rw [h1] at a1
 rw [h0] at a0
 rw [k1] at c1
 rw [k0] at c0
 obtain ⟨t1, t2⟩ := top3 (us.drop g) n (by rw [List.length_drop]; omega) (h.rgu.drop g)
 rw [getD_drop, getD_drop, getD_drop, ← Nat.add_assoc, ← Nat.add_assoc, h2, h1, h0] at t1
 simp only [Int.toNat_natCast] at t1
 obtain ⟨s1, s2⟩ := top2 ws n hwl hw
 rw [k1, k0, ← hV] at s1
 simp only [Int.toNat_natCast] at s1
 rw [show n + 2 + 1 = n + 3 by omega] at w2
 have hx : x2 ≤ y1 := by
  have e := nv_take_succ ws (n + 1) (by omega)
  rw [show n + 1 + 1 = n + 2 by omega, ← hV, k1, Int.toNat_natCast] at e
  have l := nv_lt (hw.take (n + 1))
  rw [List.length_take, Nat.min_eq_left (by omega)] at l
  have e2 := nv_take_succ (us.drop g) (n + 2) (by rw [List.length_drop]; omega)
  rw [show n + 2 + 1 = n + 3 by omega, getD_drop, ← Nat.add_assoc, h2, Int.toNat_natCast] at e2
  rw [show n + 2 = (n + 1) + 1 by omega, pw_succ] at e2
  have q : pw (n + 1) * (4294967296 * x2) < pw (n + 1) * (4294967296 * (y1 + 1)) := by
   have r1 : pw (n + 1) * (4294967296 * (y1 + 1)) = (pw (n + 1) * y1 + pw (n + 1)) * 4294967296 := by grind
   have r2 : 4294967296 * pw (n + 1) * x2 = pw (n + 1) * (4294967296 * x2) := by grind
   rw [r1]
   omega
  have := Nat.lt_of_mul_lt_mul_left q
  omega
 refine ⟨⟨hx, by omega, by omega, by omega, by omega⟩, ?_⟩
 have g1 := gsd_gs (x2 * 4294967296 * 4294967296 + x1 * 4294967296 + x0) (y1 * 4294967296 + y0) (by omega)
 rw [hD] at g1
 exact ⟨g1.lt, gs_digit t1 t2 s1 s2 (by omega) w2 g1⟩
end Go.Proofs.YtnmfmiemkcaocaaGreat.Hand
namespace Go.Proofs.YtnmfmiemkcaocaaGreat.Hand
open Go.RowKit Go.Proofs.YtnmfmiemkcaocaaGreatW.PrintWords Go.Proofs.YtnmfmiemkcaocaaGreatW.PrintLast Go.Proofs.YtnmfmiemkcaocaaGreatW.PrintMore
set_option linter.unusedVariables false
set_option linter.unusedSimpArgs false
theorem NC.fit {w : World} {v : Value} {n L L' : Nat} (h : NC w v n L) (hL : n < pw L') : NC w v n L' := by
 obtain ⟨xs, hr, hc, hn, hl⟩ := h
 exact ⟨xs, hr, hc, hn, hc.len (by rw [hn]; exact hL)⟩
theorem Can.rg {xs : List Int} (h : Can xs) : Rg xs := h.1
theorem below_on {w W V : World} (h : Below w.heap.size w W) (k : Below W.heap.size W V) : Below w.heap.size w V := h.trans (k.mono h.size)
theorem NA.ofC {w : World} {A : Option Addr} {xs : List Int} {c n L : Nat} (h : Kd.C (Kd.int .u32) w A xs.length xs) (hc : xs.length = c) (hx : Can xs ∧ nv xs = n ∧ xs.length ≤ L) : NA w (.slice A xs.length c) n L := ⟨xs, ⟨A, c, rfl, by omega, h⟩, hx.1.1, hx.2⟩
theorem Rd.ofC {w : World} {A : Option Addr} {xs : List Int} {c : Nat} (h : Kd.C (Kd.int .u32) w A xs.length xs) (hc : xs.length = c) : Rd w (.slice A xs.length c) xs := ⟨A, c, rfl, by omega, h⟩
theorem lz_wrap {a r : Int} (h : LenOf a r) (ha : a ≠ 0) : ∃ s : Nat, IntKind.u64.wrap (32 - r) = (s : Int) ∧ s = (32 - r).toNat ∧ s < 32 := by
 obtain ⟨r0, r1, r2, r3, r4⟩ := h
 have := (r4 ha).1
 exact ⟨(32 - r).toNat, by rw [u64_small _ (by omega) (by omega)]; omega, rfl, by omega⟩
theorem nat_DivMod.run (v u : Value) (a b L : Nat) (w : World) (hv : NA w v a L) (hu : NA w u b L) (hb : 0 < b) (hL : L ≤ 500000000) :
  Calls Tryz.prog 100 #[v, u] w fun e w' => ∃ q r, e = .returned (.tuple #[q, r, .bool true]) ∧ NC w' q (a / b) L ∧ NC w' r (a % b) L ∧ Below w.heap.size w w' := by
 have BA := Aside0.mk (show a < pw L ∧ b < pw L from ⟨hv.lt, hu.lt⟩)
 obtain ⟨xs0, hr1, hg1, hn1, hl1⟩ := hv
 obtain ⟨ys0, hr2, hg2, hn2, hl2⟩ := hu
 have hlen1 : (xs0.take (tl xs0)).length = tl xs0 := by rw [List.length_take]; have := tl_le xs0; omega
 have hlen2 : (ys0.take (tl ys0)).length = tl ys0 := by rw [List.length_take]; have := tl_le ys0; omega
 obtain ⟨xs, hxs⟩ : ∃ xs, xs0.take (tl xs0) = xs := ⟨_, rfl⟩
 obtain ⟨ys, hys⟩ : ∃ ys, ys0.take (tl ys0) = ys := ⟨_, rfl⟩
 have X := Aside0.mk (show Can xs ∧ nv xs = a ∧ xs.length ≤ L by rw [← hxs]; exact ⟨Can.trim hg1, by rw [nv_trim, hn1], by have := tl_le xs0; omega⟩)
 have Y := Aside0.mk (show Can ys ∧ nv ys = b ∧ ys.length ≤ L by rw [← hys]; exact ⟨Can.trim hg2, by rw [nv_trim, hn2], by have := tl_le ys0; omega⟩)
 rw [hxs] at hlen1
 rw [hys] at hlen2
 have TX := Aside0.mk hlen1
 have TY := Aside0.mk hlen2
 have R1 := Aside0.mk hr1
 have R2 := Aside0.mk hr2
 have HL := Aside0.mk (And.intro hL hb)
 clear hr1 hr2 hg1 hg2 hn1 hn2 hl1 hl2 hL hlen1 hlen2
 have hy0 : ys.length ≠ 0 := by
  intro e
  have := Y.out.1.zero.1 e
  have := HL.out
  have := Y.out
  omega
 have c1 : ((ys.length : Int) == 0) = false := by rw [beq_eq_false_iff_ne]; omega
 by_cases cl : a < b
 ·
  have hc : cmpN a b = -1 := by unfold cmpN; rw [if_pos cl]
  have CL := Aside0.mk (And.intro cl hy0)
  clear cl hy0
  go_enter Tryz.func100, Tryz.ntmps100
  go_wp2_with (first | (go_at_call 96; (with_reducible refine (nat_trim.run' xs0 v _ R1.out).mono ?_); (rintro e w1 ⟨A, rfl, rfl, hc⟩; rw [hxs] at hc ⊢; have H1 := Aside0.mk hc; clear hc)) | (go_at_call 96; (with_reducible refine (nat_trim.run' ys0 u _ R2.out).mono ?_); (rintro e w2 ⟨A2, rfl, rfl, hc⟩; rw [hys] at hc ⊢; have H2 := Aside0.mk hc; clear hc; have N1 := Aside0.mk (NA.ofC H1.out TX.out X.out); have N2 := Aside0.mk (NA.ofC H2.out TY.out Y.out))) | (go_at_call 68; (with_reducible refine (nat_Cmp.run _ _ a b L _ N1.out N2.out (by have := HL.out; omega)).mono ?_); (rintro e w3 ⟨rfl, nd, rfl⟩; rw [hc]; have N3 := Aside0.mk (N1.out.below (below_drewN' _ nd)))) | (go_at_call 98; (with_reducible refine (nat_Norm.run _ a L _ N3.out (by have := HL.out; omega)).mono ?_); (rintro e w4 ⟨r, rfl, hr, hb⟩; have R := Aside0.mk hr; have B := Aside0.mk hb; clear hr hb)))
  go_ret3
  exact ⟨_, _, rfl, by rw [Nat.div_eq_of_lt CL.out.1]; exact NC.of_nil.mono (by omega), by rw [Nat.mod_eq_of_lt CL.out.1]; exact R.out, below_on (below_drewN' _ nd) B.out⟩
 ·
  obtain ⟨kc, hkc⟩ : ∃ k, cmpN a b = k := ⟨_, rfl⟩
  have hk0 : decide (kc < 0) = false := decide_eq_false (by rw [← hkc]; unfold cmpN; split <;> (try split) <;> omega)
  have CL := Aside0.mk (And.intro cl hy0)
  by_cases c2 : ys.length = 1
  ·
   have c3 : ((ys.length : Int) == 1) = true := by rw [c2]; rfl
   have c4 : ((0 : Int) < (ys.length : Int)) = True := eq_true (by omega)
   have c5 : (0 < ys.length) = True := eq_true (by omega)
   have hb0 : rd ys 0 = (b : Int) := by
    obtain ⟨h1, h2, h3⟩ := Y.out
    match ys, c2, h2, h1 with
    | [x], _, h2, h1 =>
     have := h1.1 x (by simp)
     simp only [nv, Nat.mul_zero, Nat.add_zero] at h2
     show x = _
     omega
   have BB := Aside0.mk (show b < 4294967296 by have := (Y.out.1.1.rd 0).2; rw [hb0] at this; omega)
   obtain ⟨m, hm⟩ : ∃ m, a % b = m := ⟨_, rfl⟩
   have hm2 : IntKind.u64.wrap (m : Int) = (m : Int) := u64_small _ (by omega) (by have := Nat.mod_lt a HL.out.2; have := BB.out; omega)
   have MM := Aside0.mk (And.intro hm c2)
   clear cl hy0 c2 hm
   go_enter Tryz.func100, Tryz.ntmps100
   go_wp2_with (first | (go_at_call 96; (with_reducible refine (nat_trim.run' xs0 v _ R1.out).mono ?_); (rintro e w1 ⟨A, rfl, rfl, hc⟩; rw [hxs] at hc ⊢; have H1 := Aside0.mk hc; clear hc)) | (go_at_call 96; (with_reducible refine (nat_trim.run' ys0 u _ R2.out).mono ?_); (rintro e w2 ⟨A2, rfl, rfl, hc⟩; rw [hys] at hc ⊢; have H2 := Aside0.mk hc; clear hc; have N1 := Aside0.mk (NA.ofC H1.out TX.out X.out); have N2 := Aside0.mk (NA.ofC H2.out TY.out Y.out))) | (go_at_call 68; (with_reducible refine (nat_Cmp.run _ _ a b L _ N1.out N2.out (by have := HL.out; omega)).mono ?_); (rintro e w3 ⟨rfl, nd, rfl⟩; rw [hkc]; obtain ⟨ad2, ea2, hy⟩ := Kd.at_int H2.out 0 (Int.le_refl 0) (of_eq_true c4); cases ea2; rw [hb0, show ((0 : Int)).toNat = 0 from rfl, Addr.add_zero'] at hy; have RX := Aside0.mk ((Rd.ofC H1.out TX.out).below (below_drewN' _ nd)))) | (go_at_call 111; (with_reducible refine (nat_divSmall.run xs _ b L _ RX.out (Can.rg X.out.1) X.out.2.2 (by have := HL.out; omega) HL.out.2 BB.out).mono ?_); (rintro e w4 ⟨r, rfl, hr, hb⟩; rw [X.out.2.1] at hr ⊢; rw [MM.out.1]; have RQ := Aside0.mk hr; have B1 := Aside0.mk hb; clear hr hb)) | (go_at_call 67; (with_reducible refine (nat_Of.run m _ (by have := Nat.mod_lt a HL.out.2; have := BB.out; have := MM.out.1; omega)).mono ?_); (rintro e w5 ⟨r2, rfl, hr, hb⟩; have RR := Aside0.mk hr; have B2 := Aside0.mk hb; clear hr hb)))
   go_ret3
   exact ⟨_, _, rfl, RQ.out.below B2.out, by rw [MM.out.1]; exact RR.out.fit (by rw [← MM.out.1]; exact Nat.lt_trans (Nat.mod_lt a HL.out.2) BA.out.2), below_on (below_on (below_drewN' _ nd) B1.out) B2.out⟩
  ·
   have c3 : ((ys.length : Int) == 1) = false := by rw [beq_eq_false_iff_ne]; omega
   obtain ⟨n, hn⟩ : ∃ n, ys.length = n + 2 := ⟨ys.length - 2, by omega⟩
   obtain ⟨m, hm⟩ : ∃ m, xs.length = m + (n + 2) := by
    refine ⟨xs.length - (n + 2), ?_⟩
    rcases Nat.lt_or_ge xs.length ys.length with h | h
    ·
     exact absurd (by rw [← X.out.2.1, ← Y.out.2.1]; exact nv_lt_of_tl X.out.1.1 Y.out.1.1 (by rw [X.out.1.2, Y.out.1.2]; exact h)) cl
    ·
     omega
   obtain ⟨j1, hj1⟩ : ∃ j, IntKind.i64.wrap ((ys.length : Int) - 1) = j := ⟨_, rfl⟩
   obtain ⟨m0, hm0⟩ : ∃ j, IntKind.i64.wrap ((xs.length : Int) - (ys.length : Int)) = j := ⟨_, rfl⟩
   obtain ⟨m1, hm1⟩ : ∃ j, IntKind.i64.wrap (m0 + 1) = j := ⟨_, rfl⟩
   have ej1 : j1 = (n : Int) + 1 := by have := HL.out; have := Y.out.2.2; rw [← hj1, i64_w]; unfold wrap64; omega
   have em0 : m0 = (m : Int) := by have := HL.out; have := X.out.2.2; have := Y.out.2.2; rw [← hm0, i64_w]; unfold wrap64; omega
   have em1 : m1 = ((m + 1 : Nat) : Int) := by have := HL.out; have := X.out.2.2; rw [← hm1, i64_w]; unfold wrap64; omega
   obtain ⟨p, hpe⟩ : ∃ p, rd ys j1 = p := ⟨_, rfl⟩
   have hp0 : 0 ≤ p ∧ p < 4294967296 := by rw [← hpe]; exact Y.out.1.1.rd j1
   have hpg : ys.getD (n + 1) 0 = p := by rw [← hpe, ej1]; rfl
   have hpn : p ≠ 0 := by
    rw [← hpg]
    have := tl_last ys (by rw [Y.out.1.2]; omega)
    rwa [Y.out.1.2, hn, show n + 2 - 1 = n + 1 by omega] at this
   have P := Aside0.mk (show ys.length = n + 2 ∧ xs.length = m + (n + 2) ∧ j1 = (n : Int) + 1 ∧ m0 = (m : Int) ∧ m1 = ((m + 1 : Nat) : Int) ∧ ys.getD (n + 1) 0 = p ∧ p ≠ 0 ∧ 0 ≤ p ∧ p < 4294967296 from ⟨hn, hm, ej1, em0, em1, hpg, hpn, hp0.1, hp0.2⟩)
   have p1 : (0 ≤ j1) = True := eq_true (by omega)
   have q1 : (j1 < (ys.length : Int)) = True := eq_true (by omega)
   clear cl hy0 c2 hn hm ej1 em0 em1 hp0 hpg hpn
   go_enter Tryz.func100, Tryz.ntmps100
   go_wp2_with (first | (go_at_call 96; (with_reducible refine (nat_trim.run' xs0 v _ R1.out).mono ?_); (rintro e w1 ⟨A, rfl, rfl, hc⟩; rw [hxs] at hc ⊢; have H1 := Aside0.mk hc; clear hc)) | (go_at_call 96; (with_reducible refine (nat_trim.run' ys0 u _ R2.out).mono ?_); (rintro e w2 ⟨A2, rfl, rfl, hc⟩; rw [hys] at hc ⊢; have H2 := Aside0.mk hc; clear hc; have N1 := Aside0.mk (NA.ofC H1.out TX.out X.out); have N2 := Aside0.mk (NA.ofC H2.out TY.out Y.out))) | (go_at_call 68; (with_reducible refine (nat_Cmp.run _ _ a b L _ N1.out N2.out (by have := HL.out; omega)).mono ?_); (rintro e w3 ⟨rfl, nd, rfl⟩; rw [hkc]; obtain ⟨ad2, ea2, hy⟩ := Kd.at_int H2.out j1 (of_eq_true p1) (of_eq_true q1); cases ea2; rw [hpe] at hy; have RX := Aside0.mk ((Rd.ofC H1.out TX.out).below (below_drewN' _ nd)); have RY := Aside0.mk ((Rd.ofC H2.out TY.out).below (below_drewN' _ nd)))) | (go_at_call 112; (with_reducible refine (bits_LeadingZeros32.run p P.out.2.2.2.2.2.2.2.1 P.out.2.2.2.2.2.2.2.2 _).mono ?_); (rintro e w4 ⟨r, rfl, hr, rfl⟩; obtain ⟨s, hs1, hs2, hs3⟩ := lz_wrap hr P.out.2.2.2.2.2.2.1; have HS := Aside0.mk (And.intro hr (And.intro hs2 hs3)); clear hr hs2 hs3)) | (go_at_call 113; (with_reducible refine (nat_shiftUp.run xs _ s _ RX.out (Can.rg X.out.1) HS.out.2.2 (by have := HL.out; have := X.out.2.2; omega)).mono ?_); (rintro e w5 ⟨ad, us, rfl, hb1, hb2, hb3, hb4, hb5, hb6⟩; have BU := Aside0.mk hb1; have UU := Aside0.mk (And.intro hb2 (And.intro hb3 (And.intro hb4 hb6))); have B1 := Aside0.mk hb5; clear hb1 hb2 hb3 hb4 hb5 hb6; have RY2 := Aside0.mk (RY.out.below B1.out))) | (go_at_call 113; (with_reducible refine (nat_shiftUp.run ys _ s _ RY2.out (Can.rg Y.out.1) HS.out.2.2 (by have := HL.out; have := Y.out.2.2; omega)).mono ?_); (rintro e w6 ⟨av, ws, rfl, hb1, hb2, hb3, hb4, hb5, hb6⟩; have BV := Aside0.mk hb1; have VV := Aside0.mk (And.intro hb2 (And.intro hb3 (And.intro hb4 hb6))); have B2 := Aside0.mk hb5; clear hb1 hb2 hb3 hb4 hb5 hb6; have BU2 := Aside0.mk (BU.out.below B2.out))) | ((with_reducible refine gate_dst (N := 71) rfl ?_); refine ev_make rfl _ _ rfl m1 m1 (m + 1) (m + 1) rfl rfl P.out.2.2.2.2.1 P.out.2.2.2.2.1 (Nat.le_refl _) (by have := P.out; have := X.out.2.2; have := HL.out; omega) ?_; intro aq w7 hb1 hb2 hb3; have BQ := Aside0.mk hb1; have HB := Aside0.mk hb2; have HA := Aside0.mk hb3; clear hb1 hb2 hb3))
   have NT := Aside0.mk (norm_top Y.out.1 P.out.1 (by rw [P.out.2.2.2.2.2.1]; exact HS.out.1) HS.out.2.1 VV.out.2.2.1 VV.out.1 (by have := VV.out.2.1; have := P.out.1; omega))
   have HX := Aside0.mk (show w2.heap.size ≤ ad.block ∧ ad.block ≠ av.block ∧ ad.block ≠ aq.block ∧ av.block ≠ aq.block ∧ w2.heap.size ≤ av.block ∧ w2.heap.size ≤ aq.block by
    have h1 := UU.out.2.2.2
    have h2 := VV.out.2.2.2
    have h3 := HA.out
    have h4 := BU.out.lt
    have h5 := BU2.out.lt
    have h6 := BV.out.lt
    have h7 : w2.heap.size ≤ (w2.drewN nd).heap.size := Nat.le_refl _
    refine ⟨by omega, by omega, by omega, by omega, by omega, by omega⟩)
   have HB0 := Aside0.mk (below_on (below_on (below_on (below_drewN' w2 nd) B1.out) B2.out) HB.out)
   have DS := Aside0.mk (Dv.start (s := s) (Can.rg X.out.1) Y.out.1 P.out.1 P.out.2.1 UU.out.1 UU.out.2.1 UU.out.2.2.1)
   go_loopg [16] (m + 1) (fun kq v16 w' => ∃ (j : Int) (us qs : List Int), v16 = .int .i64 j ∧ Aside0 (j = (kq : Int) - 1 ∧ kq ≤ m + 1) ∧ Aside0 (Dv (nv xs * 2 ^ s) (nv ys * 2 ^ s) xs.length m kq us qs) ∧ Aside0 (Blk w' ad us ∧ Blk w' av ws ∧ Blk w' aq qs) ∧ Aside0 (Below w2.heap.size w2 w'))
   case atStart => exact ⟨m0, us, _, rfl, ⟨by have := P.out; omega, by omega⟩, DS, ⟨BU2.out.below HB.out, BV.out.below HB.out, BQ.out⟩, HB0⟩
   case round =>
    obtain ⟨j, us, qs, rfl, HJ, HD, HW, HBl⟩ := hrel
    by_cases cj : 0 ≤ j
    ·
     have d1 : decide (0 ≤ j) = true := decide_eq_true cj
     obtain ⟨g, hg⟩ : ∃ g, gk = g + 1 := ⟨gk - 1, by have := HJ.out; omega⟩
     subst hg
     have ej : j = (g : Int) := by have := HJ.out; omega
     subst ej
     obtain ⟨a0, ha0⟩ : ∃ x, IntKind.i64.wrap ((g : Int) + (ys.length : Int)) = x := ⟨_, rfl⟩
     obtain ⟨a1, ha1⟩ : ∃ x, IntKind.i64.wrap (a0 - 1) = x := ⟨_, rfl⟩
     obtain ⟨a2, ha2⟩ : ∃ x, IntKind.i64.wrap (a0 - 2) = x := ⟨_, rfl⟩
     obtain ⟨a3, ha3⟩ : ∃ x, IntKind.i64.wrap (a0 + 1) = x := ⟨_, rfl⟩
     obtain ⟨j2, hj2⟩ : ∃ x, IntKind.i64.wrap ((ys.length : Int) - 2) = x := ⟨_, rfl⟩
     obtain ⟨g1, hg1⟩ : ∃ x, IntKind.i64.wrap ((g : Int) - 1) = x := ⟨_, rfl⟩
     have EA := Aside0.mk (show a0 = (g : Int) + n + 2 ∧ a1 = (g : Int) + n + 1 ∧ a2 = (g : Int) + n ∧ a3 = (g : Int) + n + 3 ∧ j2 = (n : Int) ∧ g1 = (g : Int) - 1 ∧ g ≤ m by
      have h1 := P.out
      have h2 := HL.out
      have h3 := X.out.2.2
      have h4 := Y.out.2.2
      have h5 := HJ.out
      have e0 : a0 = (g : Int) + n + 2 := by rw [← ha0, i64_w]; unfold wrap64; omega
      refine ⟨e0, by rw [← ha1, i64_w]; unfold wrap64; omega, by rw [← ha2, i64_w]; unfold wrap64; omega, by rw [← ha3, i64_w]; unfold wrap64; omega, by rw [← hj2, i64_w]; unfold wrap64; omega, by rw [← hg1, i64_w]; unfold wrap64; omega, by omega⟩)
     obtain ⟨x2, hx2⟩ : ∃ x : Nat, us.getD (g + n + 2) 0 = (x : Int) := ⟨_, (Int.toNat_of_nonneg (HD.out.rgu.get _).1).symm⟩
     obtain ⟨x1, hx1⟩ : ∃ x : Nat, us.getD (g + n + 1) 0 = (x : Int) := ⟨_, (Int.toNat_of_nonneg (HD.out.rgu.get _).1).symm⟩
     obtain ⟨x0, hx0⟩ : ∃ x : Nat, us.getD (g + n) 0 = (x : Int) := ⟨_, (Int.toNat_of_nonneg (HD.out.rgu.get _).1).symm⟩
     obtain ⟨y1, hy1⟩ : ∃ x : Nat, ws.getD (n + 1) 0 = (x : Int) := ⟨_, (Int.toNat_of_nonneg (VV.out.1.get _).1).symm⟩
     obtain ⟨y0, hy0⟩ : ∃ x : Nat, ws.getD n 0 = (x : Int) := ⟨_, (Int.toNat_of_nonneg (VV.out.1.get _).1).symm⟩
     have hc2 := HW.out.1.cellN (g + n + 2) (by have := HD.out.ulen; have := P.out; have := EA.out; omega)
     have hc1 := HW.out.1.cellN (g + n + 1) (by have := HD.out.ulen; have := P.out; have := EA.out; omega)
     have hc0 := HW.out.1.cellN (g + n) (by have := HD.out.ulen; have := P.out; have := EA.out; omega)
     have hv1 := HW.out.2.1.cellN (n + 1) (by have := VV.out.2.1; have := P.out; omega)
     have hv0 := HW.out.2.1.cellN n (by have := VV.out.2.1; have := P.out; omega)
     rw [hx2, show g + n + 2 = a0.toNat by have := EA.out; omega] at hc2
     rw [hx1, show g + n + 1 = a1.toNat by have := EA.out; omega] at hc1
     rw [hx0, show g + n = a2.toNat by have := EA.out; omega] at hc0
     rw [hy1, show n + 1 = j1.toNat by have := P.out; omega] at hv1
     rw [hy0, show n = j2.toNat by have := EA.out; omega] at hv0
     have ZZ := Aside0.mk (And.intro hx2 (And.intro hx1 (And.intro hx0 (And.intro hy1 hy0))))
     clear hx2 hx1 hx0 hy1 hy0 cj
     have b0 : (0 ≤ a0) = True := eq_true (by have := EA.out; omega)
     have b1 : (0 ≤ a1) = True := eq_true (by have := EA.out; omega)
     have b2 : (0 ≤ a2) = True := eq_true (by have := EA.out; omega)
     have t0 : (a0 < (xs.length : Int) + 1) = True := eq_true (by have := EA.out; have := P.out; omega)
     have t1 : (a1 < (xs.length : Int) + 1) = True := eq_true (by have := EA.out; have := P.out; omega)
     have t2 : (a2 < (xs.length : Int) + 1) = True := eq_true (by have := EA.out; have := P.out; omega)
     have b3 : (0 ≤ j2) = True := eq_true (by have := EA.out; omega)
     have t3 : (j2 < (ys.length : Int)) = True := eq_true (by have := EA.out; have := P.out; omega)
     have f1 : (0 ≤ a3) = True := eq_true (by have := EA.out; omega)
     have f2 : (a3 ≤ (xs.length : Int) + 1) = True := eq_true (by have := EA.out; have := P.out; omega)
     have f3 : (g ≤ a3.toNat) = True := eq_true (by have := EA.out; omega)
     have f3' : ((g : Int) ≤ a3) = True := eq_true (by have := EA.out; omega)
     have f4 : (xs.length + 1 = g) = False := eq_false (by have := EA.out; have := P.out; omega)
     have f5 : a3.toNat - g = ys.length + 1 := by have := EA.out; have := P.out; omega
     obtain ⟨D, hD⟩ : ∃ D, gsd (x2 * 4294967296 * 4294967296 + x1 * 4294967296 + x0) (y1 * 4294967296 + y0) = D := ⟨_, rfl⟩
     have hy1b : 2147483648 ≤ y1 := by have := NT.out.2.2.1; rw [ZZ.out.2.2.2.1, Int.toNat_natCast] at this; exact this
     have W4 := Aside0.mk (dv_digit (V := nv ys * 2 ^ s) HD.out (by have := EA.out; have := P.out; omega) (by rw [NT.out.1]; exact VV.out.2.2.1.symm) (by rw [← VV.out.2.2.1]; exact NT.out.2.1) VV.out.1 (by have := VV.out.2.1; have := P.out; omega) ZZ.out.1 ZZ.out.2.1 ZZ.out.2.2.1 ZZ.out.2.2.2.1 ZZ.out.2.2.2.2 hy1b hD)
     have W3 := Aside0.mk (show x2 ≤ y1 ∧ x1 < 4294967296 ∧ x0 < 4294967296 ∧ 2147483648 ≤ y1 ∧ y1 < 4294967296 ∧ y0 < 4294967296 from ⟨W4.out.1.1, W4.out.1.2.1, W4.out.1.2.2.1, hy1b, W4.out.1.2.2.2.1, W4.out.1.2.2.2.2⟩)
     clear hy1b
     have T := Aside0.mk (show ∀ W, Calls Tryz.prog 114 #[.int .u32 (x2 : Int), .int .u32 (x1 : Int), .int .u32 (x0 : Int), .int .u32 (y1 : Int), .int .u32 (y0 : Int)] W fun e w' => e = .returned (.int .u64 (D : Int)) ∧ w' = W by
      intro W
      rw [← hD]
      obtain ⟨z1, z2, z3, z4, z5, z6⟩ := W3.out
      exact nat_guess.run x2 x1 x0 y1 y0 W z1 z2 z3 z4 z5 z6)
     have DD := Aside0.mk hD
     clear hD
     go_wp2
     go_quiet ((go_at_call 114; refine Calls.quiet_of_same (T.out _)))
     obtain ⟨d2, hd2⟩ : ∃ x, IntKind.u64.wrap ((D : Int) - 1) = x := ⟨_, rfl⟩
     have gm1 : (g < m + 1) = True := eq_true (by have := EA.out; omega)
     have gm2 : ((g : Int) < (m : Int) + 1) = True := eq_true (by have := EA.out; omega)
     have SL := Aside0.mk (show g + ys.length + 1 ≤ us.length ∧ ys.length ≤ ws.length ∧ us.length ≤ 4000000000 ∧ ws.length ≤ 4000000000 by
      have := EA.out; have := P.out; have := HD.out.ulen; have := VV.out.2.1; have := X.out.2.2; have := HL.out
      refine ⟨by omega, by omega, by omega, by omega⟩)
     go_wp2_with (first | (go_at_call 115; (with_reducible refine (nat_subtract.run us ws ad av g ys.length _ _ D _ (HW.out.1.drewN nq) (HW.out.2.1.drewN nq) (Ne.symm HX.out.2.1) SL.out.1 SL.out.2.1 HD.out.rgu VV.out.1 W4.out.2.1 SL.out.2.2.1 SL.out.2.2.2).mono ?_); (rintro e w8 ⟨bo, zs, rfl, hb1, hb2, hb3, hb4, hb5, hb6, hb7, hb8⟩; have SZ := Aside0.mk (And.intro hb2 (And.intro hb3 (And.intro hb4 (And.intro hb5 (And.intro hb6 (And.intro hb7 hb8)))))); clear hb2 hb3 hb4 hb5 hb6 hb7 hb8; have OQ := Aside0.mk (SZ.out.2.1.blk (HW.out.2.2.drewN nq) (Ne.symm HX.out.2.2.1)); have OV := Aside0.mk (SZ.out.2.1.blk (HW.out.2.1.drewN nq) (Ne.symm HX.out.2.1)); have hqc := OQ.out.cellN g (by have := HD.out.qlen; have := EA.out; omega); have hqf := OQ.out.frozen g; rcases (show bo = 0 ∨ bo = 1 by omega) with rfl | rfl)) | (go_at_call 116; (with_reducible refine (nat_addBack.run zs ws ad av g ys.length _ _ _ SZ.out.1 OV.out (Ne.symm HX.out.2.1) (by have := SZ.out.2.2.2.1; have := SL.out; omega) SL.out.2.1 SZ.out.2.2.1 VV.out.1 (by have := SZ.out.2.2.2.1; have := SL.out; omega) SL.out.2.2.2).mono ?_); (rintro e w9 ⟨k, ts, hb1, ⟨ex, rfl⟩, hb2, hb3, hb4, hb5, hb6, hb7, hb8⟩; have ST := Aside0.mk (And.intro hb1 (And.intro hb2 (And.intro hb3 (And.intro hb4 (And.intro hb5 (And.intro hb6 (And.intro hb7 hb8))))))); clear hb1 hb2 hb3 hb4 hb5 hb6 hb7 hb8; have OQ2 := Aside0.mk (ST.out.2.2.1.blk OQ.out (Ne.symm HX.out.2.2.1)); clear hqc hqf; have hqc := OQ2.out.cellN g (by have := HD.out.qlen; have := EA.out; omega); have hqf := OQ2.out.frozen g)))
     ·
      obtain ⟨s1, s2, s3, s4, s5, s6, s7⟩ := SZ.out
      have hN := P.out.1
      have hDl := W4.out.2.1
      rw [hN, NT.out.1, VV.out.2.2.1] at s7
      rw [hN] at s6
      have hx := div_exact s7 W4.out.2.2.2
      rw [show ((D : Int) % 4294967296) = (D : Int) by omega]
      go_roundg g
      case measure => omega
      case rel => exact ⟨g1, zs, qs.set g (D : Int), rfl, ⟨by have := EA.out; omega, by have := EA.out; omega⟩, ⟨HD.out.next (n := n + 2) (by have := EA.out; have := P.out; omega) (by rw [← VV.out.2.2.1]; exact NT.out.2.1) EA.out.2.2.2.2.2.2 hDl s3 s4 s5 s6 hx.1 hx.2⟩, ⟨s1.far _ _ (Ne.symm HX.out.2.2.1), OV.out.far _ _ (Ne.symm HX.out.2.2.2.1), OQ.out.set _ _⟩, ⟨below_setA (s2.below (pw_below_drewN HBl.out _) HX.out.1) HX.out.2.2.2.2.2 _ _⟩⟩
     ·
      obtain ⟨s1, s2, s3, s4, s5, s6, s7⟩ := SZ.out
      obtain ⟨k1, k2, k3, k4, k5, k6, k7, k8⟩ := ST.out
      have hN := P.out.1
      have hDl := W4.out.2.1
      rw [hN, NT.out.1, VV.out.2.2.1] at s7 k8
      rw [hN] at s6 k7
      have hpz := nv_lt (s3.drop g |>.take (n + 2 + 1))
      have hpt := nv_lt (k4.drop g |>.take (n + 2 + 1))
      have hsl := SL.out
      rw [List.length_take, List.length_drop, Nat.min_eq_left (by omega)] at hpz hpt
      have hx := div_back s7 hpz W4.out.2.2.1 k1 k8 hpt
      have ed : d2 = ((D - 1 : Nat) : Int) := by rw [← hd2, u64_small _ (by omega) (by omega)]; omega
      rw [show (d2 % 4294967296) = ((D - 1 : Nat) : Int) by omega]
      go_roundg g
      case measure => omega
      case rel => exact ⟨g1, ts, qs.set g ((D - 1 : Nat) : Int), rfl, ⟨by have := EA.out; omega, by have := EA.out; omega⟩, ⟨HD.out.next (n := n + 2) (by have := EA.out; have := P.out; omega) (by rw [← VV.out.2.2.1]; exact NT.out.2.1) EA.out.2.2.2.2.2.2 (by omega) k4 (by omega) (by rw [k6, s5]) (by rw [k7, s6]) hx.2.1 hx.2.2⟩, ⟨k2.far _ _ (Ne.symm HX.out.2.2.1), (k3.blk OV.out (Ne.symm HX.out.2.1)).far _ _ (Ne.symm HX.out.2.2.2.1), OQ2.out.set _ _⟩, ⟨below_setA (k3.below (s2.below (pw_below_drewN HBl.out _) HX.out.1) HX.out.1) HX.out.2.2.2.2.2 _ _⟩⟩
    ·
     have d1 : decide (0 ≤ j) = false := decide_eq_false cj
     have h0 : gk = 0 := by have := HJ.out; omega
     subst h0
     have DE := Aside0.mk (Dv.done HL.out.2 (by rw [X.out.2.1, Y.out.2.1] at HD; exact HD.out))
     have BQ3 := Aside0.mk (show Blk wr.drew aq qs from HW.out.2.2)
     have QF := Aside0.mk (show Rg qs ∧ qs.length = m + 1 ∧ nv qs < pw L by
      refine ⟨HD.out.rgq, HD.out.qlen, ?_⟩
      rw [DE.out.1]
      exact Nat.lt_of_le_of_lt (Nat.div_le_self _ _) BA.out.1)
     have hlu : (us.take ys.length).length = ys.length := by rw [List.length_take]; have := HD.out.ulen; have := P.out; omega
     have QG := Aside0.mk (show Rg us ∧ nv (us.take ys.length) = nv us ∧ (us.take ys.length).length ≤ L by
      refine ⟨HD.out.rgu, ?_, by rw [hlu]; exact Y.out.2.2⟩
      have e := nv_split us ys.length (by have := HD.out.ulen; have := P.out; omega)
      have l : nv us < pw (n + 2) := Nat.lt_trans DE.out.2.2 (by have := NT.out.2.1; rw [VV.out.2.2.1, Y.out.2.1] at this; exact this)
      rw [← P.out.1] at l
      rcases Nat.eq_zero_or_pos (nv (us.drop ys.length)) with c | c
      ·
       rw [c, Nat.mul_zero, Nat.add_zero] at e
       exact e.symm
      ·
       exfalso
       have : pw ys.length * 1 ≤ pw ys.length * nv (us.drop ys.length) := Nat.mul_le_mul_left _ c
       omega)
     have RS := Aside0.mk (show Rd wr.drew (.slice (some ad) ys.length (xs.length + 1)) (us.take ys.length) by
      have h := (show Blk wr.drew ad us from HW.out.1).C 0 ys.length (by have := HD.out.ulen; have := P.out; omega) (by have := HD.out.ulen; have := X.out.2.2; have := HL.out; omega)
      refine ⟨some ad, xs.length + 1, by rw [hlu], by have := P.out; omega, ?_⟩
      simpa [Addr.add] using h)
     have f2 : ((ys.length : Int) ≤ (xs.length : Int) + 1) = True := eq_true (by have := P.out; omega)
     have f3 : (ys.length ≤ xs.length + 1) = True := eq_true (by have := P.out; omega)
     clear cj hlu
     go_wp2
     refine start_ (n := 10) (S := fun w' => True) (ds := []) #[false, false, false, false, false, false, false, false, false, false] (by kernel_rfl) rfl rfl trivial (fun hHeld => ?_)
     refine pure_ (i := 0) (N := some 137) (v := ?_) (a' := ?_) #[true, false, false, false, false, false, false, false, false, false] rfl rfl (by kernel_rfl) (fun _ _ _ h => h) (Or.inl ⟨by rfl, ?_⟩) ?_ ?_
     rotate_left
     ·
      intro w'
      go_simp
      with_reducible rfl
     rotate_left
     ·
      simp only [Act.put, List.setIfInBounds_toArray, List.set_cons_zero, List.set_cons_succ, i64_w, i32_w]
      rfl
     refine pure_ (i := 2) (N := some 139) (v := ?_) (a' := ?_) #[true, false, true, false, false, false, false, false, false, false] rfl rfl (by kernel_rfl) (fun _ _ _ h => h) (Or.inl ⟨by rfl, ?_⟩) ?_ ?_
     rotate_left
     ·
      intro w'
      go_simp
      with_reducible rfl
     rotate_left
     ·
      simp only [Act.put, List.setIfInBounds_toArray, List.set_cons_zero, List.set_cons_succ, i64_w, i32_w]
      rfl
     refine pure_ (i := 3) (N := some 140) (v := ?_) (a' := ?_) #[true, false, true, true, false, false, false, false, false, false] rfl rfl (by kernel_rfl) (fun _ _ _ h => h) (Or.inl ⟨by rfl, ?_⟩) ?_ ?_
     rotate_left
     ·
      intro w'
      go_simp
      with_reducible rfl
     rotate_left
     ·
      simp only [Act.put, List.setIfInBounds_toArray, List.set_cons_zero, List.set_cons_succ, i64_w, i32_w]
      rfl
     refine pure_ (i := 4) (N := some 141) (v := ?_) (a' := ?_) #[true, false, true, true, true, false, false, false, false, false] rfl rfl (by kernel_rfl) (fun _ _ _ h => h) (Or.inl ⟨by rfl, ?_⟩) ?_ ?_
     rotate_left
     ·
      intro w'
      go_simp
      with_reducible rfl
     rotate_left
     ·
      simp only [Act.put, List.setIfInBounds_toArray, List.set_cons_zero, List.set_cons_succ, i64_w, i32_w]
      rfl
     refine pure_ (i := 5) (N := some 142) (v := ?_) (a' := ?_) #[true, false, true, true, true, true, false, false, false, false] rfl rfl (by kernel_rfl) (fun _ _ _ h => h) (Or.inl ⟨by rfl, ?_⟩) ?_ ?_
     rotate_left
     ·
      intro w'
      go_simp
      with_reducible rfl
     rotate_left
     ·
      simp only [Act.put, List.setIfInBounds_toArray, List.set_cons_zero, List.set_cons_succ, i64_w, i32_w]
      rfl
     refine one_ (i := 1) (N := some 138) #[true, true, true, true, true, true, false, false, false, false] rfl rfl (by kernel_rfl) (by decide) (fun K hK => ?_)
     refine goes_ Tryz.func96 (by kernel_rfl) rfl #[.slice (some aq) (m + 1) (m + 1)] (by rfl) rfl rfl (by simp only [List.map_toArray, List.map_cons, List.map_nil]; rfl) ?_
     with_reducible refine (nat_trim.own qs aq (m + 1) L _ BQ3.out QF.out.1 QF.out.2.1 (by have := P.out; have := X.out.2.2; have := HL.out; omega) QF.out.2.2).mono ?_
     rintro e w9 ⟨r1, rfl, rfl, hr⟩
     refine ⟨_, rfl, ?_⟩
     have RQ := Aside0.mk hr
     clear hr
     refine hK.out _ _ trivial (fun hHeld => ?_)
     clear hK K
     refine norm_ (a' := ?_) ?_ ?_
     rotate_left
     ·
      show Act.put _ (some 138) _ = _
      simp only [Act.put, List.setIfInBounds_toArray, List.set_cons_zero, List.set_cons_succ, i64_w, i32_w]
      rfl
     refine one_ (i := 6) (N := some 143) #[true, true, true, true, true, true, true, false, false, false] rfl rfl (by kernel_rfl) (by decide) (fun K hK => ?_)
     refine goes_ Tryz.func117 (by kernel_rfl) rfl #[.slice (some ad) ys.length (xs.length + 1), .int .u64 (s : Int)] (by rfl) rfl rfl (by simp only [List.map_toArray, List.map_cons, List.map_nil]; rfl) ?_
     with_reducible refine (nat_shiftDown.run (us.take ys.length) _ s L _ RS.out (QG.out.1.take _) HS.out.2.2 QG.out.2.2 (by have := HL.out; omega)).mono ?_
     rintro e w10 ⟨r2, rfl, hr, hb⟩
     refine ⟨_, rfl, ?_⟩
     have RR := Aside0.mk hr
     have B9 := Aside0.mk hb
     clear hr hb
     refine hK.out _ _ trivial (fun hHeld => ?_)
     clear hK K
     refine norm_ (a' := ?_) ?_ ?_
     rotate_left
     ·
      show Act.put _ (some 143) _ = _
      simp only [Act.put, List.setIfInBounds_toArray, List.set_cons_zero, List.set_cons_succ, i64_w, i32_w]
      rfl
     refine pure_ (i := 7) (N := some 4) (v := ?_) (a' := ?_) #[true, true, true, true, true, true, true, true, false, false] rfl rfl (by kernel_rfl) (fun _ _ _ h => h) (Or.inl ⟨by rfl, ?_⟩) ?_ ?_
     rotate_left
     ·
      intro w'
      go_simp
      with_reducible rfl
     rotate_left
     ·
      simp only [Act.put, List.setIfInBounds_toArray, List.set_cons_zero, List.set_cons_succ, i64_w, i32_w]
      rfl
     refine pure_ (i := 8) (N := some 5) (v := ?_) (a' := ?_) #[true, true, true, true, true, true, true, true, true, false] rfl rfl (by kernel_rfl) (fun _ _ _ h => h) (Or.inl ⟨by rfl, ?_⟩) ?_ ?_
     rotate_left
     ·
      intro w'
      go_simp
      with_reducible rfl
     rotate_left
     ·
      simp only [Act.put, List.setIfInBounds_toArray, List.set_cons_zero, List.set_cons_succ, i64_w, i32_w]
      rfl
     refine pure_ (i := 9) (N := some 6) (v := ?_) (a' := ?_) #[true, true, true, true, true, true, true, true, true, true] rfl rfl (by kernel_rfl) (fun _ _ _ h => h) (Or.inl ⟨by rfl, ?_⟩) ?_ ?_
     rotate_left
     ·
      intro w'
      go_simp
      with_reducible rfl
     rotate_left
     ·
      simp only [Act.put, List.setIfInBounds_toArray, List.set_cons_zero, List.set_cons_succ, i64_w, i32_w]
      rfl
     refine done_ (by kernel_rfl) ?_
     go_wp2
     go_ret3
     refine ⟨r1, r2, rfl, ?_, ?_, below_on (show Below w2.heap.size w2 wr.drew from Below.drew HBl.out) B9.out⟩
     ·
      rw [← DE.out.1]; exact RQ.out.below B9.out
     ·
      have := RR.out
      rw [QG.out.2.1, DE.out.2.1] at this
      exact this
end Go.Proofs.YtnmfmiemkcaocaaGreat.Hand
namespace Go.Proofs.YtnmfmiemkcaocaaGreat.Hand
open Go.RowKit Go.Proofs.YtnmfmiemkcaocaaGreatW.PrintWords Go.Proofs.YtnmfmiemkcaocaaGreatW.PrintLast Go.Proofs.YtnmfmiemkcaocaaGreatW.PrintMore
set_option linter.unusedVariables false
set_option linter.unusedSimpArgs false
theorem NC.open {w : World} {v : Value} {n L : Nat} (h : NC w v n L) : ∃ (A : Option Addr) (ys : List Int) (c : Nat), v = .slice A ys.length c ∧ Kd.C (Kd.int .u32) w A ys.length ys ∧ ys.length ≤ c ∧ Can ys ∧ nv ys = n ∧ ys.length ≤ L := by
 obtain ⟨ys, ⟨A, c, h1, h2, h3⟩, h4, h5, h6⟩ := h
 exact ⟨A, ys, c, h1, h3, h2, h4, h5, h6⟩
theorem NC.shut {w : World} {A : Option Addr} {ys : List Int} {c n L : Nat} (h : Kd.C (Kd.int .u32) w A ys.length ys ∧ ys.length ≤ c ∧ Can ys ∧ nv ys = n ∧ ys.length ≤ L) : NC w (.slice A ys.length c) n L := ⟨ys, ⟨A, c, rfl, h.2.1, h.1⟩, h.2.2.1, h.2.2.2⟩
theorem nat_Gcd.run (v u : Value) (a b L : Nat) (w : World) (hv : NA w v a L) (hu : NA w u b L) (hL : L ≤ 500000000) :
  Calls Tryz.prog 99 #[v, u] w fun e w' => ∃ r, e = .returned r ∧ NC w' r (Nat.gcd a b) L ∧ Below w.heap.size w w' := by
 have V := Aside0.mk hv
 have U := Aside0.mk hu
 have HL := Aside0.mk hL
 clear hv hu hL
 go_enter Tryz.func99, Tryz.ntmps99
 go_wp2_with (first | (go_at_call 98; (with_reducible refine (nat_Norm.run v a L _ V.out (by have := HL.out; omega)).mono ?_); (rintro e w1 ⟨x, rfl, hr, hb⟩; have RX := Aside0.mk hr; have B1 := Aside0.mk hb; clear hr hb; have U2 := Aside0.mk (U.out.below B1.out))) | (go_at_call 98; (with_reducible refine (nat_Norm.run u b L _ U2.out (by have := HL.out; omega)).mono ?_); (rintro e w2 ⟨y, rfl, hr, hb⟩; have RY := Aside0.mk hr; have B2 := Aside0.mk hb; clear hr hb)))
 go_loopg [5, 6] b (fun kq v5 v6 w' => ∃ (xv : Value) (A : Option Addr) (ys : List Int) (c x : Nat), v5 = xv ∧ v6 = .slice A ys.length c ∧ Aside0 (NC w' xv x L) ∧ Aside0 (Kd.C (Kd.int .u32) w' A ys.length ys ∧ ys.length ≤ c ∧ Can ys ∧ nv ys = kq ∧ ys.length ≤ L) ∧ Aside0 (Nat.gcd x kq = Nat.gcd a b) ∧ Aside0 (Below w.heap.size w w'))
 case atStart =>
  obtain ⟨A, ys, c, he, h⟩ := RY.out.open
  exact ⟨x, A, ys, c, a, rfl, he, ⟨RX.out.below B2.out⟩, ⟨h⟩, ⟨rfl⟩, ⟨below_on B1.out B2.out⟩⟩
 case round =>
  obtain ⟨xv, A, ys, c, x, rfl, rfl, HX, HY, HG, HB⟩ := hrel
  by_cases ci : 0 < ys.length
  ·
   have d1 : decide (0 < ys.length) = true := decide_eq_true ci
   have d2 : decide ((0 : Int) < (ys.length : Int)) = true := decide_eq_true (by omega)
   have hg : 0 < gk := by
    rcases Nat.eq_zero_or_pos gk with h | h
    ·
     have := HY.out.2.2.1.zero.2 (by rw [HY.out.2.2.2.1]; exact h)
     omega
    ·
     exact h
   have HG0 := Aside0.mk hg
   have NY := Aside0.mk (NC.shut HY.out)
   clear ci hg
   go_wp2_with (first | (go_at_call 100; (with_reducible refine (nat_DivMod.run _ _ x gk L _ HX.out.na NY.out.na HG0.out HL.out).mono ?_); (rintro e w3 ⟨q, r, rfl, hq, hr, hb⟩; have RR := Aside0.mk hr; have B3 := Aside0.mk hb; clear hq hr hb)))
   go_roundg (x % gk)
   case measure => exact Nat.mod_lt _ HG0.out
   case rel =>
    obtain ⟨A', ys', c', he, h⟩ := RR.out.open
    exact ⟨_, A', ys', c', gk, rfl, he, ⟨NY.out.below B3.out⟩, ⟨h⟩, ⟨by rw [← HG.out, Nat.gcd_comm gk, ← Nat.gcd_rec, Nat.gcd_comm]⟩, ⟨below_on HB.out B3.out⟩⟩
  ·
   have d1 : decide (0 < ys.length) = false := decide_eq_false ci
   have d2 : decide ((0 : Int) < (ys.length : Int)) = false := decide_eq_false (by omega)
   have h0 : gk = 0 := by rw [← HY.out.2.2.2.1]; exact HY.out.2.2.1.zero.1 (by omega)
   subst h0
   clear ci
   go_wp2
   go_ret
   refine ⟨_, rfl, ?_, HB.out⟩
   rw [← HG.out, Nat.gcd_zero_right]
   exact HX.out
end Go.Proofs.YtnmfmiemkcaocaaGreat.Hand
namespace Go.Proofs.YtnmfmiemkcaocaaGreat.Hand
open Go.RowKit Go.Proofs.YtnmfmiemkcaocaaGreatW.PrintWords Go.Proofs.YtnmfmiemkcaocaaGreatW.PrintLast Go.Proofs.YtnmfmiemkcaocaaGreatW.PrintMore
set_option linter.unusedVariables false
set_option linter.unusedSimpArgs false
theorem NA.drew {w : World} {v : Value} {n L : Nat} (h : NA w v n L) : NA w.drew v n L := h
theorem NC.drew {w : World} {v : Value} {n L : Nat} (h : NC w v n L) : NC w.drew v n L := h
theorem NA.drewN {w : World} {v : Value} {n L : Nat} (h : NA w v n L) (m : Nat) : NA (w.drewN m) v n L := h
theorem NC.drewN {w : World} {v : Value} {n L : Nat} (h : NC w v n L) (m : Nat) : NC (w.drewN m) v n L := h
theorem NA.na {w : World} {v : Value} {n L : Nat} (h : NA w v n L) : NA w v n L := h
theorem NA.sl {w : World} {v : Value} {n L : Nat} (h : NA w v n L) : ∃ A k c, v = .slice A k c := by
 obtain ⟨xs, ⟨A, c, e, _⟩, _⟩ := h
 exact ⟨A, _, c, e⟩
theorem NC.sl {w : World} {v : Value} {n L : Nat} (h : NC w v n L) : ∃ A k c, v = .slice A k c := h.na.sl
theorem NC.nil (w : World) (L : Nat) : NC w (.slice none 0 0) 0 L := NC.of_nil.mono (Nat.zero_le _)
theorem Only.setg {w W : World} {g : Nat} (h : Only w W g) (j : Nat) (v : Value) : Only w (W.setCell ⟨g, j, none⟩ v) g := by
 refine ⟨h.os, h.tape, h.output, by simpa [World.setCell] using h.size, fun k hk => ?_⟩
 rw [Below.heap_setCell _ _ _ _ hk]
 exact h.block k hk
def NoLimb (cs : Array Value) : Prop := ∀ x : Int, ∀ c ∈ cs.toList, c ≠ .int .u32 x
theorem Rd.only {w W : World} {g : Nat} {v : Value} {xs : List Int} {cs : Array Value} {t : TypeId} {fr : Nat × Nat} (h : Rd w v xs) (ho : Only w W g) (hb : w.heap[g]? = some (.cells cs t fr)) (hn : NoLimb cs) : Rd W v xs := by
 obtain ⟨A, c, e, hc, h1, h2, h3⟩ := h
 refine ⟨A, c, e, hc, h1, h2, fun hp => ?_⟩
 obtain ⟨ad, ea, h4⟩ := h3 hp
 refine ⟨ad, ea, fun j p hj => ?_⟩
 obtain ⟨d, e1, e2, h5⟩ := h4 j p hj
 refine ⟨d, e1, e2, fun i u hu => ?_⟩
 have h6 := h5 i u hu
 have hd : d = [.int .u32 p] := e2
 have hu2 : u = .int .u32 p := by
  rw [hd] at hu
  cases i with
  | zero => simp at hu; exact hu.symm
  | succ i => simp at hu
 by_cases hg : ad.block = g
 ·
  exfalso
  unfold World.cell? at h6
  rw [add_block, hg, hb] at h6
  simp only at h6
  split at h6
  ·
   exact absurd h6 (by simp)
  ·
   have := Array.mem_of_getElem? h6
   exact hn p u (by simpa using this) hu2
 ·
  rw [← h6]
  exact World.cell?_of_block (ho.block _ (by rw [add_block]; exact hg))
theorem NA.only {w W : World} {g : Nat} {v : Value} {n L : Nat} {cs : Array Value} {t : TypeId} {fr : Nat × Nat} (h : NA w v n L) (ho : Only w W g) (hb : w.heap[g]? = some (.cells cs t fr)) (hn : NoLimb cs) : NA W v n L := by
 obtain ⟨xs, h1, h2⟩ := h
 exact ⟨xs, h1.only ho hb hn, h2⟩
theorem NC.only {w W : World} {g : Nat} {v : Value} {n L : Nat} {cs : Array Value} {t : TypeId} {fr : Nat × Nat} (h : NC w v n L) (ho : Only w W g) (hb : w.heap[g]? = some (.cells cs t fr)) (hn : NoLimb cs) : NC W v n L := by
 obtain ⟨xs, h1, h2⟩ := h
 exact ⟨xs, h1.only ho hb hn, h2⟩
theorem nl2 (s : Bool) (A : Option Addr) (k c : Nat) : NoLimb #[.bool s, .slice A k c] := by
 intro x c hc
 simp at hc
 rcases hc with rfl | rfl <;> simp
theorem nl3 (s : Bool) (A B : Option Addr) (k c l d : Nat) : NoLimb #[.bool s, .slice A k c, .slice B l d] := by
 intro x c hc
 simp at hc
 rcases hc with rfl | rfl | rfl <;> simp
theorem blk_oth {w W : World} {g k : Nat} {o : Obj} (h : w.heap[k]? = some o) (ho : Only w W g) (hne : k ≠ g) : W.heap[k]? = some o := (ho.block k hne).trans h
theorem Only.low {w0 w W : World} {g : Nat} (h : Only w W g) (hb : Below w0.heap.size w0 w) (hg : w0.heap.size ≤ g) : Below w0.heap.size w0 W := h.below hb hg
def zi (s : Bool) (n : Nat) : Int := if s then -(n : Int) else n
def cmpZ (x y : Int) : Int := if x < y then -1 else if y < x then 1 else 0
theorem zi_mul (s t : Bool) (a b : Nat) : zi (s != t) (a * b) = zi s a * zi t b := by
 unfold zi
 cases s <;> cases t <;> simp [Int.neg_mul, Int.mul_neg]
end Go.Proofs.YtnmfmiemkcaocaaGreat.Hand
namespace Go.Proofs.YtnmfmiemkcaocaaGreat.Hand
open Go.RowKit Go.Proofs.YtnmfmiemkcaocaaGreatW.PrintWords Go.Proofs.YtnmfmiemkcaocaaGreatW.PrintLast Go.Proofs.YtnmfmiemkcaocaaGreatW.PrintMore
set_option linter.unusedVariables false
set_option linter.unusedSimpArgs false
theorem As {p : Prop} (h : p) : Aside0 p := ⟨h⟩
theorem Bb {w W : World} {g : Nat} {o : Obj} (h : Aside0 (w.heap[g]? = some o)) (hb : Below w.heap.size w W) : Aside0 (W.heap[g]? = some o) := ⟨blk_below h.out hb⟩
theorem Ob {w0 w W : World} (h : Aside0 (Below w0.heap.size w0 w)) (hb : Below w.heap.size w W) : Aside0 (Below w0.heap.size w0 W) := ⟨below_on h.out hb⟩
theorem Oo {w W : World} {g k : Nat} {o : Obj} (h : Aside0 (w.heap[k]? = some o)) (ho : Only w W g) (hne : Aside0 (k ≠ g)) : Aside0 (W.heap[k]? = some o) := ⟨blk_oth h.out ho hne.out⟩
theorem Ou {w W : World} {g k : Nat} {o : Obj} (h : Aside0 (w.heap[k]? = some o)) (ho : Only w W g) (hne : Aside0 (g ≠ k)) : Aside0 (W.heap[k]? = some o) := ⟨blk_oth h.out ho (Ne.symm hne.out)⟩
theorem Lo {w0 w W : World} {g : Nat} (h : Aside0 (Below w0.heap.size w0 w)) (ho : Only w W g) (hg : Aside0 (w0.heap.size ≤ g)) : Aside0 (Below w0.heap.size w0 W) := ⟨ho.low h.out hg.out⟩
theorem Nn {w : World} {g k : Nat} {o : Obj} (h : Aside0 (w.heap[k]? = some o)) (hg : g = w.heap.size) : Aside0 (k ≠ g) := ⟨Nat.ne_of_lt (by rw [hg]; exact blk_lt h.out)⟩
theorem Gg {w0 w : World} {g : Nat} (h : Aside0 (Below w0.heap.size w0 w)) (hg : g = w.heap.size) : Aside0 (w0.heap.size ≤ g) := ⟨Nat.le_trans h.out.size (Nat.le_of_eq hg.symm)⟩
theorem Bd {w : World} {g : Nat} {o : Obj} (h : Aside0 (w.heap[g]? = some o)) : Aside0 (w.drew.heap[g]? = some o) := h
theorem Od {w0 w : World} (h : Aside0 (Below w0.heap.size w0 w)) : Aside0 (Below w0.heap.size w0 w.drew) := ⟨Below.drew h.out⟩
theorem NA.be {w W : World} {v : Value} {n L : Nat} (h : NA w v n L) (hb : Below w.heap.size w W) : NA W v n L := h.below hb
theorem NC.be {w W : World} {v : Value} {n L : Nat} (h : NC w v n L) (hb : Below w.heap.size w W) : NC W v n L := h.below hb
theorem NA.o2 {w W : World} {g : Nat} {v : Value} {n L : Nat} {s : Bool} {A : Option Addr} {k c : Nat} {t : TypeId} {fr : Nat × Nat} (h : NA w v n L) (ho : Only w W g) (hb : Aside0 (w.heap[g]? = some (.cells #[.bool s, .slice A k c] t fr))) : NA W v n L := h.only ho hb.out (nl2 _ _ _ _)
theorem NC.o2 {w W : World} {g : Nat} {v : Value} {n L : Nat} {s : Bool} {A : Option Addr} {k c : Nat} {t : TypeId} {fr : Nat × Nat} (h : NC w v n L) (ho : Only w W g) (hb : Aside0 (w.heap[g]? = some (.cells #[.bool s, .slice A k c] t fr))) : NC W v n L := h.only ho hb.out (nl2 _ _ _ _)
theorem NA.o3 {w W : World} {g : Nat} {v : Value} {n L : Nat} {s : Bool} {A B : Option Addr} {k c l d : Nat} {t : TypeId} {fr : Nat × Nat} (h : NA w v n L) (ho : Only w W g) (hb : Aside0 (w.heap[g]? = some (.cells #[.bool s, .slice A k c, .slice B l d] t fr))) : NA W v n L := h.only ho hb.out (nl3 _ _ _ _ _ _ _)
theorem NC.o3 {w W : World} {g : Nat} {v : Value} {n L : Nat} {s : Bool} {A B : Option Addr} {k c l d : Nat} {t : TypeId} {fr : Nat × Nat} (h : NC w v n L) (ho : Only w W g) (hb : Aside0 (w.heap[g]? = some (.cells #[.bool s, .slice A k c, .slice B l d] t fr))) : NC W v n L := h.only ho hb.out (nl3 _ _ _ _ _ _ _)
theorem Cl0 {w : World} {g : Nat} {t : TypeId} {v : Value} {l : List Value} (h : Aside0 (w.heap[g]? = some (.cells (List.toArray (v :: l)) t (0, 0)))) : w.cell? ⟨g, 0, none⟩ = some v := blk_cell h.out 0
theorem Cl1 {w : World} {g : Nat} {t : TypeId} {u0 v : Value} {l : List Value} (h : Aside0 (w.heap[g]? = some (.cells (List.toArray (u0 :: v :: l)) t (0, 0)))) : w.cell? ⟨g, 1, none⟩ = some v := blk_cell h.out 1
theorem Cl2 {w : World} {g : Nat} {t : TypeId} {u0 u1 v : Value} {l : List Value} (h : Aside0 (w.heap[g]? = some (.cells (List.toArray (u0 :: u1 :: v :: l)) t (0, 0)))) : w.cell? ⟨g, 2, none⟩ = some v := blk_cell h.out 2
theorem Cl3 {w : World} {g : Nat} {t : TypeId} {u0 u1 u2 v : Value} {l : List Value} (h : Aside0 (w.heap[g]? = some (.cells (List.toArray (u0 :: u1 :: u2 :: v :: l)) t (0, 0)))) : w.cell? ⟨g, 3, none⟩ = some v := blk_cell h.out 3
theorem Cl4 {w : World} {g : Nat} {t : TypeId} {u0 u1 u2 u3 v : Value} {l : List Value} (h : Aside0 (w.heap[g]? = some (.cells (List.toArray (u0 :: u1 :: u2 :: u3 :: v :: l)) t (0, 0)))) : w.cell? ⟨g, 4, none⟩ = some v := blk_cell h.out 4
theorem Cl5 {w : World} {g : Nat} {t : TypeId} {u0 u1 u2 u3 u4 v : Value} {l : List Value} (h : Aside0 (w.heap[g]? = some (.cells (List.toArray (u0 :: u1 :: u2 :: u3 :: u4 :: v :: l)) t (0, 0)))) : w.cell? ⟨g, 5, none⟩ = some v := blk_cell h.out 5
theorem Cl6 {w : World} {g : Nat} {t : TypeId} {u0 u1 u2 u3 u4 u5 v : Value} {l : List Value} (h : Aside0 (w.heap[g]? = some (.cells (List.toArray (u0 :: u1 :: u2 :: u3 :: u4 :: u5 :: v :: l)) t (0, 0)))) : w.cell? ⟨g, 6, none⟩ = some v := blk_cell h.out 6
theorem Cl7 {w : World} {g : Nat} {t : TypeId} {u0 u1 u2 u3 u4 u5 u6 v : Value} {l : List Value} (h : Aside0 (w.heap[g]? = some (.cells (List.toArray (u0 :: u1 :: u2 :: u3 :: u4 :: u5 :: u6 :: v :: l)) t (0, 0)))) : w.cell? ⟨g, 7, none⟩ = some v := blk_cell h.out 7
theorem Cl8 {w : World} {g : Nat} {t : TypeId} {u0 u1 u2 u3 u4 u5 u6 u7 v : Value} {l : List Value} (h : Aside0 (w.heap[g]? = some (.cells (List.toArray (u0 :: u1 :: u2 :: u3 :: u4 :: u5 :: u6 :: u7 :: v :: l)) t (0, 0)))) : w.cell? ⟨g, 8, none⟩ = some v := blk_cell h.out 8
theorem Cl9 {w : World} {g : Nat} {t : TypeId} {u0 u1 u2 u3 u4 u5 u6 u7 u8 v : Value} {l : List Value} (h : Aside0 (w.heap[g]? = some (.cells (List.toArray (u0 :: u1 :: u2 :: u3 :: u4 :: u5 :: u6 :: u7 :: u8 :: v :: l)) t (0, 0)))) : w.cell? ⟨g, 9, none⟩ = some v := blk_cell h.out 9
theorem Cl10 {w : World} {g : Nat} {t : TypeId} {u0 u1 u2 u3 u4 u5 u6 u7 u8 u9 v : Value} {l : List Value} (h : Aside0 (w.heap[g]? = some (.cells (List.toArray (u0 :: u1 :: u2 :: u3 :: u4 :: u5 :: u6 :: u7 :: u8 :: u9 :: v :: l)) t (0, 0)))) : w.cell? ⟨g, 10, none⟩ = some v := blk_cell h.out 10
theorem Cl11 {w : World} {g : Nat} {t : TypeId} {u0 u1 u2 u3 u4 u5 u6 u7 u8 u9 u10 v : Value} {l : List Value} (h : Aside0 (w.heap[g]? = some (.cells (List.toArray (u0 :: u1 :: u2 :: u3 :: u4 :: u5 :: u6 :: u7 :: u8 :: u9 :: u10 :: v :: l)) t (0, 0)))) : w.cell? ⟨g, 11, none⟩ = some v := blk_cell h.out 11
theorem Cl12 {w : World} {g : Nat} {t : TypeId} {u0 u1 u2 u3 u4 u5 u6 u7 u8 u9 u10 u11 v : Value} {l : List Value} (h : Aside0 (w.heap[g]? = some (.cells (List.toArray (u0 :: u1 :: u2 :: u3 :: u4 :: u5 :: u6 :: u7 :: u8 :: u9 :: u10 :: u11 :: v :: l)) t (0, 0)))) : w.cell? ⟨g, 12, none⟩ = some v := blk_cell h.out 12
theorem Cl13 {w : World} {g : Nat} {t : TypeId} {u0 u1 u2 u3 u4 u5 u6 u7 u8 u9 u10 u11 u12 v : Value} {l : List Value} (h : Aside0 (w.heap[g]? = some (.cells (List.toArray (u0 :: u1 :: u2 :: u3 :: u4 :: u5 :: u6 :: u7 :: u8 :: u9 :: u10 :: u11 :: u12 :: v :: l)) t (0, 0)))) : w.cell? ⟨g, 13, none⟩ = some v := blk_cell h.out 13
theorem Cl14 {w : World} {g : Nat} {t : TypeId} {u0 u1 u2 u3 u4 u5 u6 u7 u8 u9 u10 u11 u12 u13 v : Value} {l : List Value} (h : Aside0 (w.heap[g]? = some (.cells (List.toArray (u0 :: u1 :: u2 :: u3 :: u4 :: u5 :: u6 :: u7 :: u8 :: u9 :: u10 :: u11 :: u12 :: u13 :: v :: l)) t (0, 0)))) : w.cell? ⟨g, 14, none⟩ = some v := blk_cell h.out 14
theorem Cl15 {w : World} {g : Nat} {t : TypeId} {u0 u1 u2 u3 u4 u5 u6 u7 u8 u9 u10 u11 u12 u13 u14 v : Value} {l : List Value} (h : Aside0 (w.heap[g]? = some (.cells (List.toArray (u0 :: u1 :: u2 :: u3 :: u4 :: u5 :: u6 :: u7 :: u8 :: u9 :: u10 :: u11 :: u12 :: u13 :: u14 :: v :: l)) t (0, 0)))) : w.cell? ⟨g, 15, none⟩ = some v := blk_cell h.out 15
theorem Cl16 {w : World} {g : Nat} {t : TypeId} {u0 u1 u2 u3 u4 u5 u6 u7 u8 u9 u10 u11 u12 u13 u14 u15 v : Value} {l : List Value} (h : Aside0 (w.heap[g]? = some (.cells (List.toArray (u0 :: u1 :: u2 :: u3 :: u4 :: u5 :: u6 :: u7 :: u8 :: u9 :: u10 :: u11 :: u12 :: u13 :: u14 :: u15 :: v :: l)) t (0, 0)))) : w.cell? ⟨g, 16, none⟩ = some v := blk_cell h.out 16
theorem Cl17 {w : World} {g : Nat} {t : TypeId} {u0 u1 u2 u3 u4 u5 u6 u7 u8 u9 u10 u11 u12 u13 u14 u15 u16 v : Value} {l : List Value} (h : Aside0 (w.heap[g]? = some (.cells (List.toArray (u0 :: u1 :: u2 :: u3 :: u4 :: u5 :: u6 :: u7 :: u8 :: u9 :: u10 :: u11 :: u12 :: u13 :: u14 :: u15 :: u16 :: v :: l)) t (0, 0)))) : w.cell? ⟨g, 17, none⟩ = some v := blk_cell h.out 17
theorem Fz {w : World} {g : Nat} {t : TypeId} {cs : Array Value} (h : Aside0 (w.heap[g]? = some (.cells cs t (0, 0)))) (i : Nat) : w.frozen? ⟨g, i, none⟩ = false := blk_frozen h.out i
theorem Sto {ops : Array Oper} {Q : Exit → Act → World → Prop} {rest : List Oper} {o : Oper} {a : Act} {W : World} (hgd : o.guard = none) {t p : Nat} (v : Operand) (ho : o.op = .store t (.tmp p) v) (hN : o.dst = none) (g : Nat) (cs : Array Value)
  (hx : a.eval (.tmp p) = .pointer (some ⟨g, 0, none⟩)) (hy : a.eval v = .agg cs) {T : TypeId} {old : Array Value} (hg : Aside0 (W.heap[g]? = some (.cells old T (0, 0)))) (hi : (Tryz.prog.info? t).map (·.size) = some cs.size) (hold : old.size = cs.size) (h1 : cs.all (·.oneCell') = true)
  (h : ∀ w1, Only W w1 g → Aside0 (w1.heap[g]? = some (.cells cs T (0, 0))) → wpList Tryz.prog ops Q rest a w1) : wpList Tryz.prog ops Q (o :: rest) a W := by
 refine wpList_store_row hgd t _ v ho g cs hx hy T old hg.out hi hold h1 ?_
 rw [hN]
 exact h _ ⟨rfl, rfl, rfl, by simp [World.setRow], fun k hk => setRow_other W g k _ hk⟩ ⟨setRow_heap W g old cs T _ hg.out⟩
def Bt : Nat → Nat → Array Bool := fun n m => List.toArray (go n m)
where go : Nat → Nat → List Bool
 | 0, _ => []
 | n + 1, m => (m % 2 == 1) :: go n (m / 2)
theorem Nrm : (∀ (tmps : Array Value) (d : List Deferred) (N : Option Tmp) (v : Value), Act.put ⟨tmps, d⟩ N v = match N with | some n => ⟨tmps.setIfInBounds n v, d⟩ | none => ⟨tmps, d⟩) := by
 intro tmps d N v
 cases N <;> rfl
end Go.Proofs.YtnmfmiemkcaocaaGreat.Hand
namespace Go.Proofs.YtnmfmiemkcaocaaGreat.Hand
open Go.RowKit Go.Proofs.YtnmfmiemkcaocaaGreatW.PrintWords Go.Proofs.YtnmfmiemkcaocaaGreatW.PrintLast Go.Proofs.YtnmfmiemkcaocaaGreatW.PrintMore
set_option linter.unusedVariables false
set_option linter.unusedSimpArgs false
theorem nat_Of1.run (w : World) : Calls Tryz.prog 67 #[.int .u64 1] w fun e w' => ∃ r, e = .returned r ∧ NC w' r 1 2 ∧ Below w.heap.size w w' := nat_Of.run 1 w (by omega)
theorem integer_Make.run (s : Bool) (v : Value) (a L : Nat) (w : World) (hv : NA w v a L) (hL : L ≤ 500000000) :
  Calls Tryz.prog 69 #[.bool s, v] w fun e w' => ∃ u A k c, e = .returned (.agg #[.bool u, .slice A k c]) ∧ NC w' (.slice A k c) a L ∧ zi u a = zi s a ∧ (u = true → a ≠ 0) ∧ Below w.heap.size w w' := by
 have H1 := Aside0.mk hv
 have HL := Aside0.mk hL
 clear hv hL
 by_cases c0 : s = true ∧ a ≠ 0
 ·
  obtain ⟨rfl, ha⟩ := c0
  have HA := Aside0.mk ha
  clear ha
  go_enter Tryz.func69, Tryz.ntmps69
  go_wp2_with (first | ((with_reducible refine gate_dst (N := 4) rfl ?_); refine box_event ?hg (N := 4) ?hd (cs := #[.bool false, .slice none 0 0]) (t := 32) ?hr ?_; (case hd => rfl); (case hg => rfl); (case hr => first | (go_simp; done) | (go_simp; rfl)); intro g hg w1 hbox hb; have B0 := Aside0.mk hbox; have HB := Aside0.mk hb; have HG := Aside0.mk (Nat.le_of_eq hg.symm); clear hg; replace H1 := Aside0.mk (H1.out.below hb); clear hbox hb) | (go_at_call 98; (with_reducible refine (nat_Norm.run _ a L _ H1.out (by have := HL.out; omega)).mono ?_); (rintro e w2 ⟨r, rfl, hr, hb⟩; obtain ⟨A, ys, c, rfl, hq⟩ := hr.open; have H2 := Aside0.mk hq; replace B0 := Aside0.mk (blk_below B0.out hb); replace HB := Aside0.mk (below_on HB.out hb); have hl : ys.length ≠ 0 := (fun e => HA.out (by rw [← hq.2.2.2.1]; exact hq.2.2.1.zero.1 e)); have hp : decide (0 < ys.length) = true := decide_eq_true (by omega); have hp1 : decide ((0 : Int) < (ys.length : Int)) = true := decide_eq_true (by omega); have hp2 := blk_cell B0.out 0; have hp3 := blk_cell B0.out 1; have hp4 := blk_frozen B0.out 0; have hp5 := blk_frozen B0.out 1; clear hr hq hb hl)))
  try simp only [Exit.inBlock, Exit.then]
  have ho : Only w2 ((w2.setCell ⟨g, 0, none⟩ (.bool true)).setCell ⟨g, 1, none⟩ (.slice A ys.length c)) g := (Only.refl _ _).setg 0 _ |>.setg 1 _
  refine bodyPost_ret (results_cell_row rfl _ _ g 32 #[.bool true, .slice A ys.length c] (0, 0) _ rfl (blk_put (blk_put B0.out 0 _ rfl) 1 _ rfl) Tryz.underlying32 rfl (by kernel_rfl)) rfl ?_
  exact ⟨true, A, ys.length, c, rfl, (NC.shut H2.out).only ho B0.out (nl2 _ _ _ _), rfl, fun _ => HA.out, ho.low HB.out HG.out⟩
 ·
  have HC := Aside0.mk c0
  have hz : zi false a = zi s a := by
   unfold zi
   cases s
   ·
    rfl
   ·
    have : a = 0 := by
     rcases Nat.eq_zero_or_pos a with h | h
     ·
      exact h
     ·
      exact absurd ⟨rfl, by omega⟩ c0
    simp [this]
  clear c0
  cases s
  ·
   have HZ := Aside0.mk hz
   clear hz
   go_enter Tryz.func69, Tryz.ntmps69
   go_wp2_with (first | ((with_reducible refine gate_dst (N := 4) rfl ?_); refine box_event ?hg (N := 4) ?hd (cs := #[.bool false, .slice none 0 0]) (t := 32) ?hr ?_; (case hd => rfl); (case hg => rfl); (case hr => first | (go_simp; done) | (go_simp; rfl)); intro g hg w1 hbox hb; have B0 := Aside0.mk hbox; have HB := Aside0.mk hb; have HG := Aside0.mk (Nat.le_of_eq hg.symm); clear hg; replace H1 := Aside0.mk (H1.out.below hb); clear hbox hb) | (go_at_call 98; (with_reducible refine (nat_Norm.run _ a L _ H1.out (by have := HL.out; omega)).mono ?_); (rintro e w2 ⟨r, rfl, hr, hb⟩; obtain ⟨A, ys, c, rfl, hq⟩ := hr.open; have H2 := Aside0.mk hq; replace B0 := Aside0.mk (blk_below B0.out hb); replace HB := Aside0.mk (below_on HB.out hb); have hp2 := blk_cell B0.out 0; have hp3 := blk_cell B0.out 1; have hp4 := blk_frozen B0.out 0; have hp5 := blk_frozen B0.out 1; clear hr hq hb)))
   try simp only [Exit.inBlock, Exit.then]
   have ho : Only w2 ((w2.setCell ⟨g, 0, none⟩ (.bool false)).setCell ⟨g, 1, none⟩ (.slice A ys.length c)) g := (Only.refl _ _).setg 0 _ |>.setg 1 _
   refine bodyPost_ret (results_cell_row rfl _ _ g 32 #[.bool false, .slice A ys.length c] (0, 0) _ rfl (blk_put (blk_put B0.out 0 _ rfl) 1 _ rfl) Tryz.underlying32 rfl (by kernel_rfl)) rfl ?_
   exact ⟨false, A, ys.length, c, rfl, (NC.shut H2.out).only ho B0.out (nl2 _ _ _ _), rfl, fun h => (by simp at h), ho.low HB.out HG.out⟩
  ·
   have HZ := Aside0.mk hz
   clear hz
   have ha : a = 0 := by
    rcases Nat.eq_zero_or_pos a with h | h
    ·
     exact h
    ·
     exact absurd ⟨rfl, by omega⟩ HC.out
   have HA := Aside0.mk ha
   clear ha
   go_enter Tryz.func69, Tryz.ntmps69
   go_wp2_with (first | ((with_reducible refine gate_dst (N := 4) rfl ?_); refine box_event ?hg (N := 4) ?hd (cs := #[.bool false, .slice none 0 0]) (t := 32) ?hr ?_; (case hd => rfl); (case hg => rfl); (case hr => first | (go_simp; done) | (go_simp; rfl)); intro g hg w1 hbox hb; have B0 := Aside0.mk hbox; have HB := Aside0.mk hb; have HG := Aside0.mk (Nat.le_of_eq hg.symm); clear hg; replace H1 := Aside0.mk (H1.out.below hb); clear hbox hb) | (go_at_call 98; (with_reducible refine (nat_Norm.run _ a L _ H1.out (by have := HL.out; omega)).mono ?_); (rintro e w2 ⟨r, rfl, hr, hb⟩; obtain ⟨A, ys, c, rfl, hq⟩ := hr.open; have H2 := Aside0.mk hq; replace B0 := Aside0.mk (blk_below B0.out hb); replace HB := Aside0.mk (below_on HB.out hb); have hl : ys.length = 0 := hq.2.2.1.zero.2 (by rw [hq.2.2.2.1]; exact HA.out); have hp : decide (0 < ys.length) = false := decide_eq_false (by omega); have hp1 : decide ((0 : Int) < (ys.length : Int)) = false := decide_eq_false (by omega); have hp2 := blk_cell B0.out 0; have hp3 := blk_cell B0.out 1; have hp4 := blk_frozen B0.out 0; have hp5 := blk_frozen B0.out 1; clear hr hq hb hl)))
   try simp only [Exit.inBlock, Exit.then]
   have ho : Only w2 ((w2.setCell ⟨g, 0, none⟩ (.bool false)).setCell ⟨g, 1, none⟩ (.slice A ys.length c)) g := (Only.refl _ _).setg 0 _ |>.setg 1 _
   refine bodyPost_ret (results_cell_row rfl _ _ g 32 #[.bool false, .slice A ys.length c] (0, 0) _ rfl (blk_put (blk_put B0.out 0 _ rfl) 1 _ rfl) Tryz.underlying32 rfl (by kernel_rfl)) rfl ?_
   exact ⟨false, A, ys.length, c, rfl, (NC.shut H2.out).only ho B0.out (nl2 _ _ _ _), HZ.out, fun h => (by simp at h), ho.low HB.out HG.out⟩
end Go.Proofs.YtnmfmiemkcaocaaGreat.Hand
namespace Go.Proofs.YtnmfmiemkcaocaaGreat.Hand
open Go.RowKit Go.Proofs.YtnmfmiemkcaocaaGreatW.PrintWords Go.Proofs.YtnmfmiemkcaocaaGreatW.PrintLast Go.Proofs.YtnmfmiemkcaocaaGreatW.PrintMore
set_option linter.unusedVariables false
set_option linter.unusedSimpArgs false
theorem ratio_whole.run (A : Option Addr) (k c a L1 : Nat) (w : World) (hv : NA w (.slice A k c) a L1) (hL : L1 ≤ 400000000) :
  Calls Tryz.prog 66 #[.slice A k c] w fun e w' => ∃ u A k c, e = .returned (.agg #[.bool u, .slice A k c]) ∧ NC w' (.slice A k c) (a) (L1) ∧ zi u (a) = (a : Int) ∧ (u = true → a ≠ 0) ∧ Below w.heap.size w w' := by
 have H91 := Aside0.mk hv
 have HL := Aside0.mk hL
 have HB := Aside0.mk (Below.refl w.heap.size w)
 clear hv hL
 go_enter Tryz.func66, Tryz.ntmps66
 go_wp2_with (first | ((with_reducible refine gate_store (t := 32) (p := 2) rfl ?_); refine Sto (t := 32) (p := 2) (by rfl) (.tmp 4) (by rfl) (by rfl) g2 #[.bool s2, .slice A2 k2 c2] (by rfl) (by first | rfl | (go_simp; done) | (go_simp; rfl)) B2 (by kernel_rfl) rfl (by kernel_rfl) ?_; intro w4 ho hB2; replace H3 := As (H3.1.o2 ho B2); replace HB := Lo HB ho G2; replace B2 := hB2; clear ho hB2) | (go_at_call 69; (with_reducible refine (integer_Make.run _ _ a L1 _ (H91.1.be HB.1) (by have := HL.out; omega)).mono ?_); rintro e w2 ⟨s2, A2, k2, c2, rfl, hr2, hz2, hu2, hb⟩; have H3 := Aside0.mk hr2; have Z2 := Aside0.mk (And.intro hz2 hu2); clear hr2 hz2 hu2; replace B2 := Bb B2 hb; replace HB := Ob HB hb; clear hb) | ((with_reducible refine gate_dst (N := 2) rfl ?_); refine box_event (by rfl) (N := 2) (by rfl) (cs := #[.bool false, .slice none 0 0]) (t := 32) ?hr ?_; (case hr => first | (go_simp; done) | (go_simp; rfl)); intro g2 hgx w1 hbx hb; have B2 := As hbx; have G2 := Gg HB hgx; replace HB := Ob HB hb; clear hbx hb hgx))
 try simp only [Exit.inBlock, Exit.then]
 refine bodyPost_ret (results_cell_row rfl _ _ g2 32 #[.bool s2, .slice A2 k2 c2] (0, 0) _ rfl B2.out Tryz.underlying32 rfl (by kernel_rfl)) rfl ?_
 exact ⟨_, _, _, _, rfl, H3.1, Z2.out.1, Z2.out.2, HB.out⟩
theorem integer_Sign.run (s : Bool) (A : Option Addr) (k c a L1 : Nat) (w : World) (hv : NA w (.slice A k c) a L1) (hL : L1 ≤ 400000000) :
  Calls Tryz.prog 42 #[.agg #[.bool s, .slice A k c]] w fun e w' => e = .returned (.int .i64 (cmpZ (zi s a) 0)) ∧ Below w.heap.size w w' := by
 have H91 := Aside0.mk hv
 have HL := Aside0.mk hL
 have HB := Aside0.mk (Below.refl w.heap.size w)
 clear hv hL
 by_cases ha : a = 0
 ·
  have HA := Aside0.mk ha
  clear ha
  go_enter Tryz.func42, Tryz.ntmps42
  go_wp2_with (first | (go_at_call 65; (with_reducible refine (nat_Bits.run _ a L1 _ (H91.1.be HB.1) (by have := HL.out; omega)).mono ?_); rintro e w2 ⟨b2, rfl, hw, hi⟩; replace hw := Eq.symm hw; subst hw; have HI2 := Aside0.mk hi; clear hi; have kb2 : (b2 == 0) = true := (by rw [beq_iff_eq]; exact HI2.out.1.2 (HA.out))) | ((with_reducible refine gate_dst (N := 1) rfl ?_); refine box_event (by rfl) (N := 1) (by rfl) (cs := #[.bool s, .slice A k c]) (t := 32) ?hr ?_; (case hr => first | (go_simp; done) | (go_simp; rfl)); intro g1 hgx w1 hbx hb; have B1 := As hbx; have G1 := Gg HB hgx; replace HB := Ob HB hb; clear hbx hb hgx; (try clear cb1_1); have cb1_1 := Cl1 B1))
  go_ret
  refine ⟨?_, HB.out⟩
  rw [HA.out]
  unfold zi cmpZ
  cases s <;> rfl
 ·
  have HA := Aside0.mk ha
  clear ha
  cases s
  ·
   go_enter Tryz.func42, Tryz.ntmps42
   go_wp2_with (first | (go_at_call 65; (with_reducible refine (nat_Bits.run _ a L1 _ (H91.1.be HB.1) (by have := HL.out; omega)).mono ?_); rintro e w2 ⟨b2, rfl, hw, hi⟩; replace hw := Eq.symm hw; subst hw; have HI2 := Aside0.mk hi; clear hi; have kb2 : (b2 == 0) = false := (by rw [beq_eq_false_iff_ne]; intro e_; exact (HA.out) (HI2.out.1.1 e_)); (try clear cb1_0); have cb1_0 := Cl0 B1) | ((with_reducible refine gate_dst (N := 1) rfl ?_); refine box_event (by rfl) (N := 1) (by rfl) (cs := #[.bool false, .slice A k c]) (t := 32) ?hr ?_; (case hr => first | (go_simp; done) | (go_simp; rfl)); intro g1 hgx w1 hbx hb; have B1 := As hbx; have G1 := Gg HB hgx; replace HB := Ob HB hb; clear hbx hb hgx; (try clear cb1_1); have cb1_1 := Cl1 B1))
   go_ret
   refine ⟨?_, HB.out⟩
   have := HA.out
   rw [show cmpZ (zi false a) 0 = 1 by unfold zi cmpZ; simp; omega]
   rfl
  ·
   go_enter Tryz.func42, Tryz.ntmps42
   go_wp2_with (first | (go_at_call 65; (with_reducible refine (nat_Bits.run _ a L1 _ (H91.1.be HB.1) (by have := HL.out; omega)).mono ?_); rintro e w2 ⟨b2, rfl, hw, hi⟩; replace hw := Eq.symm hw; subst hw; have HI2 := Aside0.mk hi; clear hi; have kb2 : (b2 == 0) = false := (by rw [beq_eq_false_iff_ne]; intro e_; exact (HA.out) (HI2.out.1.1 e_)); (try clear cb1_0); have cb1_0 := Cl0 B1) | ((with_reducible refine gate_dst (N := 1) rfl ?_); refine box_event (by rfl) (N := 1) (by rfl) (cs := #[.bool true, .slice A k c]) (t := 32) ?hr ?_; (case hr => first | (go_simp; done) | (go_simp; rfl)); intro g1 hgx w1 hbx hb; have B1 := As hbx; have G1 := Gg HB hgx; replace HB := Ob HB hb; clear hbx hb hgx; (try clear cb1_1); have cb1_1 := Cl1 B1))
   go_ret
   refine ⟨?_, HB.out⟩
   have := HA.out
   rw [show cmpZ (zi true a) 0 = -1 by unfold zi cmpZ; simp; omega]
   rfl
theorem integer_Neg.run (s : Bool) (A : Option Addr) (k c a L1 : Nat) (w : World) (hv : NA w (.slice A k c) a L1) (hL : L1 ≤ 400000000) :
  Calls Tryz.prog 119 #[.agg #[.bool s, .slice A k c]] w fun e w' => ∃ u A k c, e = .returned (.agg #[.bool u, .slice A k c]) ∧ NC w' (.slice A k c) (a) (L1) ∧ zi u (a) = -zi s a ∧ (u = true → a ≠ 0) ∧ Below w.heap.size w w' := by
 have H91 := Aside0.mk hv
 have HL := Aside0.mk hL
 have HB := Aside0.mk (Below.refl w.heap.size w)
 clear hv hL
 go_enter Tryz.func119, Tryz.ntmps119
 go_wp2_with (first | ((with_reducible refine gate_store (t := 32) (p := 2) rfl ?_); refine Sto (t := 32) (p := 2) (by rfl) (.tmp 8) (by rfl) (by rfl) g2 #[.bool s3, .slice A3 k3 c3] (by rfl) (by first | rfl | (go_simp; done) | (go_simp; rfl)) B2 (by kernel_rfl) rfl (by kernel_rfl) ?_; intro w5 ho hB2; replace H4 := As (H4.1.o2 ho B2); replace B1 := Oo B1 ho NE1_2; replace HB := Lo HB ho G2; replace B2 := hB2; clear ho hB2) | (go_at_call 69; (with_reducible refine (integer_Make.run _ _ a L1 _ (H91.1.be HB.1) (by have := HL.out; omega)).mono ?_); rintro e w3 ⟨s3, A3, k3, c3, rfl, hr3, hz3, hu3, hb⟩; have H4 := Aside0.mk hr3; have Z3 := Aside0.mk (And.intro hz3 hu3); clear hr3 hz3 hu3; replace B1 := Bb B1 hb; replace B2 := Bb B2 hb; replace HB := Ob HB hb; clear hb) | ((with_reducible refine gate_dst (N := 2) rfl ?_); refine box_event (by rfl) (N := 2) (by rfl) (cs := #[.bool false, .slice none 0 0]) (t := 32) ?hr ?_; (case hr => first | (go_simp; done) | (go_simp; rfl)); intro g2 hgx w2 hbx hb; have B2 := As hbx; have NE1_2 := Nn B1 hgx; have G2 := Gg HB hgx; replace B1 := Bb B1 hb; replace HB := Ob HB hb; clear hbx hb hgx; (try clear cb1_0); have cb1_0 := Cl0 B1; (try clear cb1_1); have cb1_1 := Cl1 B1) | ((with_reducible refine gate_dst (N := 1) rfl ?_); refine box_event (by rfl) (N := 1) (by rfl) (cs := #[.bool s, .slice A k c]) (t := 32) ?hr ?_; (case hr => first | (go_simp; done) | (go_simp; rfl)); intro g1 hgx w1 hbx hb; have B1 := As hbx; have G1 := Gg HB hgx; replace HB := Ob HB hb; clear hbx hb hgx))
 try simp only [Exit.inBlock, Exit.then]
 refine bodyPost_ret (results_cell_row rfl _ _ g2 32 #[.bool s3, .slice A3 k3 c3] (0, 0) _ rfl B2.out Tryz.underlying32 rfl (by kernel_rfl)) rfl ?_
 refine ⟨_, _, _, _, rfl, H4.1, ?_, Z3.out.2, HB.out⟩
 have hz := Z3.out.1
 rw [hz]
 unfold zi
 cases s <;> simp
theorem integer_Mul.run (s t : Bool) (A B : Option Addr) (k c l d a b L1 L2 : Nat) (w : World) (hv : NA w (.slice A k c) a L1) (hu : NA w (.slice B l d) b L2) (hL : L1 + L2 ≤ 400000000) :
  Calls Tryz.prog 41 #[.agg #[.bool s, .slice A k c], .agg #[.bool t, .slice B l d]] w fun e w' => ∃ u A k c, e = .returned (.agg #[.bool u, .slice A k c]) ∧ NC w' (.slice A k c) (a * b) (L1 + L2) ∧ zi u (a * b) = zi s a * zi t b ∧ (u = true → a * b ≠ 0) ∧ Below w.heap.size w w' := by
 have H91 := Aside0.mk hv
 have H92 := Aside0.mk hu
 have HL := Aside0.mk hL
 have HB := Aside0.mk (Below.refl w.heap.size w)
 clear hv hu hL
 go_enter Tryz.func41, Tryz.ntmps41
 go_wp2_with (first | ((with_reducible refine gate_dst (N := 4) rfl ?_); refine box_event (by rfl) (N := 4) (by rfl) (cs := #[.bool false, .slice none 0 0]) (t := 32) ?hr ?_; (case hr => first | (go_simp; done) | (go_simp; rfl)); intro g4 hgx w3 hbx hb; have B4 := As hbx; have NE2_4 := Nn B2 hgx; have NE3_4 := Nn B3 hgx; have G4 := Gg HB hgx; replace B2 := Bb B2 hb; replace B3 := Bb B3 hb; replace HB := Ob HB hb; clear hbx hb hgx) | ((with_reducible refine gate_dst (N := 3) rfl ?_); refine box_event (by rfl) (N := 3) (by rfl) (cs := #[.bool t, .slice B l d]) (t := 32) ?hr ?_; (case hr => first | (go_simp; done) | (go_simp; rfl)); intro g3 hgx w2 hbx hb; have B3 := As hbx; have NE2_3 := Nn B2 hgx; have G3 := Gg HB hgx; replace B2 := Bb B2 hb; replace HB := Ob HB hb; clear hbx hb hgx) | ((with_reducible refine gate_dst (N := 2) rfl ?_); refine box_event (by rfl) (N := 2) (by rfl) (cs := #[.bool s, .slice A k c]) (t := 32) ?hr ?_; (case hr => first | (go_simp; done) | (go_simp; rfl)); intro g2 hgx w1 hbx hb; have B2 := As hbx; have G2 := Gg HB hgx; replace HB := Ob HB hb; clear hbx hb hgx))
 replace B2 := Bd B2
 replace B3 := Bd B3
 replace B4 := Bd B4
 replace HB := Od HB
 refine start_ (n := 12) (S := fun w' => w'.cell? ⟨g2, 0, none⟩ = some (.bool s) ∧ w'.cell? ⟨g3, 0, none⟩ = some (.bool t) ∧ w'.cell? ⟨g2, 1, none⟩ = some (.slice A k c) ∧ w'.cell? ⟨g3, 1, none⟩ = some (.slice B l d)) (ds := [11]) (Bt 12 0) (by kernel_rfl) rfl (by kernel_rfl) ⟨Cl0 B2, Cl0 B3, Cl1 B2, Cl1 B3⟩ (fun hHeld => ?_)
 generalize w3.drew = w4 at hHeld B2 B3 B4 HB ⊢
 refine pure_ (i := 0) (N := some 5) (v := ?_) (a' := ?_) (Bt 12 1) rfl rfl (by kernel_rfl) (fun _ _ _ h => h) (Or.inl ⟨by rfl, ?_⟩) ?_ ?_
 rotate_left
 ·
  intro w'
  go_simp
  with_reducible rfl
 rotate_left
 ·
  simp only [Nrm, Option.some.injEq, List.setIfInBounds_toArray, List.set_cons_zero, List.set_cons_succ, i64_w, i32_w]
  rfl
 refine pure_ (i := 2) (N := some 7) (v := ?_) (a' := ?_) (Bt 12 5) rfl rfl (by kernel_rfl) (fun _ _ _ h => h) (Or.inl ⟨by rfl, ?_⟩) ?_ ?_
 rotate_left
 ·
  intro w'
  go_simp
  with_reducible rfl
 rotate_left
 ·
  simp only [Nrm, Option.some.injEq, List.setIfInBounds_toArray, List.set_cons_zero, List.set_cons_succ, i64_w, i32_w]
  rfl
 refine pure_ (i := 5) (N := some 10) (v := ?_) (a' := ?_) (Bt 12 37) rfl rfl (by kernel_rfl) (fun _ _ _ h => h) (Or.inl ⟨by rfl, ?_⟩) ?_ ?_
 rotate_left
 ·
  intro w'
  go_simp
  with_reducible rfl
 rotate_left
 ·
  simp only [Nrm, Option.some.injEq, List.setIfInBounds_toArray, List.set_cons_zero, List.set_cons_succ, i64_w, i32_w]
  rfl
 refine pure_ (i := 7) (N := some 12) (v := ?_) (a' := ?_) (Bt 12 165) rfl rfl (by kernel_rfl) (fun _ _ _ h => h) (Or.inl ⟨by rfl, ?_⟩) ?_ ?_
 rotate_left
 ·
  intro w'
  go_simp
  with_reducible rfl
 rotate_left
 ·
  simp only [Nrm, Option.some.injEq, List.setIfInBounds_toArray, List.set_cons_zero, List.set_cons_succ, i64_w, i32_w]
  rfl
 refine take_ (i := 1) (N := some 6) (v := ?_) (a' := ?_) (Bt 12 167) rfl rfl (by kernel_rfl) (fun _ _ _ h => h) (Or.inl ⟨by rfl, ?_⟩) hHeld ?_ ?_
 rotate_left
 ·
  rintro w' ⟨s0, s1, s2, s3⟩
  go_simp
  with_reducible rfl
 rotate_left
 ·
  simp only [Nrm, Option.some.injEq, List.setIfInBounds_toArray, List.set_cons_zero, List.set_cons_succ, i64_w, i32_w]
  rfl
 refine take_ (i := 3) (N := some 8) (v := ?_) (a' := ?_) (Bt 12 175) rfl rfl (by kernel_rfl) (fun _ _ _ h => h) (Or.inl ⟨by rfl, ?_⟩) hHeld ?_ ?_
 rotate_left
 ·
  rintro w' ⟨s0, s1, s2, s3⟩
  go_simp
  with_reducible rfl
 rotate_left
 ·
  simp only [Nrm, Option.some.injEq, List.setIfInBounds_toArray, List.set_cons_zero, List.set_cons_succ, i64_w, i32_w]
  rfl
 refine pure_ (i := 4) (N := some 9) (v := ?_) (a' := ?_) (Bt 12 191) rfl rfl (by kernel_rfl) (fun _ _ _ h => h) (Or.inl ⟨by rfl, ?_⟩) ?_ ?_
 rotate_left
 ·
  intro w'
  go_simp
  with_reducible rfl
 rotate_left
 ·
  simp only [Nrm, Option.some.injEq, List.setIfInBounds_toArray, List.set_cons_zero, List.set_cons_succ, i64_w, i32_w]
  rfl
 refine take_ (i := 6) (N := some 11) (v := ?_) (a' := ?_) (Bt 12 255) rfl rfl (by kernel_rfl) (fun _ _ _ h => h) (Or.inl ⟨by rfl, ?_⟩) hHeld ?_ ?_
 rotate_left
 ·
  rintro w' ⟨s0, s1, s2, s3⟩
  go_simp
  with_reducible rfl
 rotate_left
 ·
  simp only [Nrm, Option.some.injEq, List.setIfInBounds_toArray, List.set_cons_zero, List.set_cons_succ, i64_w, i32_w]
  rfl
 refine take_ (i := 8) (N := some 13) (v := ?_) (a' := ?_) (Bt 12 511) rfl rfl (by kernel_rfl) (fun _ _ _ h => h) (Or.inl ⟨by rfl, ?_⟩) hHeld ?_ ?_
 rotate_left
 ·
  rintro w' ⟨s0, s1, s2, s3⟩
  go_simp
  with_reducible rfl
 rotate_left
 ·
  simp only [Nrm, Option.some.injEq, List.setIfInBounds_toArray, List.set_cons_zero, List.set_cons_succ, i64_w, i32_w]
  rfl
 refine one_ (i := 9) (N := some 14) (Bt 12 1023) rfl rfl (by kernel_rfl) (by decide) (fun K hK => ?_)
 refine goes_ Tryz.func70 (by kernel_rfl) rfl #[.slice A k c, .slice B l d] (by rfl) rfl rfl (by (try simp only [List.map_toArray, List.map_cons, List.map_nil]); first | done | rfl) ?_
 with_reducible refine (nat_Mul.run _ _ a b L1 L2 _ (H91.1.be HB.1) (H92.1.be HB.1) (by have := HL.out; omega)).mono ?_
 rintro e w113 ⟨r113, rfl, hr113, hb⟩
 refine ⟨_, rfl, ?_⟩
 obtain ⟨A113, k113, c113, rfl⟩ := hr113.sl
 have H114 := Aside0.mk hr113
 clear hr113
 replace B2 := Bb B2 hb
 replace B3 := Bb B3 hb
 replace B4 := Bb B4 hb
 replace HB := Ob HB hb
 clear hb
 refine hK.out _ _ ⟨Cl0 B2, Cl0 B3, Cl1 B2, Cl1 B3⟩ (fun hHeld => ?_)
 clear hK K
 refine norm_ (a' := ?_) ?_ ?_
 rotate_left
 ·
  show Act.put _ (some 14) _ = _
  simp only [Nrm, Option.some.injEq, List.setIfInBounds_toArray, List.set_cons_zero, List.set_cons_succ, i64_w, i32_w]
  rfl
 refine one_ (i := 10) (N := some 15) (Bt 12 2047) rfl rfl (by kernel_rfl) (by decide) (fun K hK => ?_)
 refine goes_ Tryz.func69 (by kernel_rfl) rfl #[.bool (s != t), .slice A113 k113 c113] (by rfl) rfl rfl (by (try simp only [List.map_toArray, List.map_cons, List.map_nil]); first | done | rfl) ?_
 with_reducible refine (integer_Make.run _ _ (a * b) (L1 + L2) _ H114.1.na (by have := HL.out; omega)).mono ?_
 rintro e w125 ⟨s125, A125, k125, c125, rfl, hr125, hz125, hu125, hb⟩
 refine ⟨_, rfl, ?_⟩
 have H126 := Aside0.mk hr125
 have Z125 := Aside0.mk (And.intro hz125 hu125)
 clear hr125 hz125 hu125
 replace H114 := As (H114.1.be hb)
 replace B2 := Bb B2 hb
 replace B3 := Bb B3 hb
 replace B4 := Bb B4 hb
 replace HB := Ob HB hb
 clear hb
 refine hK.out _ _ ⟨Cl0 B2, Cl0 B3, Cl1 B2, Cl1 B3⟩ (fun hHeld => ?_)
 clear hK K
 refine norm_ (a' := ?_) ?_ ?_
 rotate_left
 ·
  show Act.put _ (some 15) _ = _
  simp only [Nrm, Option.some.injEq, List.setIfInBounds_toArray, List.set_cons_zero, List.set_cons_succ, i64_w, i32_w]
  rfl
 refine last_ (i := 11) (N := none) (Bt 12 4095) rfl rfl (by kernel_rfl) (by decide) (fun K hK => ?_)
 (try clear cb4_0)
 have cb4_0 := Cl0 B4
 (try clear fb4_0)
 have fb4_0 := Fz B4 0
 (try clear cb4_1)
 have cb4_1 := Cl1 B4
 (try clear fb4_1)
 have fb4_1 := Fz B4 1
 refine skip_ (w1 := ?_) (by rfl) rfl ?_ ?_
 rotate_left
 ·
  go_simp
  rfl
 generalize hw : ((w125.setCell ⟨g4, 0, none⟩ (.bool s125)).setCell ⟨g4, 1, none⟩ (.slice A125 k125 c125)) = w137
 replace hw := Eq.symm hw
 have ho : Only w125 w137 g4 := (by rw [hw]; exact Only.setg (Only.setg (Only.refl _ _) 0 _) 1 _)
 have hB2 : w137.heap[g4]? = some (.cells #[.bool s125, .slice A125 k125 c125] 32 (0, 0)) := (by rw [hw]; exact (blk_put (blk_put B4.out 0 _ rfl) 1 _ rfl))
 replace H114 := As (H114.1.o2 ho B4)
 replace H126 := As (H126.1.o2 ho B4)
 replace B2 := Oo B2 ho NE2_4
 replace B3 := Oo B3 ho NE3_4
 replace HB := Lo HB ho G4
 replace B4 := As hB2
 clear hw ho hB2
 refine hK.out _ _ ?_
 clear hK K
 refine done_ (by kernel_rfl) ?_
 go_wp2
 try simp only [Exit.inBlock, Exit.then]
 refine bodyPost_ret (results_cell_row rfl _ _ g4 32 #[.bool s125, .slice A125 k125 c125] (0, 0) _ rfl B4.out Tryz.underlying32 rfl (by kernel_rfl)) rfl ?_
 refine ⟨_, _, _, _, rfl, H126.1, ?_, Z125.out.2, HB.out⟩
 have hz := Z125.out.1
 rw [hz, zi_mul]
end Go.Proofs.YtnmfmiemkcaocaaGreat.Hand
