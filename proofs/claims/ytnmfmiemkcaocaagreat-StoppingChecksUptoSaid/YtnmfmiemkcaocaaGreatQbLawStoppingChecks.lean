/- The row of StoppingChecks, under the bound on the bulk of what comes in. No other condition. -/
import Derived.Test.YtnmfmiemkcaocaaGreatQb12
import Derived.Test.YtnmfmiemkcaocaaGreatRows
import Derived.WalkKit
import Derived.ProofKit
import Derived.OpenShut
import Derived.ChangeOld
import Derived.Below
import Derived.SizedLaws
import Derived.JoinedCond
import Derived.WideShapes
namespace Go.Proofs.YtnmfmiemkcaocaaGreat.Hand
open Go.RowKit Go.Proofs.YtnmfmiemkcaocaaGreatW.PrintWords Go.Proofs.YtnmfmiemkcaocaaGreatW.PrintLast Go.Proofs.YtnmfmiemkcaocaaGreatW.PrintMore
set_option linter.unusedVariables false
set_option linter.unusedSimpArgs false
theorem inR_iff {x lo hi : Int} : inR x lo hi = true ↔ lo ≤ x ∧ x ≤ hi := by unfold inR; rw [Bool.and_eq_true, decide_eq_true_iff, decide_eq_true_iff]
theorem blueV_len {n : Int} {rs : List RuleT} (h : blueV n rs = 0) : 1 ≤ n ∧ n ≤ 18 := by
 unfold blueV at h
 split at h
 ·
  rename_i h1
  exact inR_iff.1 h1
 ·
  omega
theorem validV_ok {p : Pol} (h : validV p = 0) : (1 ≤ p.len ∧ p.len ≤ 18) ∧ (0 ≤ p.mn ∧ p.mn ≤ p.len) ∧ 0 ≤ pn p.vs p.vx p.vy ∧ 0 ≤ p.cut := by
 unfold validV at h
 split at h
 ·
  exact absurd h (by assumption)
 split at h
 ·
  exact absurd h (by assumption)
 split at h
 ·
  omega
 split at h
 ·
  omega
 rename_i h1 _ _ h2
 simp only [ne_eq, Decidable.not_not, Bool.or_eq_true, Bool.not_eq_true', decide_eq_true_eq, not_or, Bool.not_eq_false, Int.not_lt] at h1 h2
 exact ⟨blueV_len h1, inR_iff.1 h2.1.1, h2.1.2, (inR_iff.1 h2.2).1⟩
theorem firstL_congr {p q : Pol} (h : ∀ n ns, reasonV p n ns = reasonV q n ns) : ∀ (l : List (List Nat)) (i : Int), firstL p i l = firstL q i l
 | [], _ => rfl
 | _ :: l, i => by rw [firstL, firstL, h, firstL_congr h l]
theorem firstV_congr {p q : Pol} (h : ∀ n ns, reasonV p n ns = reasonV q n ns) (hv : validV p = validV q) (l : List (List Nat)) : firstV p l = firstV q l := by
 unfold firstV
 rw [hv, firstL_congr h]
def fullP (p : Pol) : Pol := { p with vs := false, vA := none, vk := 0, vc := 0, vB := none, vl := 1, vd := 1, vx := 0, vy := 1, cut := 0 }
theorem full_reason (p : Pol) (n : Int) (ns : List Nat) (h : (reasonV (fullP p) n ns).2 = 0) : (reasonV (fullP p) n ns).1 = if p.len ≤ n then 1 else 0 := by
 have hx : ¬ exactP (fullP p) ns := by
  rintro ⟨h, _⟩
  have h' : (0 : Int) < 0 := h
  exact absurd h' (by decide)
 have hd : (decV (fullP p) ns).1 = false := by
  unfold decV
  split
  ·
   rfl
  split
  ·
   rfl
  ·
   rename_i h
   exact absurd (show (fullP p).cut = 0 from rfl) h
 have hlen : (fullP p).len = p.len := rfl
 unfold reasonV at h ⊢
 rw [if_neg hx, hd, hlen] at h ⊢
 by_cases a : validV (fullP p) ≠ 0
 ·
  rw [if_pos a] at h; exact absurd h a
 rw [if_neg a] at h ⊢
 by_cases b : n < 0
 ·
  rw [if_pos b] at h; exact absurd h (by decide)
 rw [if_neg b] at h ⊢
 by_cases d : checkV (fullP p).ps (fullP p).qs ns ≠ 0
 ·
  rw [if_pos d] at h; exact absurd h d
 rw [if_neg d] at h ⊢
 by_cases c : p.len ≤ n
 ·
  rw [if_pos c, if_pos c]
 ·
  rw [if_neg c, if_neg c]
  split
  ·
   rfl
  split
  ·
   rfl
  ·
   rfl
theorem full_list (p : Pol) : ∀ (l : List (List Nat)) (i : Int), i < p.len → (firstL (fullP p) i l).2.2 = 0 →
  if (l.length : Int) + i < p.len then (firstL (fullP p) i l).1 = 0 ∧ (firstL (fullP p) i l).2.1 = 0 else (firstL (fullP p) i l).1 = p.len ∧ (firstL (fullP p) i l).2.1 = 1
 | [], i, hi, _ => by
  rw [if_pos (by simpa using hi)]
  exact ⟨rfl, rfl⟩
 | ns :: l, i, hi, h => by
  by_cases hc : (reasonV (fullP p) (i + 1) ns).2 ≠ 0
  ·
   rw [firstL, if_pos hc] at h
   exact absurd h hc
  have hr := full_reason p (i + 1) ns (by simpa using hc)
  by_cases c : p.len ≤ i + 1
  ·
   rw [if_pos c] at hr
   have e : firstL (fullP p) i (ns :: l) = (i + 1, 1, 0) := by rw [firstL, if_neg hc, hr, if_pos (by decide)]
   rw [e, if_neg (by simp only [List.length_cons]; omega)]
   exact ⟨by show i + 1 = _; omega, rfl⟩
  ·
   rw [if_neg c] at hr
   have e : firstL (fullP p) i (ns :: l) = firstL (fullP p) (i + 1) l := by rw [firstL, if_neg hc, hr, if_neg (by decide)]
   rw [e] at h ⊢
   have := full_list p l (i + 1) (by omega) h
   rw [show ((ns :: l).length : Int) + i = (l.length : Int) + (i + 1) by simp only [List.length_cons]; omega]
   exact this
theorem full_law (p : Pol) (l : List (List Nat)) (h : (firstV (fullP p) l).2.2 = 0) :
  if (l.length : Int) < p.len then (firstV (fullP p) l).1 = 0 ∧ (firstV (fullP p) l).2.1 = 0 else (firstV (fullP p) l).1 = p.len ∧ (firstV (fullP p) l).2.1 = 1 := by
 unfold firstV at h ⊢
 split at h
 ·
  rename_i hc; exact absurd h hc
 rename_i hc
 split at h
 ·
  exact absurd h (by decide)
 rename_i h18
 rw [if_neg hc, if_neg h18]
 have hv := (validV_ok (p := fullP p) (by simpa using hc)).1.1
 have hq : (0 : Int) < p.len := by
  have e : (fullP p).len = p.len := rfl
  omega
 have := full_list p l 0 hq h
 rw [Int.add_zero] at this
 exact this
theorem full_first {w : World} (p : Pol) (g : Nat) (A : Option Addr) (cap : Nat) (ws : List (List (List Int))) (L2 : Nat) (ok : PolOK w p 1100000) (hB : NA w (.slice (some ⟨g, 0, none⟩) 1 1) 1 1) (hw : WWR w A ws L2) (hl : ws.length ≤ 100000000) (hL2 : L2 ≤ 1100000) (fv : Int × Int × Int) (hr : firstV (fullP p) (ws.map wn) = fv) :
  Calls Tryz.prog 16 #[.agg #[.int .i64 p.len, .slice p.RA p.rs.length p.rc, .slice p.PA p.ps.length p.pc, .slice p.QA p.qs.length p.qc, .slice p.EA p.en p.ec, .int .i64 p.mn, .bool false, .slice none 0 0, .slice (some ⟨g, 0, none⟩) 1 1, .int .i64 0, .bool p.ls, .slice p.lA p.lk p.lc, .slice p.lB p.ll p.ld, .int .i64 p.top, .bool p.ts, .slice p.tA p.tk p.tc, .slice p.tB p.tl p.td, .int .i64 p.slack], .slice A ws.length cap] w fun e w' => e = .returned (.tuple #[.int .i64 fv.1, .int .i64 fv.2.1, .int .i64 fv.2.2]) ∧ Below w.heap.size w w' := by
 have ok2 : PolOK w { p with vs := false, vA := none, vk := 0, vc := 0, vB := some ⟨g, 0, none⟩, vl := 1, vd := 1, vx := 0, vy := 1, cut := 0 } 1100000 :=
  ⟨ok.rs, ok.rsz, ok.ps, ok.psc, ok.psl, ok.qs, (NC.nil _ _).na, hB.mono (by decide), ok.ln, ok.ld, ok.tn, ok.td, ok.lim⟩
 have := stopping_First.run _ 1100000 A cap ws L2 w ok2 hw hl hL2
 rw [firstV_congr (p := { p with vs := false, vA := none, vk := 0, vc := 0, vB := some ⟨g, 0, none⟩, vl := 1, vd := 1, vx := 0, vy := 1, cut := 0 }) (q := fullP p) (fun _ _ => rfl) rfl, hr] at this
 exact this
set_option maxHeartbeats 8000000 in
set_option maxRecDepth 100000 in
theorem law_Full.run (p : Pol) (A : Option Addr) (cap : Nat) (ws : List (List (List Int))) (L2 : Nat) (w : World) (ok : PolOK w p 1100000) (hw : WWR w A ws L2) (hl : ws.length ≤ 100000000) (hL2 : L2 ≤ 1100000) :
  Calls Tryz.prog 7 #[.agg #[.int .i64 p.len, .slice p.RA p.rs.length p.rc, .slice p.PA p.ps.length p.pc, .slice p.QA p.qs.length p.qc, .slice p.EA p.en p.ec, .int .i64 p.mn, .bool p.vs, .slice p.vA p.vk p.vc, .slice p.vB p.vl p.vd, .int .i64 p.cut, .bool p.ls, .slice p.lA p.lk p.lc, .slice p.lB p.ll p.ld, .int .i64 p.top, .bool p.ts, .slice p.tA p.tk p.tc, .slice p.tB p.tl p.td, .int .i64 p.slack], .slice A ws.length cap] w fun e w' => e = .returned (.bool true) ∧ Below w.heap.size w w' := by
 have PO := Aside0.mk ok
 have HW := Aside0.mk hw
 have HL := Aside0.mk (And.intro hl hL2)
 have HB := Aside0.mk (Below.refl w.heap.size w)
 clear ok hw hl hL2
 obtain ⟨fv, hfv⟩ : ∃ v, firstV (fullP p) (ws.map wn) = v := ⟨_, rfl⟩
 have HF := Aside0.mk hfv
 have hx := full_law p (ws.map wn)
 rw [hfv, List.length_map] at hx
 clear hfv
 by_cases ca : fv.2.2 = 0
 ·
  replace hx := hx ca
  have kca : (fv.2.2 == 0) = true := by rw [beq_iff_eq]; exact ca
  have kcan : (fv.2.2 != 0) = false := by rw [bne, kca]; rfl
  by_cases cb : (ws.length : Int) < p.len
  ·
   rw [if_pos cb] at hx
   have kb : decide ((ws.length : Int) < p.len) = true := decide_eq_true cb
   obtain ⟨h1, h2⟩ := hx
   have kh1 : (fv.1 == 0) = true := by rw [beq_iff_eq]; exact h1
   have kh1n : (fv.1 != 0) = false := by rw [bne, kh1]; rfl
   have kh2 : (fv.2.1 == 0) = true := by rw [beq_iff_eq]; exact h2
   have kh2n : (fv.2.1 != 0) = false := by rw [bne, kh2]; rfl
   clear ca cb h1 h2
   go_enter Tryz.func7, Tryz.ntmps7
   go_wp2_with (first | (go_at_call 11; (with_reducible refine (law_awake.run _).mono ?_); rintro e w7 ⟨rfl, hb⟩; replace H3 := As (H3.1.be hb); replace B2 := Bb B2 hb; replace HB := Ob HB hb; clear hb) | (go_at_call 16; (with_reducible refine (full_first p g8 A cap ws L2 (PO.out.below HB.out) H3.out.na (HW.out.below HB.out) HL.out.1 HL.out.2 fv HF.out).mono ?_); rintro e w6 ⟨rfl, hb⟩; replace H3 := As (H3.1.be hb); replace B2 := Bb B2 hb; replace HB := Ob HB hb; clear hb; (try clear cb2_0); have cb2_0 := Cl0 B2) | ((with_reducible refine gate_dst (N := 13) rfl ?_); refine wpList_load_row (by rfl) 36 (.tmp 2) (by rfl) g2 (by rfl) 36 #[.int .i64 p.len, .slice p.RA p.rs.length p.rc, .slice p.PA p.ps.length p.pc, .slice p.QA p.qs.length p.qc, .slice p.EA p.en p.ec, .int .i64 p.mn, .bool false, .slice none 0 0, .slice (some ⟨g8, 0, none⟩) 1 1, .int .i64 0, .bool p.ls, .slice p.lA p.lk p.lc, .slice p.lB p.ll p.ld, .int .i64 p.top, .bool p.ts, .slice p.tA p.tk p.tc, .slice p.tB p.tl p.td, .int .i64 p.slack] (0, 0) _ B2.out Tryz.underlying36 rfl (by kernel_rfl) ?_) | ((with_reducible refine gate_store (t := 3) (p := 11) rfl ?_); refine store_event (t := 3) (p := 11) (v := ?vo2) (w1 := (w4.setCell ⟨g2, 9, none⟩ (.int .i64 0))) ?hg ?ho ?hn ?hr ?_; (case ho => rfl); (case hg => rfl); (case hn => rfl); (case hr => first | (go_simp; done) | (go_simp; rfl)); intro w5 hw; have ho : Only w4 w5 g2 := (by rw [hw]; exact Only.setg (Only.refl _ _) 9 _); have hB2 : w5.heap[g2]? = some (.cells #[.int .i64 p.len, .slice p.RA p.rs.length p.rc, .slice p.PA p.ps.length p.pc, .slice p.QA p.qs.length p.qc, .slice p.EA p.en p.ec, .int .i64 p.mn, .bool false, .slice none 0 0, .slice (some ⟨g8, 0, none⟩) 1 1, .int .i64 0, .bool p.ls, .slice p.lA p.lk p.lc, .slice p.lB p.ll p.ld, .int .i64 p.top, .bool p.ts, .slice p.tA p.tk p.tc, .slice p.tB p.tl p.td, .int .i64 p.slack] 36 (0, 0)) := (by rw [hw]; exact (blk_put B2.out 9 _ rfl)); replace H3 := As (H3.1.only ho B2.1 nl18); replace HB := Lo HB ho G2; replace B2 := As hB2; clear hw ho hB2) | ((with_reducible refine gate_store (t := 34) (p := 10) rfl ?_); refine store_event (t := 34) (p := 10) (v := ?vo1) (w1 := (((w2.setCell ⟨g2, 6, none⟩ (.bool false)).setCell ⟨g2, 7, none⟩ (.slice none 0 0)).setCell ⟨g2, 8, none⟩ (.slice (some ⟨g8, 0, none⟩) 1 1))) ?hg ?ho ?hn ?hr ?_; (case ho => rfl); (case hg => rfl); (case hn => rfl); (case hr => first | (go_simp; done) | (go_simp; rfl)); intro w4 hw; have ho : Only w2 w4 g2 := (by rw [hw]; exact Only.setg (Only.setg (Only.setg (Only.refl _ _) 6 _) 7 _) 8 _); have hB2 : w4.heap[g2]? = some (.cells #[.int .i64 p.len, .slice p.RA p.rs.length p.rc, .slice p.PA p.ps.length p.pc, .slice p.QA p.qs.length p.qc, .slice p.EA p.en p.ec, .int .i64 p.mn, .bool false, .slice none 0 0, .slice (some ⟨g8, 0, none⟩) 1 1, .int .i64 p.cut, .bool p.ls, .slice p.lA p.lk p.lc, .slice p.lB p.ll p.ld, .int .i64 p.top, .bool p.ts, .slice p.tA p.tk p.tc, .slice p.tB p.tl p.td, .int .i64 p.slack] 36 (0, 0)) := (by rw [hw]; exact (blk_put (blk_put (blk_put B2.out 6 _ rfl) 7 _ rfl) 8 _ rfl)); replace H3 := As (H3.1.only ho B2.1 nl18); replace HB := Lo HB ho G2; replace B2 := As hB2; clear hw ho hB2; (try clear cb2_9); have cb2_9 := Cl9 B2; (try clear fb2_9); have fb2_9 := Fz B2 9) | ((with_reducible refine gate_dst (N := 8) rfl ?_); refine ev_row (by rfl) #[.int .u32 1] 52 1 ?hr ?_; (case hr => first | (go_simp; done) | (go_simp; rfl)); intro g8 hgx w2 hbx hb; have H3 := Aside0.mk (NA.ofRow1 (a := 1) hbx (by decide)); replace B2 := Bb B2 hb; replace HB := Ob HB hb; clear hbx hb hgx; (try clear cb2_6); have cb2_6 := Cl6 B2; (try clear fb2_6); have fb2_6 := Fz B2 6; (try clear cb2_7); have cb2_7 := Cl7 B2; (try clear fb2_7); have fb2_7 := Fz B2 7; (try clear cb2_8); have cb2_8 := Cl8 B2; (try clear fb2_8); have fb2_8 := Fz B2 8) | ((with_reducible refine gate_dst (N := 2) rfl ?_); refine box_event (by rfl) (N := 2) (by rfl) (cs := #[.int .i64 p.len, .slice p.RA p.rs.length p.rc, .slice p.PA p.ps.length p.pc, .slice p.QA p.qs.length p.qc, .slice p.EA p.en p.ec, .int .i64 p.mn, .bool p.vs, .slice p.vA p.vk p.vc, .slice p.vB p.vl p.vd, .int .i64 p.cut, .bool p.ls, .slice p.lA p.lk p.lc, .slice p.lB p.ll p.ld, .int .i64 p.top, .bool p.ts, .slice p.tA p.tk p.tc, .slice p.tB p.tl p.td, .int .i64 p.slack]) (t := 36) ?hr ?_; (case hr => first | (go_simp; done) | (go_simp; rfl)); intro g2 hgx w1 hbx hb; have B2 := As hbx; have G2 := Gg HB hgx; replace HB := Ob HB hb; clear hbx hb hgx))
   go_ret
   exact ⟨rfl, HB.out⟩
  ·
   rw [if_neg cb] at hx
   have kb : decide ((ws.length : Int) < p.len) = false := decide_eq_false cb
   obtain ⟨h1, h2⟩ := hx
   have kh1 : (fv.1 == p.len) = true := by rw [beq_iff_eq]; exact h1
   have kh1n : (fv.1 != p.len) = false := by rw [bne, kh1]; rfl
   have kh2 : (fv.2.1 == 1) = true := by rw [beq_iff_eq]; exact h2
   have kh2n : (fv.2.1 != 1) = false := by rw [bne, kh2]; rfl
   clear ca cb h1 h2
   go_enter Tryz.func7, Tryz.ntmps7
   go_wp2_with (first | (go_at_call 11; (with_reducible refine (law_awake.run _).mono ?_); rintro e w7 ⟨rfl, hb⟩; replace H3 := As (H3.1.be hb); replace B2 := Bb B2 hb; replace HB := Ob HB hb; clear hb) | (go_at_call 16; (with_reducible refine (full_first p g8 A cap ws L2 (PO.out.below HB.out) H3.out.na (HW.out.below HB.out) HL.out.1 HL.out.2 fv HF.out).mono ?_); rintro e w6 ⟨rfl, hb⟩; replace H3 := As (H3.1.be hb); replace B2 := Bb B2 hb; replace HB := Ob HB hb; clear hb; (try clear cb2_0); have cb2_0 := Cl0 B2) | ((with_reducible refine gate_dst (N := 13) rfl ?_); refine wpList_load_row (by rfl) 36 (.tmp 2) (by rfl) g2 (by rfl) 36 #[.int .i64 p.len, .slice p.RA p.rs.length p.rc, .slice p.PA p.ps.length p.pc, .slice p.QA p.qs.length p.qc, .slice p.EA p.en p.ec, .int .i64 p.mn, .bool false, .slice none 0 0, .slice (some ⟨g8, 0, none⟩) 1 1, .int .i64 0, .bool p.ls, .slice p.lA p.lk p.lc, .slice p.lB p.ll p.ld, .int .i64 p.top, .bool p.ts, .slice p.tA p.tk p.tc, .slice p.tB p.tl p.td, .int .i64 p.slack] (0, 0) _ B2.out Tryz.underlying36 rfl (by kernel_rfl) ?_) | ((with_reducible refine gate_store (t := 3) (p := 11) rfl ?_); refine store_event (t := 3) (p := 11) (v := ?vo4) (w1 := (w4.setCell ⟨g2, 9, none⟩ (.int .i64 0))) ?hg ?ho ?hn ?hr ?_; (case ho => rfl); (case hg => rfl); (case hn => rfl); (case hr => first | (go_simp; done) | (go_simp; rfl)); intro w5 hw; have ho : Only w4 w5 g2 := (by rw [hw]; exact Only.setg (Only.refl _ _) 9 _); have hB2 : w5.heap[g2]? = some (.cells #[.int .i64 p.len, .slice p.RA p.rs.length p.rc, .slice p.PA p.ps.length p.pc, .slice p.QA p.qs.length p.qc, .slice p.EA p.en p.ec, .int .i64 p.mn, .bool false, .slice none 0 0, .slice (some ⟨g8, 0, none⟩) 1 1, .int .i64 0, .bool p.ls, .slice p.lA p.lk p.lc, .slice p.lB p.ll p.ld, .int .i64 p.top, .bool p.ts, .slice p.tA p.tk p.tc, .slice p.tB p.tl p.td, .int .i64 p.slack] 36 (0, 0)) := (by rw [hw]; exact (blk_put B2.out 9 _ rfl)); replace H3 := As (H3.1.only ho B2.1 nl18); replace HB := Lo HB ho G2; replace B2 := As hB2; clear hw ho hB2) | ((with_reducible refine gate_store (t := 34) (p := 10) rfl ?_); refine store_event (t := 34) (p := 10) (v := ?vo3) (w1 := (((w2.setCell ⟨g2, 6, none⟩ (.bool false)).setCell ⟨g2, 7, none⟩ (.slice none 0 0)).setCell ⟨g2, 8, none⟩ (.slice (some ⟨g8, 0, none⟩) 1 1))) ?hg ?ho ?hn ?hr ?_; (case ho => rfl); (case hg => rfl); (case hn => rfl); (case hr => first | (go_simp; done) | (go_simp; rfl)); intro w4 hw; have ho : Only w2 w4 g2 := (by rw [hw]; exact Only.setg (Only.setg (Only.setg (Only.refl _ _) 6 _) 7 _) 8 _); have hB2 : w4.heap[g2]? = some (.cells #[.int .i64 p.len, .slice p.RA p.rs.length p.rc, .slice p.PA p.ps.length p.pc, .slice p.QA p.qs.length p.qc, .slice p.EA p.en p.ec, .int .i64 p.mn, .bool false, .slice none 0 0, .slice (some ⟨g8, 0, none⟩) 1 1, .int .i64 p.cut, .bool p.ls, .slice p.lA p.lk p.lc, .slice p.lB p.ll p.ld, .int .i64 p.top, .bool p.ts, .slice p.tA p.tk p.tc, .slice p.tB p.tl p.td, .int .i64 p.slack] 36 (0, 0)) := (by rw [hw]; exact (blk_put (blk_put (blk_put B2.out 6 _ rfl) 7 _ rfl) 8 _ rfl)); replace H3 := As (H3.1.only ho B2.1 nl18); replace HB := Lo HB ho G2; replace B2 := As hB2; clear hw ho hB2; (try clear cb2_9); have cb2_9 := Cl9 B2; (try clear fb2_9); have fb2_9 := Fz B2 9) | ((with_reducible refine gate_dst (N := 8) rfl ?_); refine ev_row (by rfl) #[.int .u32 1] 52 1 ?hr ?_; (case hr => first | (go_simp; done) | (go_simp; rfl)); intro g8 hgx w2 hbx hb; have H3 := Aside0.mk (NA.ofRow1 (a := 1) hbx (by decide)); replace B2 := Bb B2 hb; replace HB := Ob HB hb; clear hbx hb hgx; (try clear cb2_6); have cb2_6 := Cl6 B2; (try clear fb2_6); have fb2_6 := Fz B2 6; (try clear cb2_7); have cb2_7 := Cl7 B2; (try clear fb2_7); have fb2_7 := Fz B2 7; (try clear cb2_8); have cb2_8 := Cl8 B2; (try clear fb2_8); have fb2_8 := Fz B2 8) | ((with_reducible refine gate_dst (N := 2) rfl ?_); refine box_event (by rfl) (N := 2) (by rfl) (cs := #[.int .i64 p.len, .slice p.RA p.rs.length p.rc, .slice p.PA p.ps.length p.pc, .slice p.QA p.qs.length p.qc, .slice p.EA p.en p.ec, .int .i64 p.mn, .bool p.vs, .slice p.vA p.vk p.vc, .slice p.vB p.vl p.vd, .int .i64 p.cut, .bool p.ls, .slice p.lA p.lk p.lc, .slice p.lB p.ll p.ld, .int .i64 p.top, .bool p.ts, .slice p.tA p.tk p.tc, .slice p.tB p.tl p.td, .int .i64 p.slack]) (t := 36) ?hr ?_; (case hr => first | (go_simp; done) | (go_simp; rfl)); intro g2 hgx w1 hbx hb; have B2 := As hbx; have G2 := Gg HB hgx; replace HB := Ob HB hb; clear hbx hb hgx))
   go_ret
   exact ⟨rfl, HB.out⟩
 ·
  clear hx
  have kca : (fv.2.2 == 0) = false := by rw [beq_eq_false_iff_ne]; exact ca
  have kcan : (fv.2.2 != 0) = true := by rw [bne, kca]; rfl
  clear ca
  go_enter Tryz.func7, Tryz.ntmps7
  go_wp2_with (first | (go_at_call 11; (with_reducible refine (law_awake.run _).mono ?_); rintro e w7 ⟨rfl, hb⟩; replace H3 := As (H3.1.be hb); replace B2 := Bb B2 hb; replace HB := Ob HB hb; clear hb) | (go_at_call 16; (with_reducible refine (full_first p g8 A cap ws L2 (PO.out.below HB.out) H3.out.na (HW.out.below HB.out) HL.out.1 HL.out.2 fv HF.out).mono ?_); rintro e w6 ⟨rfl, hb⟩; replace H3 := As (H3.1.be hb); replace B2 := Bb B2 hb; replace HB := Ob HB hb; clear hb) | ((with_reducible refine gate_dst (N := 13) rfl ?_); refine wpList_load_row (by rfl) 36 (.tmp 2) (by rfl) g2 (by rfl) 36 #[.int .i64 p.len, .slice p.RA p.rs.length p.rc, .slice p.PA p.ps.length p.pc, .slice p.QA p.qs.length p.qc, .slice p.EA p.en p.ec, .int .i64 p.mn, .bool false, .slice none 0 0, .slice (some ⟨g8, 0, none⟩) 1 1, .int .i64 0, .bool p.ls, .slice p.lA p.lk p.lc, .slice p.lB p.ll p.ld, .int .i64 p.top, .bool p.ts, .slice p.tA p.tk p.tc, .slice p.tB p.tl p.td, .int .i64 p.slack] (0, 0) _ B2.out Tryz.underlying36 rfl (by kernel_rfl) ?_) | ((with_reducible refine gate_store (t := 3) (p := 11) rfl ?_); refine store_event (t := 3) (p := 11) (v := ?vo6) (w1 := (w4.setCell ⟨g2, 9, none⟩ (.int .i64 0))) ?hg ?ho ?hn ?hr ?_; (case ho => rfl); (case hg => rfl); (case hn => rfl); (case hr => first | (go_simp; done) | (go_simp; rfl)); intro w5 hw; have ho : Only w4 w5 g2 := (by rw [hw]; exact Only.setg (Only.refl _ _) 9 _); have hB2 : w5.heap[g2]? = some (.cells #[.int .i64 p.len, .slice p.RA p.rs.length p.rc, .slice p.PA p.ps.length p.pc, .slice p.QA p.qs.length p.qc, .slice p.EA p.en p.ec, .int .i64 p.mn, .bool false, .slice none 0 0, .slice (some ⟨g8, 0, none⟩) 1 1, .int .i64 0, .bool p.ls, .slice p.lA p.lk p.lc, .slice p.lB p.ll p.ld, .int .i64 p.top, .bool p.ts, .slice p.tA p.tk p.tc, .slice p.tB p.tl p.td, .int .i64 p.slack] 36 (0, 0)) := (by rw [hw]; exact (blk_put B2.out 9 _ rfl)); replace H3 := As (H3.1.only ho B2.1 nl18); replace HB := Lo HB ho G2; replace B2 := As hB2; clear hw ho hB2) | ((with_reducible refine gate_store (t := 34) (p := 10) rfl ?_); refine store_event (t := 34) (p := 10) (v := ?vo5) (w1 := (((w2.setCell ⟨g2, 6, none⟩ (.bool false)).setCell ⟨g2, 7, none⟩ (.slice none 0 0)).setCell ⟨g2, 8, none⟩ (.slice (some ⟨g8, 0, none⟩) 1 1))) ?hg ?ho ?hn ?hr ?_; (case ho => rfl); (case hg => rfl); (case hn => rfl); (case hr => first | (go_simp; done) | (go_simp; rfl)); intro w4 hw; have ho : Only w2 w4 g2 := (by rw [hw]; exact Only.setg (Only.setg (Only.setg (Only.refl _ _) 6 _) 7 _) 8 _); have hB2 : w4.heap[g2]? = some (.cells #[.int .i64 p.len, .slice p.RA p.rs.length p.rc, .slice p.PA p.ps.length p.pc, .slice p.QA p.qs.length p.qc, .slice p.EA p.en p.ec, .int .i64 p.mn, .bool false, .slice none 0 0, .slice (some ⟨g8, 0, none⟩) 1 1, .int .i64 p.cut, .bool p.ls, .slice p.lA p.lk p.lc, .slice p.lB p.ll p.ld, .int .i64 p.top, .bool p.ts, .slice p.tA p.tk p.tc, .slice p.tB p.tl p.td, .int .i64 p.slack] 36 (0, 0)) := (by rw [hw]; exact (blk_put (blk_put (blk_put B2.out 6 _ rfl) 7 _ rfl) 8 _ rfl)); replace H3 := As (H3.1.only ho B2.1 nl18); replace HB := Lo HB ho G2; replace B2 := As hB2; clear hw ho hB2; (try clear cb2_9); have cb2_9 := Cl9 B2; (try clear fb2_9); have fb2_9 := Fz B2 9) | ((with_reducible refine gate_dst (N := 8) rfl ?_); refine ev_row (by rfl) #[.int .u32 1] 52 1 ?hr ?_; (case hr => first | (go_simp; done) | (go_simp; rfl)); intro g8 hgx w2 hbx hb; have H3 := Aside0.mk (NA.ofRow1 (a := 1) hbx (by decide)); replace B2 := Bb B2 hb; replace HB := Ob HB hb; clear hbx hb hgx; (try clear cb2_6); have cb2_6 := Cl6 B2; (try clear fb2_6); have fb2_6 := Fz B2 6; (try clear cb2_7); have cb2_7 := Cl7 B2; (try clear fb2_7); have fb2_7 := Fz B2 7; (try clear cb2_8); have cb2_8 := Cl8 B2; (try clear fb2_8); have fb2_8 := Fz B2 8) | ((with_reducible refine gate_dst (N := 2) rfl ?_); refine box_event (by rfl) (N := 2) (by rfl) (cs := #[.int .i64 p.len, .slice p.RA p.rs.length p.rc, .slice p.PA p.ps.length p.pc, .slice p.QA p.qs.length p.qc, .slice p.EA p.en p.ec, .int .i64 p.mn, .bool p.vs, .slice p.vA p.vk p.vc, .slice p.vB p.vl p.vd, .int .i64 p.cut, .bool p.ls, .slice p.lA p.lk p.lc, .slice p.lB p.ll p.ld, .int .i64 p.top, .bool p.ts, .slice p.tA p.tk p.tc, .slice p.tB p.tl p.td, .int .i64 p.slack]) (t := 36) ?hr ?_; (case hr => first | (go_simp; done) | (go_simp; rfl)); intro g2 hgx w1 hbx hb; have B2 := As hbx; have G2 := Gg HB hgx; replace HB := Ob HB hb; clear hbx hb hgx))
  go_ret
  exact ⟨rfl, HB.out⟩
end Go.Proofs.YtnmfmiemkcaocaaGreat.Hand
namespace Go.Proofs.YtnmfmiemkcaocaaGreat.Hand
open Go.RowKit Go.Proofs.YtnmfmiemkcaocaaGreatW.PrintWords Go.Proofs.YtnmfmiemkcaocaaGreatW.PrintLast Go.Proofs.YtnmfmiemkcaocaaGreatW.PrintMore
set_option linter.unusedVariables false
set_option linter.unusedSimpArgs false
theorem reason_some {p : Pol} {n why : Int} {ns : List Nat} (h : reasonV p n ns = (why, 0)) (hw : why ≠ 0) :
  validV p = 0 ∧ 0 ≤ n ∧ checkV p.ps p.qs ns = 0 ∧ ((p.len ≤ n ∧ why = 1) ∨ (n < p.len ∧ p.mn ≤ n ∧ ((why = 2 ∧ exactP p ns) ∨ (why = 3 ∧ decV p ns = (true, 0))))) := by
 unfold reasonV at h
 by_cases a : validV p ≠ 0
 ·
  rw [if_pos a] at h; injection h with h1 h2; exact absurd h1.symm hw
 rw [if_neg a] at h
 by_cases b : n < 0
 ·
  rw [if_pos b] at h; injection h with h1 h2; exact absurd h1.symm hw
 rw [if_neg b] at h
 by_cases d : checkV p.ps p.qs ns ≠ 0
 ·
  rw [if_pos d] at h; injection h with h1 h2; exact absurd h1.symm hw
 rw [if_neg d] at h
 refine ⟨by omega, by omega, by omega, ?_⟩
 by_cases c : p.len ≤ n
 ·
  rw [if_pos c] at h; injection h with h1 h2; exact .inl ⟨c, h1.symm⟩
 rw [if_neg c] at h
 by_cases f : n < p.mn
 ·
  rw [if_pos f] at h; injection h with h1 h2; exact absurd h1.symm hw
 rw [if_neg f] at h
 refine .inr ⟨by omega, by omega, ?_⟩
 by_cases g : exactP p ns
 ·
  rw [if_pos g] at h; injection h with h1 h2; exact .inl ⟨h1.symm, g⟩
 rw [if_neg g] at h
 by_cases k : (decV p ns).2 ≠ 0
 ·
  rw [if_pos k] at h; injection h with h1 h2; exact absurd h1.symm hw
 rw [if_neg k] at h
 by_cases m : (decV p ns).1 = true
 ·
  rw [if_pos m] at h; injection h with h1 h2; exact .inr ⟨h1.symm, Prod.ext m (by simpa using k)⟩
 ·
  rw [if_neg m] at h; injection h with h1 h2; exact absurd h1.symm hw
theorem dec_cut {p : Pol} {ns : List Nat} (h : decV p ns = (true, 0)) : p.cut ≠ 0 := by
 intro e
 unfold decV at h
 by_cases a : validV p ≠ 0
 ·
  rw [if_pos a] at h; injection h with h1; exact absurd h1 (by decide)
 ·
  rw [if_neg a, if_pos e] at h; injection h with h1; exact absurd h1 (by decide)
theorem first_list (p : Pol) : ∀ (l : List (List Nat)) (i : Int), i < p.len →
  ((firstL p i l).2.2 ≠ 0 → (firstL p i l).1 = 0 ∧ (firstL p i l).2.1 = 0) ∧
  ((firstL p i l).2.2 = 0 → ((firstL p i l).2.1 = 0 ∧ (firstL p i l).1 = 0 ∧ (l.length : Int) + i < p.len) ∨
   (i < (firstL p i l).1 ∧ (firstL p i l).1 ≤ p.len ∧ (firstL p i l).1 ≤ (l.length : Int) + i ∧ reasonV p (firstL p i l).1 (l.getD ((firstL p i l).1 - i - 1).toNat []) = ((firstL p i l).2.1, 0) ∧ (firstL p i l).2.1 ≠ 0))
 | [], i, hi => ⟨fun h => absurd rfl h, fun _ => .inl ⟨rfl, rfl, by simpa using hi⟩⟩
 | ns :: l, i, hi => by
  by_cases hc : (reasonV p (i + 1) ns).2 ≠ 0
  ·
   have e : firstL p i (ns :: l) = (0, 0, (reasonV p (i + 1) ns).2) := by rw [firstL, if_pos hc]
   rw [e]
   exact ⟨fun _ => ⟨rfl, rfl⟩, fun h => absurd h hc⟩
  by_cases hr : (reasonV p (i + 1) ns).1 ≠ 0
  ·
   have e : firstL p i (ns :: l) = (i + 1, (reasonV p (i + 1) ns).1, 0) := by rw [firstL, if_neg hc, if_pos hr]
   rw [e]
   refine ⟨fun h => absurd rfl h, fun _ => .inr ⟨by show i < i + 1; omega, by show i + 1 ≤ p.len; omega, by simp only [List.length_cons]; omega, ?_, hr⟩⟩
   rw [show (i + 1 - i - 1).toNat = 0 by omega]
   exact Prod.ext rfl (by simpa using hc)
  ·
   have e : firstL p i (ns :: l) = firstL p (i + 1) l := by rw [firstL, if_neg hc, if_neg hr]
   have hlt : i + 1 < p.len := by
    refine Int.not_le.1 fun c => hr ?_
    have hx : reasonV p (i + 1) ns = (1, 0) := by
     unfold reasonV at hc ⊢
     by_cases a : validV p ≠ 0
     ·
      rw [if_pos a] at hc; exact absurd a hc
     rw [if_neg a] at hc ⊢
     by_cases b : i + 1 < 0
     ·
      rw [if_pos b] at hc; exact absurd (show (3 : Int) ≠ 0 by decide) hc
     rw [if_neg b] at hc ⊢
     by_cases d : checkV p.ps p.qs ns ≠ 0
     ·
      rw [if_pos d] at hc; exact absurd d hc
     rw [if_neg d, if_pos c]
    exact absurd hr (by rw [hx]; decide)
   obtain ⟨h1, h2⟩ := first_list p l (i + 1) hlt
   rw [e]
   refine ⟨h1, fun h => ?_⟩
   rcases h2 h with ⟨a, b, c⟩ | ⟨a, b, c, d, f⟩
   ·
    exact .inl ⟨a, b, by simp only [List.length_cons]; omega⟩
   ·
    refine .inr ⟨by omega, b, by simp only [List.length_cons]; omega, ?_, f⟩
    rw [show ((firstL p (i + 1) l).1 - i - 1).toNat = ((firstL p (i + 1) l).1 - (i + 1) - 1).toNat + 1 by omega, List.getD_cons_succ]
    exact d
theorem first_law (p : Pol) (l : List (List Nat)) (n why e : Int) (h : firstV p l = (n, why, e)) :
  (e ≠ 0 → n = 0 ∧ why = 0) ∧ (e = 0 → (n = 0 ∧ why = 0 ∧ (l.length : Int) < p.len) ∨
   (n ≠ 0 ∧ 0 < n ∧ n ≤ p.len ∧ n ≤ (l.length : Int) ∧ reasonV p n (l.getD (n - 1).toNat []) = (why, 0) ∧ why ≠ 0)) := by
 unfold firstV at h
 by_cases a : validV p ≠ 0
 ·
  rw [if_pos a] at h
  injection h with h1 h2; injection h2 with h2 h3
  exact ⟨fun _ => ⟨h1.symm, h2.symm⟩, fun x => absurd (h3.trans x) a⟩
 rw [if_neg a] at h
 by_cases b : 18 < l.length
 ·
  rw [if_pos b] at h
  injection h with h1 h2; injection h2 with h2 h3
  exact ⟨fun _ => ⟨h1.symm, h2.symm⟩, fun x => absurd (h3.trans x) (by decide)⟩
 rw [if_neg b] at h
 have hv := (validV_ok (p := p) (by simpa using a)).1.1
 obtain ⟨h1, h2⟩ := first_list p l 0 (by omega)
 rw [h] at h1 h2
 refine ⟨h1, fun x => ?_⟩
 rcases h2 x with ⟨a, b, c⟩ | ⟨a, b, c, d, f⟩
 ·
  exact .inl ⟨b, a, by omega⟩
 ·
  have a' : 0 < n := a
  refine .inr ⟨by omega, a, b, by have c' : n ≤ (l.length : Int) + 0 := c; omega, ?_, f⟩
  rw [show n - 1 = n - 0 - 1 by omega]
  exact d
theorem dec_true {w : World} (p : Pol) (L : Nat) (A : Option Addr) (cap : Nat) (wss : List (List Int)) (L2 : Nat) (ok : PolOK w p L) (hw : WR w A wss L2) (hc : wss.length ≤ cap) (hl : wss.length ≤ 100000000) (hL2 : L2 ≤ 1100000) (hr : decV p (wn wss) = (true, 0)) :
  Calls Tryz.prog 14 #[.agg #[.int .i64 p.len, .slice p.RA p.rs.length p.rc, .slice p.PA p.ps.length p.pc, .slice p.QA p.qs.length p.qc, .slice p.EA p.en p.ec, .int .i64 p.mn, .bool p.vs, .slice p.vA p.vk p.vc, .slice p.vB p.vl p.vd, .int .i64 p.cut, .bool p.ls, .slice p.lA p.lk p.lc, .slice p.lB p.ll p.ld, .int .i64 p.top, .bool p.ts, .slice p.tA p.tk p.tc, .slice p.tB p.tl p.td, .int .i64 p.slack], .slice A wss.length cap] w fun e w' => e = .returned (.tuple #[.bool true, .int .i64 0]) ∧ Below w.heap.size w w' := by
 have := stopping_Decided.run p L A cap wss L2 w ok hw hc hl hL2
 rw [hr] at this
 exact this
theorem law_first {w : World} (p : Pol) (A : Option Addr) (cap : Nat) (ws : List (List (List Int))) (L2 : Nat) (ok : PolOK w p 1100000) (hw : WWR w A ws L2) (hl : ws.length ≤ 100000000) (hL2 : L2 ≤ 1100000) {n y e : Int} (hr : firstV p (ws.map wn) = (n, y, e)) :
  Calls Tryz.prog 16 #[.agg #[.int .i64 p.len, .slice p.RA p.rs.length p.rc, .slice p.PA p.ps.length p.pc, .slice p.QA p.qs.length p.qc, .slice p.EA p.en p.ec, .int .i64 p.mn, .bool p.vs, .slice p.vA p.vk p.vc, .slice p.vB p.vl p.vd, .int .i64 p.cut, .bool p.ls, .slice p.lA p.lk p.lc, .slice p.lB p.ll p.ld, .int .i64 p.top, .bool p.ts, .slice p.tA p.tk p.tc, .slice p.tB p.tl p.td, .int .i64 p.slack], .slice A ws.length cap] w fun x w' => x = .returned (.tuple #[.int .i64 n, .int .i64 y, .int .i64 e]) ∧ Below w.heap.size w w' := by
 have := stopping_First.run p 1100000 A cap ws L2 w ok hw hl hL2
 rw [hr] at this
 exact this
theorem cell_below {w W : World} {a : Addr} {v : Value} (h : w.cell? a = some v) (hb : Below w.heap.size w W) : W.cell? a = some v := by
 exact pw_cell_below hb h
theorem run_load36 {o : Oper} {a : Act} {w : World} (x : Operand) (ho : o.op = .load 36 x) (g : Nat) (hx : a.eval x = .pointer (some ⟨g, 0, none⟩)) (cs : Array Value) (hg : w.heap[g]? = some (.cells cs 36 (0, 0))) (hi : (Tryz.prog.info? 36).map (·.size) = some cs.size) :
  (execOp a.eval o).run Tryz.prog w = .ok (.value (.agg cs)) w := by
 unfold execOp
 simp only [ho, hx, Instr.loadAt, Instr.sureAddr, Sem.run_bind, Sem.run_pure, Result.andThen_ok, run_loadVar_row w g 36 36 cs (0, 0) _ hg Tryz.underlying36 rfl hi]
set_option maxHeartbeats 8000000 in
set_option maxRecDepth 100000 in
theorem law_early.run (p : Pol) (L : Nat) (A : Option Addr) (cap : Nat) (wss : List (List Int)) (L2 : Nat) (n why : Int) (w : World) (ok : PolOK w p L) (hw : WR w A wss L2) (hc : wss.length ≤ cap) (hl : wss.length ≤ 100000000) (hL2 : L2 ≤ 1100000) (hr : reasonV p n (wn wss) = (why, 0)) (hy : why ≠ 0) (hn : n < p.len) :
  Calls Tryz.prog 18 #[.agg #[.int .i64 p.len, .slice p.RA p.rs.length p.rc, .slice p.PA p.ps.length p.pc, .slice p.QA p.qs.length p.qc, .slice p.EA p.en p.ec, .int .i64 p.mn, .bool p.vs, .slice p.vA p.vk p.vc, .slice p.vB p.vl p.vd, .int .i64 p.cut, .bool p.ls, .slice p.lA p.lk p.lc, .slice p.lB p.ll p.ld, .int .i64 p.top, .bool p.ts, .slice p.tA p.tk p.tc, .slice p.tB p.tl p.td, .int .i64 p.slack], .slice A wss.length cap, .int .i64 why] w fun e w' => e = .returned (.bool true) ∧ Below w.heap.size w w' := by
 obtain ⟨hv, h0, h3, hx⟩ := reason_some hr hy
 rcases hx with ⟨hx, _⟩ | ⟨_, _, hx⟩
 ·
  omega
 ·
  rcases hx with ⟨rfl, hx⟩ | ⟨rfl, hx⟩
  ·
   obtain ⟨cv, hcv⟩ : ∃ v, checkV p.ps p.qs (wn wss) = v := ⟨_, rfl⟩
   have HCV := Aside0.mk hcv
   have cc : cv = 0 := hcv.symm.trans h3
   have kcc : (cv == 0) = true := by rw [beq_iff_eq]; exact cc
   have kccn : (cv != 0) = false := by rw [bne, kcc]; rfl
   have X3 := Aside0.mk cc
   have VD := Aside0.mk (show 0 < varD (wn wss) by have h := (checkV_ok h3).2.2; unfold varD; exact Int.mul_pos (by omega) (by omega))
   have k6 : decide (0 < cmpZ (pn p.vs p.vx p.vy) 0) = true := decide_eq_true (cmpZ_pos.2 hx.1)
   have X7 := Aside0.mk hx.2
   have PO := Aside0.mk ok
   have HW := Aside0.mk hw
   have HWC := Aside0.mk hc
   have H91 := Aside0.mk ok.vn
   have H92 := Aside0.mk ok.vd
   have H93 := Aside0.mk ok.ln
   have H94 := Aside0.mk ok.ld
   have HL := Aside0.mk (And.intro ok.lim (And.intro hl hL2))
   have HB := Aside0.mk (Below.refl w.heap.size w)
   clear ok hw hc hl hL2
   clear hcv cc hx hr hy hn hv h0 h3
   go_enter Tryz.func18, Tryz.ntmps18
   go_wp2_with (first | (go_at_call 19; (with_reducible refine (ratio_Cmp.run s2 p.vs _ _ _ _ _ _ _ _ _ _ _ _ n2 m2 p.vx p.vy (6 * L2 + 1000) (3 * L2 + 200) L L _ H3.1.na H4.1.na (H91.1.be HB.1) (H92.1.be HB.1) (by have := HL.out; omega)).mono ?_); rintro e w8 ⟨rfl, hb⟩; replace H3 := As (H3.1.be hb); replace H4 := As (H4.1.be hb); replace B3 := Bb B3 hb; replace B7 := Bb B7 hb; replace HB := Ob HB hb; have kc8 : decide ((cmpZ (pn s2 n2 m2 * pd p.vy) (pn p.vs p.vx p.vy * pd m2)) ≤ 0) = true := decide_eq_true (by have q := F2.out; rw [cmpZ_nonpos, pn_of q.1, pd_of q.1, frac_ge (q.2 (HCV.out.trans X3.out)) (by have := q.1; omega) VD.out]; exact X7.out); clear hb) | (go_at_call 20; (with_reducible refine (ratio_Sign.run p.vs _ _ _ _ _ _ p.vx p.vy L L _ (H91.1.be HB.1) (H92.1.be HB.1) (by have := HL.out; omega)).mono ?_); rintro e w7 ⟨rfl, hb⟩; replace H3 := As (H3.1.be hb); replace H4 := As (H4.1.be hb); replace B3 := Bb B3 hb; replace B7 := Bb B7 hb; replace HB := Ob HB hb; clear hb; (try clear cb7_0); have cb7_0 := Cl0 B7; (try clear cb7_1); have cb7_1 := Cl1 B7; (try clear cb7_2); have cb7_2 := Cl2 B7; (try clear cb3_6); have cb3_6 := Cl6 B3; (try clear cb3_7); have cb3_7 := Cl7 B3; (try clear cb3_8); have cb3_8 := Cl8 B3) | ((with_reducible refine gate_store (t := 34) (p := 7) rfl ?_); refine Sto (t := 34) (p := 7) (by rfl) (.tmp 18) (by rfl) (by rfl) g7 #[.bool s2, .slice A2 k2 c2, .slice D2 l2 d2] (by rfl) (by first | rfl | (go_simp; done) | (go_simp; rfl)) B7 (by kernel_rfl) rfl (by kernel_rfl) ?_; intro w6 ho hB2; replace H3 := As (H3.1.o3 ho B7); replace H4 := As (H4.1.o3 ho B7); replace B3 := Oo B3 ho NE3_7; replace HB := Lo HB ho G7; replace B7 := hB2; clear ho hB2; (try clear cb3_6); have cb3_6 := Cl6 B3; (try clear cb3_7); have cb3_7 := Cl7 B3; (try clear cb3_8); have cb3_8 := Cl8 B3) | ((with_reducible refine gate_dst (N := 7) rfl ?_); refine box_event (by rfl) (N := 7) (by rfl) (cs := #[.bool false, .slice none 0 0, .slice none 0 0]) (t := 34) ?hr ?_; (case hr => first | (go_simp; done) | (go_simp; rfl)); intro g7 hgx w5 hbx hb; have B7 := As hbx; have NE3_7 := Nn B3 hgx; have G7 := Gg HB hgx; replace H3 := As (H3.1.be hb); replace H4 := As (H4.1.be hb); replace B3 := Bb B3 hb; replace HB := Ob HB hb; clear hbx hb hgx) | (go_at_call 34; (with_reducible refine (estimate_Variance.run p.ps p.qs p.PA p.QA p.pc p.qc A cap wss L2 _ (Kd.C_below PO.out.ps HB.out) (Kd.C_below PO.out.qs HB.out) PO.out.psc (HW.out.below HB.out) HL.out.2.1 HL.out.2.2).mono ?_); rintro e w2 ⟨s2, A2, k2, c2, D2, l2, d2, n2, m2, rfl, hq2, hr2, hm2, hz2, hb⟩; have H3 := Aside0.mk hq2; have H4 := Aside0.mk hr2; have F2 := Aside0.mk (And.intro hm2 hz2); clear hq2 hr2 hm2 hz2; replace B3 := Bb B3 hb; replace HB := Ob HB hb; rw [HCV.out]; clear hb) | ((with_reducible refine gate_dst (N := 3) rfl ?_); refine box_event (by rfl) (N := 3) (by rfl) (cs := #[.int .i64 p.len, .slice p.RA p.rs.length p.rc, .slice p.PA p.ps.length p.pc, .slice p.QA p.qs.length p.qc, .slice p.EA p.en p.ec, .int .i64 p.mn, .bool p.vs, .slice p.vA p.vk p.vc, .slice p.vB p.vl p.vd, .int .i64 p.cut, .bool p.ls, .slice p.lA p.lk p.lc, .slice p.lB p.ll p.ld, .int .i64 p.top, .bool p.ts, .slice p.tA p.tk p.tc, .slice p.tB p.tl p.td, .int .i64 p.slack]) (t := 36) ?hr ?_; (case hr => first | (go_simp; done) | (go_simp; rfl)); intro g3 hgx w1 hbx hb; have B3 := As hbx; have G3 := Gg HB hgx; replace HB := Ob HB hb; clear hbx hb hgx; (try clear cb3_2); have cb3_2 := Cl2 B3; (try clear cb3_3); have cb3_3 := Cl3 B3))
   go_ret
   exact ⟨rfl, HB.out⟩
  ·
   have k6 : decide (0 < p.cut) = true := decide_eq_true (by have := (validV_ok hv).2.2.2; have := dec_cut hx; omega)
   have HDV := Aside0.mk hx
   have PO := Aside0.mk ok
   have HW := Aside0.mk hw
   have HWC := Aside0.mk hc
   have H91 := Aside0.mk ok.vn
   have H92 := Aside0.mk ok.vd
   have H93 := Aside0.mk ok.ln
   have H94 := Aside0.mk ok.ld
   have HL := Aside0.mk (And.intro ok.lim (And.intro hl hL2))
   have HB := Aside0.mk (Below.refl w.heap.size w)
   clear ok hw hc hl hL2
   clear hx hr hy hn hv h0 h3
   go_enter Tryz.func18, Tryz.ntmps18
   go_wp2_with (first | (go_at_call 14; (with_reducible refine (dec_true p L A cap wss L2 (PO.out.below HB.out) (HW.out.below HB.out) HWC.out HL.out.2.1 HL.out.2.2 HDV.out).mono ?_); rintro e w2 ⟨rfl, hb⟩; replace B3 := Bb B3 hb; replace HB := Ob HB hb; clear hb; (try clear cb3_9); have cb3_9 := Cl9 B3) | ((with_reducible refine gate_dst (N := 36) rfl ?_); refine wpList_load_row (by rfl) 36 (.tmp 3) (by rfl) g3 (by rfl) 36 #[.int .i64 p.len, .slice p.RA p.rs.length p.rc, .slice p.PA p.ps.length p.pc, .slice p.QA p.qs.length p.qc, .slice p.EA p.en p.ec, .int .i64 p.mn, .bool p.vs, .slice p.vA p.vk p.vc, .slice p.vB p.vl p.vd, .int .i64 p.cut, .bool p.ls, .slice p.lA p.lk p.lc, .slice p.lB p.ll p.ld, .int .i64 p.top, .bool p.ts, .slice p.tA p.tk p.tc, .slice p.tB p.tl p.td, .int .i64 p.slack] (0, 0) _ B3.out Tryz.underlying36 rfl (by kernel_rfl) ?_) | ((with_reducible refine gate_dst (N := 3) rfl ?_); refine box_event (by rfl) (N := 3) (by rfl) (cs := #[.int .i64 p.len, .slice p.RA p.rs.length p.rc, .slice p.PA p.ps.length p.pc, .slice p.QA p.qs.length p.qc, .slice p.EA p.en p.ec, .int .i64 p.mn, .bool p.vs, .slice p.vA p.vk p.vc, .slice p.vB p.vl p.vd, .int .i64 p.cut, .bool p.ls, .slice p.lA p.lk p.lc, .slice p.lB p.ll p.ld, .int .i64 p.top, .bool p.ts, .slice p.tA p.tk p.tc, .slice p.tB p.tl p.td, .int .i64 p.slack]) (t := 36) ?hr ?_; (case hr => first | (go_simp; done) | (go_simp; rfl)); intro g3 hgx w1 hbx hb; have B3 := As hbx; have G3 := Gg HB hgx; replace HB := Ob HB hb; clear hbx hb hgx))
   go_ret
   exact ⟨rfl, HB.out⟩
set_option maxHeartbeats 8000000 in
set_option maxRecDepth 100000 in
theorem law_Length.run (p : Pol) (A : Option Addr) (cap : Nat) (ws : List (List (List Int))) (L2 : Nat) (w : World) (ok : PolOK w p 1100000) (hw : WWR w A ws L2) (hl : ws.length ≤ 100000000) (hL2 : L2 ≤ 1100000) :
  Calls Tryz.prog 6 #[.agg #[.int .i64 p.len, .slice p.RA p.rs.length p.rc, .slice p.PA p.ps.length p.pc, .slice p.QA p.qs.length p.qc, .slice p.EA p.en p.ec, .int .i64 p.mn, .bool p.vs, .slice p.vA p.vk p.vc, .slice p.vB p.vl p.vd, .int .i64 p.cut, .bool p.ls, .slice p.lA p.lk p.lc, .slice p.lB p.ll p.ld, .int .i64 p.top, .bool p.ts, .slice p.tA p.tk p.tc, .slice p.tB p.tl p.td, .int .i64 p.slack], .slice A ws.length cap] w fun e w' => e = .returned (.bool true) ∧ Below w.heap.size w w' := by
 obtain ⟨⟨n, y, e⟩, hfv⟩ : ∃ v, firstV p (ws.map wn) = v := ⟨_, rfl⟩
 have HF := Aside0.mk hfv
 obtain ⟨hx, hz⟩ := first_law p _ n y e hfv
 rw [List.length_map] at hz
 clear hfv
 have PO := Aside0.mk ok
 have HW := Aside0.mk hw
 have HL := Aside0.mk (And.intro hl hL2)
 have HB := Aside0.mk (Below.refl w.heap.size w)
 clear ok hw hl hL2
 by_cases ca : e = 0
 ·
  replace hz := hz ca
  have kca : (e == 0) = true := by rw [beq_iff_eq]; exact ca
  have kcan : (e != 0) = false := by rw [bne, kca]; rfl
  clear ca hx
  rcases hz with ⟨h1, h2, h3⟩ | ⟨h1, h2, h3, h4, h5, h6⟩
  ·
   subst h1 h2
   have kb : decide ((ws.length : Int) < p.len) = true := decide_eq_true h3
   clear h3
   go_enter Tryz.func6, Tryz.ntmps6
   go_wp2_with (first | (go_at_call 11; (with_reducible refine (law_awake.run _).mono ?_); rintro e w3 ⟨rfl, hb⟩; replace B2 := Bb B2 hb; replace HB := Ob HB hb; clear hb) | (go_at_call 16; (with_reducible refine (law_first p A cap ws L2 (PO.out.below HB.out) (HW.out.below HB.out) HL.out.1 HL.out.2 HF.out).mono ?_); rintro e w2 ⟨rfl, hb⟩; replace B2 := Bb B2 hb; replace HB := Ob HB hb; clear hb; (try clear cb2_0); have cb2_0 := Cl0 B2) | ((with_reducible refine gate_dst (N := 9) rfl ?_); refine wpList_load_row (by rfl) 36 (.tmp 2) (by rfl) g2 (by rfl) 36 #[.int .i64 p.len, .slice p.RA p.rs.length p.rc, .slice p.PA p.ps.length p.pc, .slice p.QA p.qs.length p.qc, .slice p.EA p.en p.ec, .int .i64 p.mn, .bool p.vs, .slice p.vA p.vk p.vc, .slice p.vB p.vl p.vd, .int .i64 p.cut, .bool p.ls, .slice p.lA p.lk p.lc, .slice p.lB p.ll p.ld, .int .i64 p.top, .bool p.ts, .slice p.tA p.tk p.tc, .slice p.tB p.tl p.td, .int .i64 p.slack] (0, 0) _ B2.out Tryz.underlying36 rfl (by kernel_rfl) ?_) | ((with_reducible refine gate_dst (N := 2) rfl ?_); refine box_event (by rfl) (N := 2) (by rfl) (cs := #[.int .i64 p.len, .slice p.RA p.rs.length p.rc, .slice p.PA p.ps.length p.pc, .slice p.QA p.qs.length p.qc, .slice p.EA p.en p.ec, .int .i64 p.mn, .bool p.vs, .slice p.vA p.vk p.vc, .slice p.vB p.vl p.vd, .int .i64 p.cut, .bool p.ls, .slice p.lA p.lk p.lc, .slice p.lB p.ll p.ld, .int .i64 p.top, .bool p.ts, .slice p.tA p.tk p.tc, .slice p.tB p.tl p.td, .int .i64 p.slack]) (t := 36) ?hr ?_; (case hr => first | (go_simp; done) | (go_simp; rfl)); intro g2 hgx w1 hbx hb; have B2 := As hbx; have G2 := Gg HB hgx; replace HB := Ob HB hb; clear hbx hb hgx))
   go_ret
   exact ⟨rfl, HB.out⟩
  ·
   have kh1 : (n == 0) = false := by rw [beq_eq_false_iff_ne]; exact h1
   have kh1n : (n != 0) = true := by rw [bne, kh1]; rfl
   have kb : decide (n < 0) = false := decide_eq_false (by omega)
   have kd : decide (p.len < n) = false := decide_eq_false (by omega)
   have kf : decide ((ws.length : Int) < n) = false := decide_eq_false (by omega)
   by_cases cb : n = p.len
   ·
    have h7 : y = 1 := by rcases (reason_some h5 h6).2.2.2 with ⟨_, h⟩ | ⟨h, _⟩ <;> omega
    subst h7 cb
    have kb1 : (p.len == p.len) = true := by rw [beq_iff_eq]
    clear h1 h2 h3 h4 h5 h6
    go_enter Tryz.func6, Tryz.ntmps6
    go_wp2_with (first | (go_at_call 11; (with_reducible refine (law_awake.run _).mono ?_); rintro e w3 ⟨rfl, hb⟩; replace B2 := Bb B2 hb; replace HB := Ob HB hb; clear hb) | (go_at_call 16; (with_reducible refine (law_first p A cap ws L2 (PO.out.below HB.out) (HW.out.below HB.out) HL.out.1 HL.out.2 HF.out).mono ?_); rintro e w2 ⟨rfl, hb⟩; replace B2 := Bb B2 hb; replace HB := Ob HB hb; clear hb; (try clear cb2_0); have cb2_0 := Cl0 B2) | ((with_reducible refine gate_dst (N := 9) rfl ?_); refine wpList_load_row (by rfl) 36 (.tmp 2) (by rfl) g2 (by rfl) 36 #[.int .i64 p.len, .slice p.RA p.rs.length p.rc, .slice p.PA p.ps.length p.pc, .slice p.QA p.qs.length p.qc, .slice p.EA p.en p.ec, .int .i64 p.mn, .bool p.vs, .slice p.vA p.vk p.vc, .slice p.vB p.vl p.vd, .int .i64 p.cut, .bool p.ls, .slice p.lA p.lk p.lc, .slice p.lB p.ll p.ld, .int .i64 p.top, .bool p.ts, .slice p.tA p.tk p.tc, .slice p.tB p.tl p.td, .int .i64 p.slack] (0, 0) _ B2.out Tryz.underlying36 rfl (by kernel_rfl) ?_) | ((with_reducible refine gate_dst (N := 2) rfl ?_); refine box_event (by rfl) (N := 2) (by rfl) (cs := #[.int .i64 p.len, .slice p.RA p.rs.length p.rc, .slice p.PA p.ps.length p.pc, .slice p.QA p.qs.length p.qc, .slice p.EA p.en p.ec, .int .i64 p.mn, .bool p.vs, .slice p.vA p.vk p.vc, .slice p.vB p.vl p.vd, .int .i64 p.cut, .bool p.ls, .slice p.lA p.lk p.lc, .slice p.lB p.ll p.ld, .int .i64 p.top, .bool p.ts, .slice p.tA p.tk p.tc, .slice p.tB p.tl p.td, .int .i64 p.slack]) (t := 36) ?hr ?_; (case hr => first | (go_simp; done) | (go_simp; rfl)); intro g2 hgx w1 hbx hb; have B2 := As hbx; have G2 := Gg HB hgx; replace HB := Ob HB hb; clear hbx hb hgx))
    go_ret
    exact ⟨rfl, HB.out⟩
   ·
    have h7 : p.mn ≤ n := by
     rcases (reason_some h5 h6).2.2.2 with ⟨h, _⟩ | ⟨_, h, _⟩
     ·
      omega
     ·
      exact h
    have kb1 : (n == p.len) = false := by rw [beq_eq_false_iff_ne]; exact cb
    have kb2 : decide (p.mn ≤ n) = true := decide_eq_true h7
    obtain ⟨i1, hi1⟩ : ∃ i1, IntKind.i64.wrap (n - 1) = i1 := ⟨_, rfl⟩
    have ei1 : i1 = n - 1 := by have := HL.out; rw [← hi1, i64_w]; unfold wrap64; omega
    have p1 : 0 ≤ i1 := by omega
    have q0 : i1 < (ws.length : Int) := by omega
    obtain ⟨ad, Bw, cw, ea, hx, hwr, hcw, hlw⟩ := HW.out.at i1 p1 q0
    subst ea
    obtain ⟨ww, hww⟩ : ∃ x, ws.getD i1.toNat [] = x := ⟨_, rfl⟩
    rw [hww] at hx hwr hcw hlw
    have HWR := Aside0.mk (And.intro hwr (And.intro hcw hlw))
    have HE := Aside0.mk hx
    have HR := Aside0.mk (show reasonV p n (wn ww) = (y, 0) ∧ y ≠ 0 ∧ n < p.len by
     refine ⟨?_, h6, by omega⟩
     rw [← h5, ← hww, ← ei1]
     congr 1
     rw [List.getD_eq_getElem?_getD, List.getD_eq_getElem?_getD, List.getElem?_map]
     cases ws[i1.toNat]? <;> rfl)
    have p2 := eq_true p1
    have q1 := eq_true q0
    clear hwr hcw hlw hww p1 q0 ei1 hx h1 h2 h3 h4 h5 h6 h7 cb
    have HW0 := HWR
    go_enter Tryz.func6, Tryz.ntmps6
    go_wp2_with (first | (go_at_call 16; (with_reducible refine (law_first p (some ad) cap ws L2 (PO.out.below HB.out) (HW.out.below HB.out) HL.out.1 HL.out.2 HF.out).mono ?_); rintro e w2 ⟨rfl, hb⟩; replace B2 := Bb B2 hb; replace HB := Ob HB hb; replace HE := Aside0.mk (cell_below HE.out hb); clear hb; (try clear cb2_0); have cb2_0 := Cl0 B2) | ((with_reducible refine gate_dst (N := 9) rfl ?_); refine wpList_load_row (by rfl) 36 (.tmp 2) (by rfl) g2 (by rfl) 36 #[.int .i64 p.len, .slice p.RA p.rs.length p.rc, .slice p.PA p.ps.length p.pc, .slice p.QA p.qs.length p.qc, .slice p.EA p.en p.ec, .int .i64 p.mn, .bool p.vs, .slice p.vA p.vk p.vc, .slice p.vB p.vl p.vd, .int .i64 p.cut, .bool p.ls, .slice p.lA p.lk p.lc, .slice p.lB p.ll p.ld, .int .i64 p.top, .bool p.ts, .slice p.tA p.tk p.tc, .slice p.tB p.tl p.td, .int .i64 p.slack] (0, 0) _ B2.out Tryz.underlying36 rfl (by kernel_rfl) ?_) | ((with_reducible refine gate_dst (N := 2) rfl ?_); refine box_event (by rfl) (N := 2) (by rfl) (cs := #[.int .i64 p.len, .slice p.RA p.rs.length p.rc, .slice p.PA p.ps.length p.pc, .slice p.QA p.qs.length p.qc, .slice p.EA p.en p.ec, .int .i64 p.mn, .bool p.vs, .slice p.vA p.vk p.vc, .slice p.vB p.vl p.vd, .int .i64 p.cut, .bool p.ls, .slice p.lA p.lk p.lc, .slice p.lB p.ll p.ld, .int .i64 p.top, .bool p.ts, .slice p.tA p.tk p.tc, .slice p.tB p.tl p.td, .int .i64 p.slack]) (t := 36) ?hr ?_; (case hr => first | (go_simp; done) | (go_simp; rfl)); intro g2 hgx w1 hbx hb; have B2 := As hbx; have G2 := Gg HB hgx; replace HB := Ob HB hb; replace HE := Aside0.mk (cell_below HE.out hb); clear hbx hb hgx))
    replace B2 := Bd B2
    replace HB := Od HB
    replace HE := Aside0.mk (show w2.drew.cell? (ad.add i1.toNat) = some (.slice Bw ww.length cw) from HE.out)
    refine start_ (n := 18) (S := fun w' => w'.heap[g2]? = some (.cells #[.int .i64 p.len, .slice p.RA p.rs.length p.rc, .slice p.PA p.ps.length p.pc, .slice p.QA p.qs.length p.qc, .slice p.EA p.en p.ec, .int .i64 p.mn, .bool p.vs, .slice p.vA p.vk p.vc, .slice p.vB p.vl p.vd, .int .i64 p.cut, .bool p.ls, .slice p.lA p.lk p.lc, .slice p.lB p.ll p.ld, .int .i64 p.top, .bool p.ts, .slice p.tA p.tk p.tc, .slice p.tB p.tl p.td, .int .i64 p.slack] 36 (0, 0)) ∧ w'.cell? (ad.add i1.toNat) = some (.slice Bw ww.length cw) ∧ w'.cell? ⟨g2, 5, none⟩ = some (.int .i64 p.mn)) (ds := [12, 15]) (Bt 18 0) (by kernel_rfl) rfl (by kernel_rfl) ⟨B2.out, HE.out, Cl5 B2⟩ (fun hHeld => ?_)
    generalize w2.drew = w3 at hHeld B2 HB HE ⊢
    refine pure_ (i := 0) (N := some 66) (v := ?_) (a' := ?_) (Bt 18 1) rfl rfl (by kernel_rfl) (fun _ _ _ h => h) (Or.inl ⟨by rfl, ?_⟩) ?_ ?_
    rotate_left
    ·
     intro w'
     go_simp
     with_reducible rfl
    rotate_left
    ·
     simp only [Nrm, Option.some.injEq, List.setIfInBounds_toArray, List.set_cons_zero, List.set_cons_succ, i64_w, i32_w]
     rfl
    refine pure_ (i := 1) (N := some 67) (v := ?_) (a' := ?_) (Bt 18 3) rfl rfl (by kernel_rfl) (fun _ _ _ h => h) (Or.inl ⟨by rfl, ?_⟩) ?_ ?_
    rotate_left
    ·
     intro w'
     go_simp
     with_reducible rfl
    rotate_left
    ·
     simp only [Nrm, Option.some.injEq, List.setIfInBounds_toArray, List.set_cons_zero, List.set_cons_succ, i64_w, i32_w]
     rfl
    refine take_ (i := 2) (N := some 68) (v := ?_) (a' := ?_) (Bt 18 7) rfl rfl (by kernel_rfl) (fun _ _ _ h => h) (Or.inl ⟨by rfl, ?_⟩) hHeld ?_ ?_
    rotate_left
    ·
     rintro w' ⟨s0, s1, s2⟩
     go_simp
     with_reducible rfl
    rotate_left
    ·
     simp only [Nrm, Option.some.injEq, List.setIfInBounds_toArray, List.set_cons_zero, List.set_cons_succ, i64_w, i32_w]
     rfl
    refine pure_ (i := 3) (N := some 69) (v := ?_) (a' := ?_) (Bt 18 15) rfl rfl (by kernel_rfl) (fun _ _ _ h => h) (Or.inl ⟨by rfl, ?_⟩) ?_ ?_
    rotate_left
    ·
     intro w'
     go_simp
     with_reducible rfl
    rotate_left
    ·
     simp only [Nrm, Option.some.injEq, List.setIfInBounds_toArray, List.set_cons_zero, List.set_cons_succ, i64_w, i32_w]
     rfl
    refine pure_ (i := 4) (N := some 70) (v := ?_) (a' := ?_) (Bt 18 31) rfl rfl (by kernel_rfl) (fun _ _ _ h => h) (Or.inl ⟨by rfl, ?_⟩) ?_ ?_
    rotate_left
    ·
     intro w'
     go_simp
     with_reducible rfl
    rotate_left
    ·
     simp only [Nrm, Option.some.injEq, List.setIfInBounds_toArray, List.set_cons_zero, List.set_cons_succ, i64_w, i32_w]
     rfl
    refine pure_ (i := 6) (N := some 72) (v := ?_) (a' := ?_) (Bt 18 95) rfl rfl (by kernel_rfl) (fun _ _ _ h => h) (Or.inl ⟨by rfl, ?_⟩) ?_ ?_
    rotate_left
    ·
     intro w'
     go_simp
     with_reducible rfl
    rotate_left
    ·
     simp only [Nrm, Option.some.injEq, List.setIfInBounds_toArray, List.set_cons_zero, List.set_cons_succ, i64_w, i32_w]
     rfl
    refine pure_ (i := 7) (N := some 73) (v := ?_) (a' := ?_) (Bt 18 223) rfl rfl (by kernel_rfl) (fun _ _ _ h => h) (Or.inl ⟨by rfl, ?_⟩) ?_ ?_
    rotate_left
    ·
     intro w'
     go_simp
     with_reducible rfl
    rotate_left
    ·
     simp only [Nrm, Option.some.injEq, List.setIfInBounds_toArray, List.set_cons_zero, List.set_cons_succ, i64_w, i32_w]
     rfl
    refine pure_ (i := 8) (N := some 74) (v := ?_) (a' := ?_) (Bt 18 479) rfl rfl (by kernel_rfl) (fun _ _ _ h => h) (Or.inl ⟨by rfl, ?_⟩) ?_ ?_
    rotate_left
    ·
     intro w'
     go_simp
     with_reducible rfl
    rotate_left
    ·
     simp only [Nrm, Option.some.injEq, List.setIfInBounds_toArray, List.set_cons_zero, List.set_cons_succ, i64_w, i32_w]
     rfl
    refine pure_ (i := 9) (N := some 75) (v := ?_) (a' := ?_) (Bt 18 991) rfl rfl (by kernel_rfl) (fun _ _ _ h => h) (Or.inl ⟨by rfl, ?_⟩) ?_ ?_
    rotate_left
    ·
     intro w'
     go_simp
     with_reducible rfl
    rotate_left
    ·
     simp only [Nrm, Option.some.injEq, List.setIfInBounds_toArray, List.set_cons_zero, List.set_cons_succ, i64_w, i32_w]
     rfl
    refine pure_ (i := 11) (N := some 77) (v := ?_) (a' := ?_) (Bt 18 3039) rfl rfl (by kernel_rfl) (fun _ _ _ h => h) (Or.inl ⟨by rfl, ?_⟩) ?_ ?_
    rotate_left
    ·
     intro w'
     go_simp
     with_reducible rfl
    rotate_left
    ·
     simp only [Nrm, Option.some.injEq, List.setIfInBounds_toArray, List.set_cons_zero, List.set_cons_succ, i64_w, i32_w]
     rfl
    refine take_ (i := 5) (N := some 71) (v := ?_) (a' := ?_) (Bt 18 3071) rfl rfl (by kernel_rfl) (fun _ _ _ h => h) (Or.inl ⟨by rfl, ?_⟩) hHeld ?_ ?_
    rotate_left
    ·
     rintro w' ⟨s0, s1, s2⟩
     refine run_load36 (.tmp 2) ?_ g2 ?_ _ s0 ?_
     ·
      rfl
     ·
      first | rfl | (go_simp; done) | (go_simp; rfl)
     ·
      kernel_rfl
    rotate_left
    ·
     simp only [Nrm, Option.some.injEq, List.setIfInBounds_toArray, List.set_cons_zero, List.set_cons_succ, i64_w, i32_w]
     rfl
    refine take_ (i := 10) (N := some 76) (v := ?_) (a' := ?_) (Bt 18 4095) rfl rfl (by kernel_rfl) (fun _ _ _ h => h) (Or.inl ⟨by rfl, ?_⟩) hHeld ?_ ?_
    rotate_left
    ·
     rintro w' ⟨s0, s1, s2⟩
     go_simp
     with_reducible rfl
    rotate_left
    ·
     simp only [Nrm, Option.some.injEq, List.setIfInBounds_toArray, List.set_cons_zero, List.set_cons_succ, i64_w, i32_w]
     rfl
    refine last_ (i := 12) (N := some 78) (Bt 18 8191) rfl rfl (by kernel_rfl) (by decide) (fun K hK => ?_)
    refine goes_ Tryz.func18 (by kernel_rfl) rfl #[.agg #[.int .i64 p.len, .slice p.RA p.rs.length p.rc, .slice p.PA p.ps.length p.pc, .slice p.QA p.qs.length p.qc, .slice p.EA p.en p.ec, .int .i64 p.mn, .bool p.vs, .slice p.vA p.vk p.vc, .slice p.vB p.vl p.vd, .int .i64 p.cut, .bool p.ls, .slice p.lA p.lk p.lc, .slice p.lB p.ll p.ld, .int .i64 p.top, .bool p.ts, .slice p.tA p.tk p.tc, .slice p.tB p.tl p.td, .int .i64 p.slack], .slice Bw ww.length cw, .int .i64 y] (by rfl) rfl rfl (by (try simp only [List.map_toArray, List.map_cons, List.map_nil]); first | done | rfl) ?_
    with_reducible refine (law_early.run p 1100000 Bw cw ww L2 n y _ (PO.out.below HB.out) (HWR.out.1.below HB.out) HWR.out.2.1 HWR.out.2.2 HL.out.2 HR.out.1 HR.out.2.1 HR.out.2.2).mono ?_
    rintro e w161 ⟨rfl, hb⟩
    refine ⟨_, rfl, ?_⟩
    replace B2 := Bb B2 hb
    replace HB := Ob HB hb
    replace HE := Aside0.mk (cell_below HE.out hb)
    clear hb
    refine hK.out _ _ ?_
    clear hK K
    refine norm_ (a' := ?_) ?_ ?_
    rotate_left
    ·
     show Act.put _ (some 78) _ = _
     simp only [Nrm, Option.some.injEq, List.setIfInBounds_toArray, List.set_cons_zero, List.set_cons_succ, i64_w, i32_w]
     rfl
    refine pure_ (i := 13) (N := some 79) (v := ?_) (a' := ?_) (Bt 18 16383) rfl rfl (by kernel_rfl) (fun _ _ _ h => h) (Or.inl ⟨by rfl, ?_⟩) ?_ ?_
    rotate_left
    ·
     intro w'
     go_simp
     with_reducible rfl
    rotate_left
    ·
     simp only [Nrm, Option.some.injEq, List.setIfInBounds_toArray, List.set_cons_zero, List.set_cons_succ, i64_w, i32_w]
     rfl
    refine pure_ (i := 14) (N := some 80) (v := ?_) (a' := ?_) (Bt 18 32767) rfl rfl (by kernel_rfl) (fun _ _ _ h => h) (Or.inl ⟨by rfl, ?_⟩) ?_ ?_
    rotate_left
    ·
     intro w'
     go_simp
     with_reducible rfl
    rotate_left
    ·
     simp only [Nrm, Option.some.injEq, List.setIfInBounds_toArray, List.set_cons_zero, List.set_cons_succ, i64_w, i32_w]
     rfl
    refine last_ (i := 15) (N := some 81) (Bt 18 65535) rfl rfl (by kernel_rfl) (by decide) (fun K hK => ?_)
    refine goes_ Tryz.func11 (by kernel_rfl) rfl #[] (by rfl) rfl rfl (by (try simp only [List.map_toArray, List.map_cons, List.map_nil]); first | done | rfl) ?_
    with_reducible refine (law_awake.run _).mono ?_
    rintro e w176 ⟨rfl, hb⟩
    refine ⟨_, rfl, ?_⟩
    replace B2 := Bb B2 hb
    replace HB := Ob HB hb
    replace HE := Aside0.mk (cell_below HE.out hb)
    clear hb
    refine hK.out _ _ ?_
    clear hK K
    refine norm_ (a' := ?_) ?_ ?_
    rotate_left
    ·
     show Act.put _ (some 81) _ = _
     simp only [Nrm, Option.some.injEq, List.setIfInBounds_toArray, List.set_cons_zero, List.set_cons_succ, i64_w, i32_w]
     rfl
    refine pure_ (i := 16) (N := some 82) (v := ?_) (a' := ?_) (Bt 18 131071) rfl rfl (by kernel_rfl) (fun _ _ _ h => h) (Or.inl ⟨by rfl, ?_⟩) ?_ ?_
    rotate_left
    ·
     intro w'
     go_simp
     with_reducible rfl
    rotate_left
    ·
     simp only [Nrm, Option.some.injEq, List.setIfInBounds_toArray, List.set_cons_zero, List.set_cons_succ, i64_w, i32_w]
     rfl
    refine pure_ (i := 17) (N := some 4) (v := ?_) (a' := ?_) (Bt 18 262143) rfl rfl (by kernel_rfl) (fun _ _ _ h => h) (Or.inl ⟨by rfl, ?_⟩) ?_ ?_
    rotate_left
    ·
     intro w'
     go_simp
     with_reducible rfl
    rotate_left
    ·
     simp only [Nrm, Option.some.injEq, List.setIfInBounds_toArray, List.set_cons_zero, List.set_cons_succ, i64_w, i32_w]
     rfl
    refine done_ (by kernel_rfl) ?_
    go_wp2
    go_ret
    exact ⟨rfl, HB.out⟩
 ·
  obtain ⟨h1, h2⟩ := hx ca
  subst h1 h2
  clear hz
  have kca : (e == 0) = false := by rw [beq_eq_false_iff_ne]; exact ca
  have kcan : (e != 0) = true := by rw [bne, kca]; rfl
  clear ca
  go_enter Tryz.func6, Tryz.ntmps6
  go_wp2_with (first | (go_at_call 11; (with_reducible refine (law_awake.run _).mono ?_); rintro e w3 ⟨rfl, hb⟩; replace B2 := Bb B2 hb; replace HB := Ob HB hb; clear hb) | (go_at_call 16; (with_reducible refine (law_first p A cap ws L2 (PO.out.below HB.out) (HW.out.below HB.out) HL.out.1 HL.out.2 HF.out).mono ?_); rintro e w2 ⟨rfl, hb⟩; replace B2 := Bb B2 hb; replace HB := Ob HB hb; clear hb) | ((with_reducible refine gate_dst (N := 9) rfl ?_); refine wpList_load_row (by rfl) 36 (.tmp 2) (by rfl) g2 (by rfl) 36 #[.int .i64 p.len, .slice p.RA p.rs.length p.rc, .slice p.PA p.ps.length p.pc, .slice p.QA p.qs.length p.qc, .slice p.EA p.en p.ec, .int .i64 p.mn, .bool p.vs, .slice p.vA p.vk p.vc, .slice p.vB p.vl p.vd, .int .i64 p.cut, .bool p.ls, .slice p.lA p.lk p.lc, .slice p.lB p.ll p.ld, .int .i64 p.top, .bool p.ts, .slice p.tA p.tk p.tc, .slice p.tB p.tl p.td, .int .i64 p.slack] (0, 0) _ B2.out Tryz.underlying36 rfl (by kernel_rfl) ?_) | ((with_reducible refine gate_dst (N := 2) rfl ?_); refine box_event (by rfl) (N := 2) (by rfl) (cs := #[.int .i64 p.len, .slice p.RA p.rs.length p.rc, .slice p.PA p.ps.length p.pc, .slice p.QA p.qs.length p.qc, .slice p.EA p.en p.ec, .int .i64 p.mn, .bool p.vs, .slice p.vA p.vk p.vc, .slice p.vB p.vl p.vd, .int .i64 p.cut, .bool p.ls, .slice p.lA p.lk p.lc, .slice p.lB p.ll p.ld, .int .i64 p.top, .bool p.ts, .slice p.tA p.tk p.tc, .slice p.tB p.tl p.td, .int .i64 p.slack]) (t := 36) ?hr ?_; (case hr => first | (go_simp; done) | (go_simp; rfl)); intro g2 hgx w1 hbx hb; have B2 := As hbx; have G2 := Gg HB hgx; replace HB := Ob HB hb; clear hbx hb hgx))
  go_ret
  exact ⟨rfl, HB.out⟩
end Go.Proofs.YtnmfmiemkcaocaaGreat.Hand
namespace Go.Proofs.YtnmfmiemkcaocaaGreat.Hand
open Go.RowKit Go.Proofs.YtnmfmiemkcaocaaGreatW.PrintWords Go.Proofs.YtnmfmiemkcaocaaGreatW.PrintLast Go.Proofs.YtnmfmiemkcaocaaGreatW.PrintMore
set_option linter.unusedVariables false
set_option linter.unusedSimpArgs false
set_option maxHeartbeats 8000000 in
set_option maxRecDepth 100000 in
theorem law_Checks.run (p : Pol) (w : World) (ok : PolOK w p 1100000) :
  Calls Tryz.prog 3 #[.agg #[.int .i64 p.len, .slice p.RA p.rs.length p.rc, .slice p.PA p.ps.length p.pc, .slice p.QA p.qs.length p.qc, .slice p.EA p.en p.ec, .int .i64 p.mn, .bool p.vs, .slice p.vA p.vk p.vc, .slice p.vB p.vl p.vd, .int .i64 p.cut, .bool p.ls, .slice p.lA p.lk p.lc, .slice p.lB p.ll p.ld, .int .i64 p.top, .bool p.ts, .slice p.tA p.tk p.tc, .slice p.tB p.tl p.td, .int .i64 p.slack]] w fun e w' => e = .returned (.bool true) ∧ Below w.heap.size w w' := by
 obtain ⟨vv, hvv⟩ : ∃ v, validV p = v := ⟨_, rfl⟩
 have HVV := As hvv
 have kv : (vv == vv) = true := by rw [beq_iff_eq]
 have PO := As ok
 have HB := Aside0.mk (Below.refl w.heap.size w)
 clear hvv ok
 go_enter Tryz.func3, Tryz.ntmps3
 go_wp2_with (first | ((with_reducible refine gate_dst (N := 1) rfl ?_); refine box_event (by rfl) (N := 1) (by rfl) (cs := #[.int .i64 p.len, .slice p.RA p.rs.length p.rc, .slice p.PA p.ps.length p.pc, .slice p.QA p.qs.length p.qc, .slice p.EA p.en p.ec, .int .i64 p.mn, .bool p.vs, .slice p.vA p.vk p.vc, .slice p.vB p.vl p.vd, .int .i64 p.cut, .bool p.ls, .slice p.lA p.lk p.lc, .slice p.lB p.ll p.ld, .int .i64 p.top, .bool p.ts, .slice p.tA p.tk p.tc, .slice p.tB p.tl p.td, .int .i64 p.slack]) (t := 36) ?hr ?_; (case hr => first | (go_simp; done) | (go_simp; rfl)); intro g1 hgx w1 hbx hb; have B1 := As hbx; have G1 := Gg HB hgx; replace HB := Ob HB hb; clear hbx hb hgx))
 replace B1 := Bd B1
 replace HB := Od HB
 refine start_ (n := 9) (S := fun w' => w'.heap[g1]? = some (.cells #[.int .i64 p.len, .slice p.RA p.rs.length p.rc, .slice p.PA p.ps.length p.pc, .slice p.QA p.qs.length p.qc, .slice p.EA p.en p.ec, .int .i64 p.mn, .bool p.vs, .slice p.vA p.vk p.vc, .slice p.vB p.vl p.vd, .int .i64 p.cut, .bool p.ls, .slice p.lA p.lk p.lc, .slice p.lB p.ll p.ld, .int .i64 p.top, .bool p.ts, .slice p.tA p.tk p.tc, .slice p.tB p.tl p.td, .int .i64 p.slack] 36 (0, 0))) (ds := [6]) (Bt 9 0) (by kernel_rfl) rfl (by kernel_rfl) (B1.out) (fun hHeld => ?_)
 generalize w1.drew = w2 at hHeld B1 HB ⊢
 refine take_ (i := 0) (N := some 3) (v := ?_) (a' := ?_) (Bt 9 1) rfl rfl (by kernel_rfl) (fun _ _ _ h => h) (Or.inl ⟨by rfl, ?_⟩) hHeld ?_ ?_
 rotate_left
 ·
  intro w' s0
  refine run_load36 (.tmp 1) ?_ g1 ?_ _ s0 ?_
  ·
   rfl
  ·
   first | rfl | (go_simp; done) | (go_simp; rfl)
  ·
   kernel_rfl
 rotate_left
 ·
  simp only [Nrm, Option.some.injEq, List.setIfInBounds_toArray, List.set_cons_zero, List.set_cons_succ, i64_w, i32_w]
  rfl
 refine take_ (i := 2) (N := some 5) (v := ?_) (a' := ?_) (Bt 9 5) rfl rfl (by kernel_rfl) (fun _ _ _ h => h) (Or.inl ⟨by rfl, ?_⟩) hHeld ?_ ?_
 rotate_left
 ·
  intro w' s0
  refine run_load36 (.tmp 1) ?_ g1 ?_ _ s0 ?_
  ·
   rfl
  ·
   first | rfl | (go_simp; done) | (go_simp; rfl)
  ·
   kernel_rfl
 rotate_left
 ·
  simp only [Nrm, Option.some.injEq, List.setIfInBounds_toArray, List.set_cons_zero, List.set_cons_succ, i64_w, i32_w]
  rfl
 refine one_ (i := 1) (N := some 4) (Bt 9 7) rfl rfl (by kernel_rfl) (by decide) (fun K hK => ?_)
 refine goes_ Tryz.func9 (by kernel_rfl) rfl #[.agg #[.int .i64 p.len, .slice p.RA p.rs.length p.rc, .slice p.PA p.ps.length p.pc, .slice p.QA p.qs.length p.qc, .slice p.EA p.en p.ec, .int .i64 p.mn, .bool p.vs, .slice p.vA p.vk p.vc, .slice p.vB p.vl p.vd, .int .i64 p.cut, .bool p.ls, .slice p.lA p.lk p.lc, .slice p.lB p.ll p.ld, .int .i64 p.top, .bool p.ts, .slice p.tA p.tk p.tc, .slice p.tB p.tl p.td, .int .i64 p.slack]] (by rfl) rfl rfl (by (try simp only [List.map_toArray, List.map_cons, List.map_nil]); first | done | rfl) ?_
 with_reducible refine (stopping_Valid.run p 1100000 _ (PO.out.below HB.out)).mono ?_
 rintro e w8 ⟨rfl, hb⟩
 refine ⟨_, rfl, ?_⟩
 replace B1 := Bb B1 hb
 replace HB := Ob HB hb
 rw [HVV.out]
 clear hb
 refine hK.out _ _ (B1.out) (fun hHeld => ?_)
 clear hK K
 refine norm_ (a' := ?_) ?_ ?_
 rotate_left
 ·
  show Act.put _ (some 4) _ = _
  simp only [Nrm, Option.some.injEq, List.setIfInBounds_toArray, List.set_cons_zero, List.set_cons_succ, i64_w, i32_w]
  rfl
 refine one_ (i := 3) (N := some 6) (Bt 9 15) rfl rfl (by kernel_rfl) (by decide) (fun K hK => ?_)
 refine goes_ Tryz.func10 (by kernel_rfl) rfl #[.agg #[.int .i64 p.len, .slice p.RA p.rs.length p.rc, .slice p.PA p.ps.length p.pc, .slice p.QA p.qs.length p.qc, .slice p.EA p.en p.ec, .int .i64 p.mn, .bool p.vs, .slice p.vA p.vk p.vc, .slice p.vB p.vl p.vd, .int .i64 p.cut, .bool p.ls, .slice p.lA p.lk p.lc, .slice p.lB p.ll p.ld, .int .i64 p.top, .bool p.ts, .slice p.tA p.tk p.tc, .slice p.tB p.tl p.td, .int .i64 p.slack]] (by rfl) rfl rfl (by (try simp only [List.map_toArray, List.map_cons, List.map_nil]); first | done | rfl) ?_
 with_reducible refine (ref_Valid.run p 1100000 _ (PO.out.below HB.out)).mono ?_
 rintro e w18 ⟨rfl, hb⟩
 refine ⟨_, rfl, ?_⟩
 replace B1 := Bb B1 hb
 replace HB := Ob HB hb
 rw [HVV.out]
 clear hb
 refine hK.out _ _ (B1.out) (fun hHeld => ?_)
 clear hK K
 refine norm_ (a' := ?_) ?_ ?_
 rotate_left
 ·
  show Act.put _ (some 6) _ = _
  simp only [Nrm, Option.some.injEq, List.setIfInBounds_toArray, List.set_cons_zero, List.set_cons_succ, i64_w, i32_w]
  rfl
 refine pure_ (i := 4) (N := some 7) (v := ?_) (a' := ?_) (Bt 9 31) rfl rfl (by kernel_rfl) (fun _ _ _ h => h) (Or.inl ⟨by rfl, ?_⟩) ?_ ?_
 rotate_left
 ·
  intro w'
  go_simp
  with_reducible rfl
 rotate_left
 ·
  simp only [Nrm, Option.some.injEq, List.setIfInBounds_toArray, List.set_cons_zero, List.set_cons_succ, i64_w, i32_w]
  rfl
 refine pure_ (i := 5) (N := some 8) (v := ?_) (a' := ?_) (Bt 9 63) rfl rfl (by kernel_rfl) (fun _ _ _ h => h) (Or.inl ⟨by rfl, ?_⟩) ?_ ?_
 rotate_left
 ·
  intro w'
  go_simp
  with_reducible rfl
 rotate_left
 ·
  simp only [Nrm, Option.some.injEq, List.setIfInBounds_toArray, List.set_cons_zero, List.set_cons_succ, i64_w, i32_w]
  rfl
 refine last_ (i := 6) (N := some 9) (Bt 9 127) rfl rfl (by kernel_rfl) (by decide) (fun K hK => ?_)
 refine goes_ Tryz.func11 (by kernel_rfl) rfl #[] (by rfl) rfl rfl (by (try simp only [List.map_toArray, List.map_cons, List.map_nil]); first | done | rfl) ?_
 with_reducible refine (law_awake.run _).mono ?_
 rintro e w33 ⟨rfl, hb⟩
 refine ⟨_, rfl, ?_⟩
 replace B1 := Bb B1 hb
 replace HB := Ob HB hb
 clear hb
 refine hK.out _ _ ?_
 clear hK K
 refine norm_ (a' := ?_) ?_ ?_
 rotate_left
 ·
  show Act.put _ (some 9) _ = _
  simp only [Nrm, Option.some.injEq, List.setIfInBounds_toArray, List.set_cons_zero, List.set_cons_succ, i64_w, i32_w]
  rfl
 refine pure_ (i := 7) (N := some 10) (v := ?_) (a' := ?_) (Bt 9 255) rfl rfl (by kernel_rfl) (fun _ _ _ h => h) (Or.inl ⟨by rfl, ?_⟩) ?_ ?_
 rotate_left
 ·
  intro w'
  go_simp
  with_reducible rfl
 rotate_left
 ·
  simp only [Nrm, Option.some.injEq, List.setIfInBounds_toArray, List.set_cons_zero, List.set_cons_succ, i64_w, i32_w]
  rfl
 refine pure_ (i := 8) (N := some 2) (v := ?_) (a' := ?_) (Bt 9 511) rfl rfl (by kernel_rfl) (fun _ _ _ h => h) (Or.inl ⟨by rfl, ?_⟩) ?_ ?_
 rotate_left
 ·
  intro w'
  go_simp
  with_reducible rfl
 rotate_left
 ·
  simp only [Nrm, Option.some.injEq, List.setIfInBounds_toArray, List.set_cons_zero, List.set_cons_succ, i64_w, i32_w]
  rfl
 refine done_ (by kernel_rfl) ?_
 go_wp2
 go_ret
 exact ⟨rfl, HB.out⟩
end Go.Proofs.YtnmfmiemkcaocaaGreat.Hand
namespace Go.Proofs.YtnmfmiemkcaocaaGreat.stoppingChecks
open Go.ChangeShapes Go.WideShapes Go.ChangeAt Go.RowKit
set_option linter.unusedVariables false
theorem own : ownKnob Tryz.prog.godebug = none := by kernel_rfl
theorem laidOut : laidOutB Tryz.prog = true := by kernel_rfl
set_option maxRecDepth 100000 in
set_option maxHeartbeats 8000000 in
theorem contract (H : Type) (enc : TypeId × Value → H) (W : World) (base : Nat) (args : Array Value) (ds gs : List (DataW H)) (before : List MemPlace)
  (hval0 : ∀ (j : Nat) t v, Tryz.f3.params[j]? = some t → args[j]? = some v → Value.okWide Tryz.prog W .any base t v)
  (hW : DataW.Whole enc Tryz.prog Tryz.f3.params.toList Rows.stoppingChecksSpec.vars false W args.toList ds gs before) (hk : Rows.uptoSmall H (ds ++ gs) = true) :
  Calls Tryz.prog 3 args W fun e W' => ∃ v, e = .returned v ∧ Rows.stoppingChecksSpec.post enc Tryz.prog Tryz.f3 false true false false W args v W' := by
 have hval : ∀ (j : Nat) t v, Tryz.f3.params[j]? = some t → args[j]? = some v → Value.okWide Tryz.prog W .any base t v := hval0
 have hW' := hW
 obtain ⟨p, q, hA0, hV, rfl, hfz, hnd⟩ := hW
 have hA : DataW.TrodAll enc Tryz.prog W 0 (fun _ => true) true Tryz.f3.params.toList args.toList ds p := hA0
 rw [Tryz.params3] at hA hval
 obtain ⟨v0, vs0, d0, ds0, p0, q0, hargs, rfl, rfl, h0, r0⟩ := trodAll_cons hA
 obtain ⟨rfl, rfl, rfl⟩ := trodAll_nil r0
 obtain rfl : args = #[v0] := by cases args; simp_all
 obtain ⟨rfl, rfl⟩ := trodVars_none hV
 obtain ⟨cs0, rfl, _⟩ := okWide_struct Tryz.underlying36 (hval 0 36 v0 rfl rfl)
 have k0 := h0
 have lt0 : ∀ x ∈ p0, x.block < W.heap.size := by obtain ⟨m, hm⟩ := k0; exact DataW.trod_lt m _ _ _ hm
 obtain ⟨y0, e0, f0, b0⟩ := Open.opened (Open.o36) hk (j := 0) rfl h0
 obtain ⟨l0, rfl, ok0⟩ := Open.pol_of e0 f0 b0
 clear hA0 hval0 hk
 refine (Hand.law_Checks.run l0 W ok0).mono fun e W' ⟨he, bel⟩ => ?_
 subst he
 exact ⟨_, rfl, _, _, _, [], _, [], hW', trodAll_mk1 (shut_bool Tryz.underlying4 _), (trodAll_cons_mk (Below.trod laidOut (by kernel_rfl) (of_decide_eq_true (by kernel_rfl)) k0 bel lt0) trodAll_mk0), rfl, bel.frame _, fun h => by cases h⟩
set_option maxRecDepth 100000 in
theorem lifted (os : Os) (started : os.Started) (H : Type) (enc : TypeId × Value → H) (F : Stop.Interp) :
  ReturnsInHanded {} Tryz.checked os 3 .any ((Rows.OpenSpec.upto Rows.stoppingChecksSpec).pre6 enc Tryz.prog Tryz.f3 Rows.stoppingChecksUptoRow.domain false) (((Rows.OpenSpec.upto Rows.stoppingChecksSpec).at F).post enc Tryz.prog Tryz.f3 false true false false) := by
 refine returnsInHanded_of_cond (C := Tryz.checked) (s := Rows.OpenSpec.upto Rows.stoppingChecksSpec) (k := Rows.uptoSmall) rfl own started (by kernel_rfl) Tryz.func3
  (OpenSpec.witness (enc := enc) (C := Tryz.checked) (s := Rows.OpenSpec.upto Rows.stoppingChecksSpec) (k := Rows.uptoSmall) rfl false ⟨#[], #[.agg #[.int .i64 0, .slice none 0 0, .slice none 0 0, .slice none 0 0, .slice none 0 0, .int .i64 0, .bool false, .slice none 0 0, .slice none 0 0, .int .i64 0, .bool false, .slice none 0 0, .slice none 0 0, .int .i64 0, .bool false, .slice none 0 0, .slice none 0 0, .int .i64 0]], []⟩ 8 (by kernel_rfl) (by kernel_rfl) (by kernel_rfl)
   (x := ([.agg [.agg [.lit (.int .i64 0), .nil], .agg [.nil, .nil], .nil, .lit (.int .i64 0), .agg [.agg [.lit (.bool false), .nil], .nil], .lit (.int .i64 0), .agg [.agg [.lit (.bool false), .nil], .nil], .lit (.int .i64 0), .agg [.agg [.lit (.bool false), .nil], .nil], .lit (.int .i64 0)]], [], [])) (by kernel_rfl) rfl (by kernel_rfl)) ?_
 intro W base args ds gs before hval hW _ hk _
 exact contract H enc W base args ds gs before hval hW hk
theorem over : Rows.stoppingChecksUptoRow.holds Tryz.pinned (Rows.OpenSpec.upto Rows.stoppingChecksSpec) :=
 OpenClaim.holds_of_cond 3 Tryz.f3 rfl rfl rfl rfl rfl rfl rfl ⟨rfl, rfl, rfl, rfl, rfl⟩ rfl rfl rfl rfl rfl (by kernel_rfl) Tryz.func3 (by kernel_rfl)
  (of_decide_eq_true (by kernel_rfl)) (by unfold Func.isWrapper; first | (rw [if_pos (by decide +kernel)]; kernel_rfl) | (rw [if_neg (by decide +kernel)]; exact ⟨rfl, rfl⟩))
  (fun os started H enc _ F => lifted os started H enc F)
theorem proved : Rows.StoppingChecksUptoSaid := over
#print axioms proved
end Go.Proofs.YtnmfmiemkcaocaaGreat.stoppingChecks
namespace Go.Proofs.YtnmfmiemkcaocaaGreat
theorem stoppingChecks_holds : Rows.StoppingChecksUptoSaid := stoppingChecks.proved
end Go.Proofs.YtnmfmiemkcaocaaGreat
