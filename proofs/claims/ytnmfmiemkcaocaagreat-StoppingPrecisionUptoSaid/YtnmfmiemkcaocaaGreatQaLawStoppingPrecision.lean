/- The row of StoppingPrecision, under the bound on the bulk of what comes in. No other condition. -/
import Derived.Test.YtnmfmiemkcaocaaGreatQa11
import Derived.Test.YtnmfmiemkcaocaaGreatRows
import Derived.WalkKit
import Derived.ProofKit
import Derived.OpenShut
import Derived.ChangeOld
import Derived.Below
import Derived.SizedLaws
import Derived.JoinedCond
import Derived.WideShapes
namespace Go.Proofs.YtnmfmiemkcaocaaGreat.Hand
open Go.RowKit Go.Proofs.YtnmfmiemkcaocaaGreatW.PrintWords Go.Proofs.YtnmfmiemkcaocaaGreatW.PrintLast Go.Proofs.YtnmfmiemkcaocaaGreatW.PrintMore
set_option linter.unusedVariables false
set_option linter.unusedSimpArgs false
theorem inR_iff {x lo hi : Int} : inR x lo hi = true ↔ lo ≤ x ∧ x ≤ hi := by unfold inR; rw [Bool.and_eq_true, decide_eq_true_iff, decide_eq_true_iff]
theorem blueV_len {n : Int} {rs : List RuleT} (h : blueV n rs = 0) : 1 ≤ n ∧ n ≤ 18 := by
  unfold blueV at h
  split at h
  · rename_i h1
    exact inR_iff.1 h1
  · omega
theorem validV_ok {p : Pol} (h : validV p = 0) : (1 ≤ p.len ∧ p.len ≤ 18) ∧ (0 ≤ p.mn ∧ p.mn ≤ p.len) ∧ 0 ≤ pn p.vs p.vx p.vy ∧ 0 ≤ p.cut := by
  unfold validV at h
  split at h
  · exact absurd h (by assumption)
  split at h
  · exact absurd h (by assumption)
  split at h
  · omega
  split at h
  · omega
  rename_i h1 _ _ h2
  simp only [ne_eq, Decidable.not_not, Bool.or_eq_true, Bool.not_eq_true', decide_eq_true_eq, not_or, Bool.not_eq_false, Int.not_lt] at h1 h2
  exact ⟨blueV_len h1, inR_iff.1 h2.1.1, h2.1.2, (inR_iff.1 h2.2).1⟩
theorem firstL_congr {p q : Pol} (h : ∀ n ns, reasonV p n ns = reasonV q n ns) : ∀ (l : List (List Nat)) (i : Int), firstL p i l = firstL q i l
  | [], _ => rfl
  | _ :: l, i => by rw [firstL, firstL, h, firstL_congr h l]
theorem firstV_congr {p q : Pol} (h : ∀ n ns, reasonV p n ns = reasonV q n ns) (hv : validV p = validV q) (l : List (List Nat)) : firstV p l = firstV q l := by
  unfold firstV
  rw [hv, firstL_congr h]
def fullP (p : Pol) : Pol := { p with vs := false, vA := none, vk := 0, vc := 0, vB := none, vl := 1, vd := 1, vx := 0, vy := 1, cut := 0 }
theorem full_reason (p : Pol) (n : Int) (ns : List Nat) (h : (reasonV (fullP p) n ns).2 = 0) : (reasonV (fullP p) n ns).1 = if p.len ≤ n then 1 else 0 := by
  have hx : ¬ exactP (fullP p) ns := by
    rintro ⟨h, _⟩
    have h' : (0 : Int) < 0 := h
    exact absurd h' (by decide)
  have hd : (decV (fullP p) ns).1 = false := by
    unfold decV
    split
    · rfl
    split
    · rfl
    · rename_i h
      exact absurd (show (fullP p).cut = 0 from rfl) h
  have hlen : (fullP p).len = p.len := rfl
  unfold reasonV at h ⊢
  rw [if_neg hx, hd, hlen] at h ⊢
  by_cases a : validV (fullP p) ≠ 0
  · rw [if_pos a] at h; exact absurd h a
  rw [if_neg a] at h ⊢
  by_cases b : n < 0
  · rw [if_pos b] at h; exact absurd h (by decide)
  rw [if_neg b] at h ⊢
  by_cases d : checkV (fullP p).ps (fullP p).qs ns ≠ 0
  · rw [if_pos d] at h; exact absurd h d
  rw [if_neg d] at h ⊢
  by_cases c : p.len ≤ n
  · rw [if_pos c, if_pos c]
  · rw [if_neg c, if_neg c]
    split
    · rfl
    split
    · rfl
    · rfl
theorem full_list (p : Pol) : ∀ (l : List (List Nat)) (i : Int), i < p.len → (firstL (fullP p) i l).2.2 = 0 →
    if (l.length : Int) + i < p.len then (firstL (fullP p) i l).1 = 0 ∧ (firstL (fullP p) i l).2.1 = 0 else (firstL (fullP p) i l).1 = p.len ∧ (firstL (fullP p) i l).2.1 = 1
  | [], i, hi, _ => by
    rw [if_pos (by simpa using hi)]
    exact ⟨rfl, rfl⟩
  | ns :: l, i, hi, h => by
    by_cases hc : (reasonV (fullP p) (i + 1) ns).2 ≠ 0
    · rw [firstL, if_pos hc] at h
      exact absurd h hc
    have hr := full_reason p (i + 1) ns (by simpa using hc)
    by_cases c : p.len ≤ i + 1
    · rw [if_pos c] at hr
      have e : firstL (fullP p) i (ns :: l) = (i + 1, 1, 0) := by rw [firstL, if_neg hc, hr, if_pos (by decide)]
      rw [e, if_neg (by simp only [List.length_cons]; omega)]
      exact ⟨by show i + 1 = _; omega, rfl⟩
    · rw [if_neg c] at hr
      have e : firstL (fullP p) i (ns :: l) = firstL (fullP p) (i + 1) l := by rw [firstL, if_neg hc, hr, if_neg (by decide)]
      rw [e] at h ⊢
      have := full_list p l (i + 1) (by omega) h
      rw [show ((ns :: l).length : Int) + i = (l.length : Int) + (i + 1) by simp only [List.length_cons]; omega]
      exact this
theorem full_law (p : Pol) (l : List (List Nat)) (h : (firstV (fullP p) l).2.2 = 0) :
    if (l.length : Int) < p.len then (firstV (fullP p) l).1 = 0 ∧ (firstV (fullP p) l).2.1 = 0 else (firstV (fullP p) l).1 = p.len ∧ (firstV (fullP p) l).2.1 = 1 := by
  unfold firstV at h ⊢
  split at h
  · rename_i hc; exact absurd h hc
  rename_i hc
  split at h
  · exact absurd h (by decide)
  rename_i h18
  rw [if_neg hc, if_neg h18]
  have hv := (validV_ok (p := fullP p) (by simpa using hc)).1.1
  have hq : (0 : Int) < p.len := by
    have e : (fullP p).len = p.len := rfl
    omega
  have := full_list p l 0 hq h
  rw [Int.add_zero] at this
  exact this
theorem full_first {w : World} (p : Pol) (g : Nat) (A : Option Addr) (cap : Nat) (ws : List (List (List Int))) (L2 : Nat) (ok : PolOK w p 1100000) (hB : NA w (.slice (some ⟨g, 0, none⟩) 1 1) 1 1) (hw : WWR w A ws L2) (hl : ws.length ≤ 100000000) (hL2 : L2 ≤ 1100000) (fv : Int × Int × Int) (hr : firstV (fullP p) (ws.map wn) = fv) :
    Calls Tryz.prog 16 #[.agg #[.int .i64 p.len, .slice p.RA p.rs.length p.rc, .slice p.PA p.ps.length p.pc, .slice p.QA p.qs.length p.qc, .slice p.EA p.en p.ec, .int .i64 p.mn, .bool false, .slice none 0 0, .slice (some ⟨g, 0, none⟩) 1 1, .int .i64 0, .bool p.ls, .slice p.lA p.lk p.lc, .slice p.lB p.ll p.ld, .int .i64 p.top, .bool p.ts, .slice p.tA p.tk p.tc, .slice p.tB p.tl p.td, .int .i64 p.slack], .slice A ws.length cap] w fun e w' => e = .returned (.tuple #[.int .i64 fv.1, .int .i64 fv.2.1, .int .i64 fv.2.2]) ∧ Below w.heap.size w w' := by
  have ok2 : PolOK w { p with vs := false, vA := none, vk := 0, vc := 0, vB := some ⟨g, 0, none⟩, vl := 1, vd := 1, vx := 0, vy := 1, cut := 0 } 1100000 :=
    ⟨ok.rs, ok.rsz, ok.ps, ok.psc, ok.psl, ok.qs, (NC.nil _ _).na, hB.mono (by decide), ok.ln, ok.ld, ok.tn, ok.td, ok.lim⟩
  have := stopping_First.run _ 1100000 A cap ws L2 w ok2 hw hl hL2
  rw [firstV_congr (p := { p with vs := false, vA := none, vk := 0, vc := 0, vB := some ⟨g, 0, none⟩, vl := 1, vd := 1, vx := 0, vy := 1, cut := 0 }) (q := fullP p) (fun _ _ => rfl) rfl, hr] at this
  exact this
set_option maxHeartbeats 8000000 in
set_option maxRecDepth 100000 in
theorem law_Full.run (p : Pol) (A : Option Addr) (cap : Nat) (ws : List (List (List Int))) (L2 : Nat) (w : World) (ok : PolOK w p 1100000) (hw : WWR w A ws L2) (hl : ws.length ≤ 100000000) (hL2 : L2 ≤ 1100000) :
    Calls Tryz.prog 7 #[.agg #[.int .i64 p.len, .slice p.RA p.rs.length p.rc, .slice p.PA p.ps.length p.pc, .slice p.QA p.qs.length p.qc, .slice p.EA p.en p.ec, .int .i64 p.mn, .bool p.vs, .slice p.vA p.vk p.vc, .slice p.vB p.vl p.vd, .int .i64 p.cut, .bool p.ls, .slice p.lA p.lk p.lc, .slice p.lB p.ll p.ld, .int .i64 p.top, .bool p.ts, .slice p.tA p.tk p.tc, .slice p.tB p.tl p.td, .int .i64 p.slack], .slice A ws.length cap] w fun e w' => e = .returned (.bool true) ∧ Below w.heap.size w w' := by
  have PO := Aside0.mk ok
  have HW := Aside0.mk hw
  have HL := Aside0.mk (And.intro hl hL2)
  have HB := Aside0.mk (Below.refl w.heap.size w)
  clear ok hw hl hL2
  obtain ⟨fv, hfv⟩ : ∃ v, firstV (fullP p) (ws.map wn) = v := ⟨_, rfl⟩
  have HF := Aside0.mk hfv
  have hx := full_law p (ws.map wn)
  rw [hfv, List.length_map] at hx
  clear hfv
  by_cases ca : fv.2.2 = 0
  · replace hx := hx ca
    have kca : (fv.2.2 == 0) = true := by rw [beq_iff_eq]; exact ca
    have kcan : (fv.2.2 != 0) = false := by rw [bne, kca]; rfl
    by_cases cb : (ws.length : Int) < p.len
    · rw [if_pos cb] at hx
      have kb : decide ((ws.length : Int) < p.len) = true := decide_eq_true cb
      obtain ⟨h1, h2⟩ := hx
      have kh1 : (fv.1 == 0) = true := by rw [beq_iff_eq]; exact h1
      have kh1n : (fv.1 != 0) = false := by rw [bne, kh1]; rfl
      have kh2 : (fv.2.1 == 0) = true := by rw [beq_iff_eq]; exact h2
      have kh2n : (fv.2.1 != 0) = false := by rw [bne, kh2]; rfl
      clear ca cb h1 h2
      go_enter Tryz.func7, Tryz.ntmps7
      go_wp2_with (first | (go_at_call 11; (with_reducible refine (law_awake.run _).mono ?_); rintro e w7 ⟨rfl, hb⟩; replace H3 := As (H3.1.be hb); replace B2 := Bb B2 hb; replace HB := Ob HB hb; clear hb) | (go_at_call 16; (with_reducible refine (full_first p g8 A cap ws L2 (PO.out.below HB.out) H3.out.na (HW.out.below HB.out) HL.out.1 HL.out.2 fv HF.out).mono ?_); rintro e w6 ⟨rfl, hb⟩; replace H3 := As (H3.1.be hb); replace B2 := Bb B2 hb; replace HB := Ob HB hb; clear hb; (try clear cb2_0); have cb2_0 := Cl0 B2) | ((with_reducible refine gate_dst (N := 13) rfl ?_); refine wpList_load_row (by rfl) 36 (.tmp 2) (by rfl) g2 (by rfl) 36 #[.int .i64 p.len, .slice p.RA p.rs.length p.rc, .slice p.PA p.ps.length p.pc, .slice p.QA p.qs.length p.qc, .slice p.EA p.en p.ec, .int .i64 p.mn, .bool false, .slice none 0 0, .slice (some ⟨g8, 0, none⟩) 1 1, .int .i64 0, .bool p.ls, .slice p.lA p.lk p.lc, .slice p.lB p.ll p.ld, .int .i64 p.top, .bool p.ts, .slice p.tA p.tk p.tc, .slice p.tB p.tl p.td, .int .i64 p.slack] (0, 0) _ B2.out Tryz.underlying36 rfl (by kernel_rfl) ?_) | ((with_reducible refine gate_store (t := 3) (p := 11) rfl ?_); refine store_event (t := 3) (p := 11) (v := ?vo2) (w1 := (w4.setCell ⟨g2, 9, none⟩ (.int .i64 0))) ?hg ?ho ?hn ?hr ?_; (case ho => rfl); (case hg => rfl); (case hn => rfl); (case hr => first | (go_simp; done) | (go_simp; rfl)); intro w5 hw; have ho : Only w4 w5 g2 := (by rw [hw]; exact Only.setg (Only.refl _ _) 9 _); have hB2 : w5.heap[g2]? = some (.cells #[.int .i64 p.len, .slice p.RA p.rs.length p.rc, .slice p.PA p.ps.length p.pc, .slice p.QA p.qs.length p.qc, .slice p.EA p.en p.ec, .int .i64 p.mn, .bool false, .slice none 0 0, .slice (some ⟨g8, 0, none⟩) 1 1, .int .i64 0, .bool p.ls, .slice p.lA p.lk p.lc, .slice p.lB p.ll p.ld, .int .i64 p.top, .bool p.ts, .slice p.tA p.tk p.tc, .slice p.tB p.tl p.td, .int .i64 p.slack] 36 (0, 0)) := (by rw [hw]; exact (blk_put B2.out 9 _ rfl)); replace H3 := As (H3.1.only ho B2.1 nl18); replace HB := Lo HB ho G2; replace B2 := As hB2; clear hw ho hB2) | ((with_reducible refine gate_store (t := 34) (p := 10) rfl ?_); refine store_event (t := 34) (p := 10) (v := ?vo1) (w1 := (((w2.setCell ⟨g2, 6, none⟩ (.bool false)).setCell ⟨g2, 7, none⟩ (.slice none 0 0)).setCell ⟨g2, 8, none⟩ (.slice (some ⟨g8, 0, none⟩) 1 1))) ?hg ?ho ?hn ?hr ?_; (case ho => rfl); (case hg => rfl); (case hn => rfl); (case hr => first | (go_simp; done) | (go_simp; rfl)); intro w4 hw; have ho : Only w2 w4 g2 := (by rw [hw]; exact Only.setg (Only.setg (Only.setg (Only.refl _ _) 6 _) 7 _) 8 _); have hB2 : w4.heap[g2]? = some (.cells #[.int .i64 p.len, .slice p.RA p.rs.length p.rc, .slice p.PA p.ps.length p.pc, .slice p.QA p.qs.length p.qc, .slice p.EA p.en p.ec, .int .i64 p.mn, .bool false, .slice none 0 0, .slice (some ⟨g8, 0, none⟩) 1 1, .int .i64 p.cut, .bool p.ls, .slice p.lA p.lk p.lc, .slice p.lB p.ll p.ld, .int .i64 p.top, .bool p.ts, .slice p.tA p.tk p.tc, .slice p.tB p.tl p.td, .int .i64 p.slack] 36 (0, 0)) := (by rw [hw]; exact (blk_put (blk_put (blk_put B2.out 6 _ rfl) 7 _ rfl) 8 _ rfl)); replace H3 := As (H3.1.only ho B2.1 nl18); replace HB := Lo HB ho G2; replace B2 := As hB2; clear hw ho hB2; (try clear cb2_9); have cb2_9 := Cl9 B2; (try clear fb2_9); have fb2_9 := Fz B2 9) | ((with_reducible refine gate_dst (N := 8) rfl ?_); refine ev_row (by rfl) #[.int .u32 1] 52 1 ?hr ?_; (case hr => first | (go_simp; done) | (go_simp; rfl)); intro g8 hgx w2 hbx hb; have H3 := Aside0.mk (NA.ofRow1 (a := 1) hbx (by decide)); replace B2 := Bb B2 hb; replace HB := Ob HB hb; clear hbx hb hgx; (try clear cb2_6); have cb2_6 := Cl6 B2; (try clear fb2_6); have fb2_6 := Fz B2 6; (try clear cb2_7); have cb2_7 := Cl7 B2; (try clear fb2_7); have fb2_7 := Fz B2 7; (try clear cb2_8); have cb2_8 := Cl8 B2; (try clear fb2_8); have fb2_8 := Fz B2 8) | ((with_reducible refine gate_dst (N := 2) rfl ?_); refine box_event (by rfl) (N := 2) (by rfl) (cs := #[.int .i64 p.len, .slice p.RA p.rs.length p.rc, .slice p.PA p.ps.length p.pc, .slice p.QA p.qs.length p.qc, .slice p.EA p.en p.ec, .int .i64 p.mn, .bool p.vs, .slice p.vA p.vk p.vc, .slice p.vB p.vl p.vd, .int .i64 p.cut, .bool p.ls, .slice p.lA p.lk p.lc, .slice p.lB p.ll p.ld, .int .i64 p.top, .bool p.ts, .slice p.tA p.tk p.tc, .slice p.tB p.tl p.td, .int .i64 p.slack]) (t := 36) ?hr ?_; (case hr => first | (go_simp; done) | (go_simp; rfl)); intro g2 hgx w1 hbx hb; have B2 := As hbx; have G2 := Gg HB hgx; replace HB := Ob HB hb; clear hbx hb hgx))
      go_ret
      exact ⟨rfl, HB.out⟩
    · rw [if_neg cb] at hx
      have kb : decide ((ws.length : Int) < p.len) = false := decide_eq_false cb
      obtain ⟨h1, h2⟩ := hx
      have kh1 : (fv.1 == p.len) = true := by rw [beq_iff_eq]; exact h1
      have kh1n : (fv.1 != p.len) = false := by rw [bne, kh1]; rfl
      have kh2 : (fv.2.1 == 1) = true := by rw [beq_iff_eq]; exact h2
      have kh2n : (fv.2.1 != 1) = false := by rw [bne, kh2]; rfl
      clear ca cb h1 h2
      go_enter Tryz.func7, Tryz.ntmps7
      go_wp2_with (first | (go_at_call 11; (with_reducible refine (law_awake.run _).mono ?_); rintro e w7 ⟨rfl, hb⟩; replace H3 := As (H3.1.be hb); replace B2 := Bb B2 hb; replace HB := Ob HB hb; clear hb) | (go_at_call 16; (with_reducible refine (full_first p g8 A cap ws L2 (PO.out.below HB.out) H3.out.na (HW.out.below HB.out) HL.out.1 HL.out.2 fv HF.out).mono ?_); rintro e w6 ⟨rfl, hb⟩; replace H3 := As (H3.1.be hb); replace B2 := Bb B2 hb; replace HB := Ob HB hb; clear hb; (try clear cb2_0); have cb2_0 := Cl0 B2) | ((with_reducible refine gate_dst (N := 13) rfl ?_); refine wpList_load_row (by rfl) 36 (.tmp 2) (by rfl) g2 (by rfl) 36 #[.int .i64 p.len, .slice p.RA p.rs.length p.rc, .slice p.PA p.ps.length p.pc, .slice p.QA p.qs.length p.qc, .slice p.EA p.en p.ec, .int .i64 p.mn, .bool false, .slice none 0 0, .slice (some ⟨g8, 0, none⟩) 1 1, .int .i64 0, .bool p.ls, .slice p.lA p.lk p.lc, .slice p.lB p.ll p.ld, .int .i64 p.top, .bool p.ts, .slice p.tA p.tk p.tc, .slice p.tB p.tl p.td, .int .i64 p.slack] (0, 0) _ B2.out Tryz.underlying36 rfl (by kernel_rfl) ?_) | ((with_reducible refine gate_store (t := 3) (p := 11) rfl ?_); refine store_event (t := 3) (p := 11) (v := ?vo4) (w1 := (w4.setCell ⟨g2, 9, none⟩ (.int .i64 0))) ?hg ?ho ?hn ?hr ?_; (case ho => rfl); (case hg => rfl); (case hn => rfl); (case hr => first | (go_simp; done) | (go_simp; rfl)); intro w5 hw; have ho : Only w4 w5 g2 := (by rw [hw]; exact Only.setg (Only.refl _ _) 9 _); have hB2 : w5.heap[g2]? = some (.cells #[.int .i64 p.len, .slice p.RA p.rs.length p.rc, .slice p.PA p.ps.length p.pc, .slice p.QA p.qs.length p.qc, .slice p.EA p.en p.ec, .int .i64 p.mn, .bool false, .slice none 0 0, .slice (some ⟨g8, 0, none⟩) 1 1, .int .i64 0, .bool p.ls, .slice p.lA p.lk p.lc, .slice p.lB p.ll p.ld, .int .i64 p.top, .bool p.ts, .slice p.tA p.tk p.tc, .slice p.tB p.tl p.td, .int .i64 p.slack] 36 (0, 0)) := (by rw [hw]; exact (blk_put B2.out 9 _ rfl)); replace H3 := As (H3.1.only ho B2.1 nl18); replace HB := Lo HB ho G2; replace B2 := As hB2; clear hw ho hB2) | ((with_reducible refine gate_store (t := 34) (p := 10) rfl ?_); refine store_event (t := 34) (p := 10) (v := ?vo3) (w1 := (((w2.setCell ⟨g2, 6, none⟩ (.bool false)).setCell ⟨g2, 7, none⟩ (.slice none 0 0)).setCell ⟨g2, 8, none⟩ (.slice (some ⟨g8, 0, none⟩) 1 1))) ?hg ?ho ?hn ?hr ?_; (case ho => rfl); (case hg => rfl); (case hn => rfl); (case hr => first | (go_simp; done) | (go_simp; rfl)); intro w4 hw; have ho : Only w2 w4 g2 := (by rw [hw]; exact Only.setg (Only.setg (Only.setg (Only.refl _ _) 6 _) 7 _) 8 _); have hB2 : w4.heap[g2]? = some (.cells #[.int .i64 p.len, .slice p.RA p.rs.length p.rc, .slice p.PA p.ps.length p.pc, .slice p.QA p.qs.length p.qc, .slice p.EA p.en p.ec, .int .i64 p.mn, .bool false, .slice none 0 0, .slice (some ⟨g8, 0, none⟩) 1 1, .int .i64 p.cut, .bool p.ls, .slice p.lA p.lk p.lc, .slice p.lB p.ll p.ld, .int .i64 p.top, .bool p.ts, .slice p.tA p.tk p.tc, .slice p.tB p.tl p.td, .int .i64 p.slack] 36 (0, 0)) := (by rw [hw]; exact (blk_put (blk_put (blk_put B2.out 6 _ rfl) 7 _ rfl) 8 _ rfl)); replace H3 := As (H3.1.only ho B2.1 nl18); replace HB := Lo HB ho G2; replace B2 := As hB2; clear hw ho hB2; (try clear cb2_9); have cb2_9 := Cl9 B2; (try clear fb2_9); have fb2_9 := Fz B2 9) | ((with_reducible refine gate_dst (N := 8) rfl ?_); refine ev_row (by rfl) #[.int .u32 1] 52 1 ?hr ?_; (case hr => first | (go_simp; done) | (go_simp; rfl)); intro g8 hgx w2 hbx hb; have H3 := Aside0.mk (NA.ofRow1 (a := 1) hbx (by decide)); replace B2 := Bb B2 hb; replace HB := Ob HB hb; clear hbx hb hgx; (try clear cb2_6); have cb2_6 := Cl6 B2; (try clear fb2_6); have fb2_6 := Fz B2 6; (try clear cb2_7); have cb2_7 := Cl7 B2; (try clear fb2_7); have fb2_7 := Fz B2 7; (try clear cb2_8); have cb2_8 := Cl8 B2; (try clear fb2_8); have fb2_8 := Fz B2 8) | ((with_reducible refine gate_dst (N := 2) rfl ?_); refine box_event (by rfl) (N := 2) (by rfl) (cs := #[.int .i64 p.len, .slice p.RA p.rs.length p.rc, .slice p.PA p.ps.length p.pc, .slice p.QA p.qs.length p.qc, .slice p.EA p.en p.ec, .int .i64 p.mn, .bool p.vs, .slice p.vA p.vk p.vc, .slice p.vB p.vl p.vd, .int .i64 p.cut, .bool p.ls, .slice p.lA p.lk p.lc, .slice p.lB p.ll p.ld, .int .i64 p.top, .bool p.ts, .slice p.tA p.tk p.tc, .slice p.tB p.tl p.td, .int .i64 p.slack]) (t := 36) ?hr ?_; (case hr => first | (go_simp; done) | (go_simp; rfl)); intro g2 hgx w1 hbx hb; have B2 := As hbx; have G2 := Gg HB hgx; replace HB := Ob HB hb; clear hbx hb hgx))
      go_ret
      exact ⟨rfl, HB.out⟩
  · clear hx
    have kca : (fv.2.2 == 0) = false := by rw [beq_eq_false_iff_ne]; exact ca
    have kcan : (fv.2.2 != 0) = true := by rw [bne, kca]; rfl
    clear ca
    go_enter Tryz.func7, Tryz.ntmps7
    go_wp2_with (first | (go_at_call 11; (with_reducible refine (law_awake.run _).mono ?_); rintro e w7 ⟨rfl, hb⟩; replace H3 := As (H3.1.be hb); replace B2 := Bb B2 hb; replace HB := Ob HB hb; clear hb) | (go_at_call 16; (with_reducible refine (full_first p g8 A cap ws L2 (PO.out.below HB.out) H3.out.na (HW.out.below HB.out) HL.out.1 HL.out.2 fv HF.out).mono ?_); rintro e w6 ⟨rfl, hb⟩; replace H3 := As (H3.1.be hb); replace B2 := Bb B2 hb; replace HB := Ob HB hb; clear hb) | ((with_reducible refine gate_dst (N := 13) rfl ?_); refine wpList_load_row (by rfl) 36 (.tmp 2) (by rfl) g2 (by rfl) 36 #[.int .i64 p.len, .slice p.RA p.rs.length p.rc, .slice p.PA p.ps.length p.pc, .slice p.QA p.qs.length p.qc, .slice p.EA p.en p.ec, .int .i64 p.mn, .bool false, .slice none 0 0, .slice (some ⟨g8, 0, none⟩) 1 1, .int .i64 0, .bool p.ls, .slice p.lA p.lk p.lc, .slice p.lB p.ll p.ld, .int .i64 p.top, .bool p.ts, .slice p.tA p.tk p.tc, .slice p.tB p.tl p.td, .int .i64 p.slack] (0, 0) _ B2.out Tryz.underlying36 rfl (by kernel_rfl) ?_) | ((with_reducible refine gate_store (t := 3) (p := 11) rfl ?_); refine store_event (t := 3) (p := 11) (v := ?vo6) (w1 := (w4.setCell ⟨g2, 9, none⟩ (.int .i64 0))) ?hg ?ho ?hn ?hr ?_; (case ho => rfl); (case hg => rfl); (case hn => rfl); (case hr => first | (go_simp; done) | (go_simp; rfl)); intro w5 hw; have ho : Only w4 w5 g2 := (by rw [hw]; exact Only.setg (Only.refl _ _) 9 _); have hB2 : w5.heap[g2]? = some (.cells #[.int .i64 p.len, .slice p.RA p.rs.length p.rc, .slice p.PA p.ps.length p.pc, .slice p.QA p.qs.length p.qc, .slice p.EA p.en p.ec, .int .i64 p.mn, .bool false, .slice none 0 0, .slice (some ⟨g8, 0, none⟩) 1 1, .int .i64 0, .bool p.ls, .slice p.lA p.lk p.lc, .slice p.lB p.ll p.ld, .int .i64 p.top, .bool p.ts, .slice p.tA p.tk p.tc, .slice p.tB p.tl p.td, .int .i64 p.slack] 36 (0, 0)) := (by rw [hw]; exact (blk_put B2.out 9 _ rfl)); replace H3 := As (H3.1.only ho B2.1 nl18); replace HB := Lo HB ho G2; replace B2 := As hB2; clear hw ho hB2) | ((with_reducible refine gate_store (t := 34) (p := 10) rfl ?_); refine store_event (t := 34) (p := 10) (v := ?vo5) (w1 := (((w2.setCell ⟨g2, 6, none⟩ (.bool false)).setCell ⟨g2, 7, none⟩ (.slice none 0 0)).setCell ⟨g2, 8, none⟩ (.slice (some ⟨g8, 0, none⟩) 1 1))) ?hg ?ho ?hn ?hr ?_; (case ho => rfl); (case hg => rfl); (case hn => rfl); (case hr => first | (go_simp; done) | (go_simp; rfl)); intro w4 hw; have ho : Only w2 w4 g2 := (by rw [hw]; exact Only.setg (Only.setg (Only.setg (Only.refl _ _) 6 _) 7 _) 8 _); have hB2 : w4.heap[g2]? = some (.cells #[.int .i64 p.len, .slice p.RA p.rs.length p.rc, .slice p.PA p.ps.length p.pc, .slice p.QA p.qs.length p.qc, .slice p.EA p.en p.ec, .int .i64 p.mn, .bool false, .slice none 0 0, .slice (some ⟨g8, 0, none⟩) 1 1, .int .i64 p.cut, .bool p.ls, .slice p.lA p.lk p.lc, .slice p.lB p.ll p.ld, .int .i64 p.top, .bool p.ts, .slice p.tA p.tk p.tc, .slice p.tB p.tl p.td, .int .i64 p.slack] 36 (0, 0)) := (by rw [hw]; exact (blk_put (blk_put (blk_put B2.out 6 _ rfl) 7 _ rfl) 8 _ rfl)); replace H3 := As (H3.1.only ho B2.1 nl18); replace HB := Lo HB ho G2; replace B2 := As hB2; clear hw ho hB2; (try clear cb2_9); have cb2_9 := Cl9 B2; (try clear fb2_9); have fb2_9 := Fz B2 9) | ((with_reducible refine gate_dst (N := 8) rfl ?_); refine ev_row (by rfl) #[.int .u32 1] 52 1 ?hr ?_; (case hr => first | (go_simp; done) | (go_simp; rfl)); intro g8 hgx w2 hbx hb; have H3 := Aside0.mk (NA.ofRow1 (a := 1) hbx (by decide)); replace B2 := Bb B2 hb; replace HB := Ob HB hb; clear hbx hb hgx; (try clear cb2_6); have cb2_6 := Cl6 B2; (try clear fb2_6); have fb2_6 := Fz B2 6; (try clear cb2_7); have cb2_7 := Cl7 B2; (try clear fb2_7); have fb2_7 := Fz B2 7; (try clear cb2_8); have cb2_8 := Cl8 B2; (try clear fb2_8); have fb2_8 := Fz B2 8) | ((with_reducible refine gate_dst (N := 2) rfl ?_); refine box_event (by rfl) (N := 2) (by rfl) (cs := #[.int .i64 p.len, .slice p.RA p.rs.length p.rc, .slice p.PA p.ps.length p.pc, .slice p.QA p.qs.length p.qc, .slice p.EA p.en p.ec, .int .i64 p.mn, .bool p.vs, .slice p.vA p.vk p.vc, .slice p.vB p.vl p.vd, .int .i64 p.cut, .bool p.ls, .slice p.lA p.lk p.lc, .slice p.lB p.ll p.ld, .int .i64 p.top, .bool p.ts, .slice p.tA p.tk p.tc, .slice p.tB p.tl p.td, .int .i64 p.slack]) (t := 36) ?hr ?_; (case hr => first | (go_simp; done) | (go_simp; rfl)); intro g2 hgx w1 hbx hb; have B2 := As hbx; have G2 := Gg HB hgx; replace HB := Ob HB hb; clear hbx hb hgx))
    go_ret
    exact ⟨rfl, HB.out⟩
end Go.Proofs.YtnmfmiemkcaocaaGreat.Hand
namespace Go.Proofs.YtnmfmiemkcaocaaGreat.Hand
open Go.RowKit Go.Proofs.YtnmfmiemkcaocaaGreatW.PrintWords Go.Proofs.YtnmfmiemkcaocaaGreatW.PrintLast Go.Proofs.YtnmfmiemkcaocaaGreatW.PrintMore
set_option linter.unusedVariables false
set_option linter.unusedSimpArgs false
theorem reason_some {p : Pol} {n why : Int} {ns : List Nat} (h : reasonV p n ns = (why, 0)) (hw : why ≠ 0) :
    validV p = 0 ∧ 0 ≤ n ∧ checkV p.ps p.qs ns = 0 ∧ ((p.len ≤ n ∧ why = 1) ∨ (n < p.len ∧ p.mn ≤ n ∧ ((why = 2 ∧ exactP p ns) ∨ (why = 3 ∧ decV p ns = (true, 0))))) := by
  unfold reasonV at h
  by_cases a : validV p ≠ 0
  · rw [if_pos a] at h; injection h with h1 h2; exact absurd h1.symm hw
  rw [if_neg a] at h
  by_cases b : n < 0
  · rw [if_pos b] at h; injection h with h1 h2; exact absurd h1.symm hw
  rw [if_neg b] at h
  by_cases d : checkV p.ps p.qs ns ≠ 0
  · rw [if_pos d] at h; injection h with h1 h2; exact absurd h1.symm hw
  rw [if_neg d] at h
  refine ⟨by omega, by omega, by omega, ?_⟩
  by_cases c : p.len ≤ n
  · rw [if_pos c] at h; injection h with h1 h2; exact .inl ⟨c, h1.symm⟩
  rw [if_neg c] at h
  by_cases f : n < p.mn
  · rw [if_pos f] at h; injection h with h1 h2; exact absurd h1.symm hw
  rw [if_neg f] at h
  refine .inr ⟨by omega, by omega, ?_⟩
  by_cases g : exactP p ns
  · rw [if_pos g] at h; injection h with h1 h2; exact .inl ⟨h1.symm, g⟩
  rw [if_neg g] at h
  by_cases k : (decV p ns).2 ≠ 0
  · rw [if_pos k] at h; injection h with h1 h2; exact absurd h1.symm hw
  rw [if_neg k] at h
  by_cases m : (decV p ns).1 = true
  · rw [if_pos m] at h; injection h with h1 h2; exact .inr ⟨h1.symm, Prod.ext m (by simpa using k)⟩
  · rw [if_neg m] at h; injection h with h1 h2; exact absurd h1.symm hw
theorem dec_cut {p : Pol} {ns : List Nat} (h : decV p ns = (true, 0)) : p.cut ≠ 0 := by
  intro e
  unfold decV at h
  by_cases a : validV p ≠ 0
  · rw [if_pos a] at h; injection h with h1; exact absurd h1 (by decide)
  · rw [if_neg a, if_pos e] at h; injection h with h1; exact absurd h1 (by decide)
theorem first_list (p : Pol) : ∀ (l : List (List Nat)) (i : Int), i < p.len →
    ((firstL p i l).2.2 ≠ 0 → (firstL p i l).1 = 0 ∧ (firstL p i l).2.1 = 0) ∧
    ((firstL p i l).2.2 = 0 → ((firstL p i l).2.1 = 0 ∧ (firstL p i l).1 = 0 ∧ (l.length : Int) + i < p.len) ∨
      (i < (firstL p i l).1 ∧ (firstL p i l).1 ≤ p.len ∧ (firstL p i l).1 ≤ (l.length : Int) + i ∧ reasonV p (firstL p i l).1 (l.getD ((firstL p i l).1 - i - 1).toNat []) = ((firstL p i l).2.1, 0) ∧ (firstL p i l).2.1 ≠ 0))
  | [], i, hi => ⟨fun h => absurd rfl h, fun _ => .inl ⟨rfl, rfl, by simpa using hi⟩⟩
  | ns :: l, i, hi => by
    by_cases hc : (reasonV p (i + 1) ns).2 ≠ 0
    · have e : firstL p i (ns :: l) = (0, 0, (reasonV p (i + 1) ns).2) := by rw [firstL, if_pos hc]
      rw [e]
      exact ⟨fun _ => ⟨rfl, rfl⟩, fun h => absurd h hc⟩
    by_cases hr : (reasonV p (i + 1) ns).1 ≠ 0
    · have e : firstL p i (ns :: l) = (i + 1, (reasonV p (i + 1) ns).1, 0) := by rw [firstL, if_neg hc, if_pos hr]
      rw [e]
      refine ⟨fun h => absurd rfl h, fun _ => .inr ⟨by show i < i + 1; omega, by show i + 1 ≤ p.len; omega, by simp only [List.length_cons]; omega, ?_, hr⟩⟩
      rw [show (i + 1 - i - 1).toNat = 0 by omega]
      exact Prod.ext rfl (by simpa using hc)
    · have e : firstL p i (ns :: l) = firstL p (i + 1) l := by rw [firstL, if_neg hc, if_neg hr]
      have hlt : i + 1 < p.len := by
        refine Int.not_le.1 fun c => hr ?_
        have hx : reasonV p (i + 1) ns = (1, 0) := by
          unfold reasonV at hc ⊢
          by_cases a : validV p ≠ 0
          · rw [if_pos a] at hc; exact absurd a hc
          rw [if_neg a] at hc ⊢
          by_cases b : i + 1 < 0
          · rw [if_pos b] at hc; exact absurd (show (3 : Int) ≠ 0 by decide) hc
          rw [if_neg b] at hc ⊢
          by_cases d : checkV p.ps p.qs ns ≠ 0
          · rw [if_pos d] at hc; exact absurd d hc
          rw [if_neg d, if_pos c]
        exact absurd hr (by rw [hx]; decide)
      obtain ⟨h1, h2⟩ := first_list p l (i + 1) hlt
      rw [e]
      refine ⟨h1, fun h => ?_⟩
      rcases h2 h with ⟨a, b, c⟩ | ⟨a, b, c, d, f⟩
      · exact .inl ⟨a, b, by simp only [List.length_cons]; omega⟩
      · refine .inr ⟨by omega, b, by simp only [List.length_cons]; omega, ?_, f⟩
        rw [show ((firstL p (i + 1) l).1 - i - 1).toNat = ((firstL p (i + 1) l).1 - (i + 1) - 1).toNat + 1 by omega, List.getD_cons_succ]
        exact d
theorem first_law (p : Pol) (l : List (List Nat)) (n why e : Int) (h : firstV p l = (n, why, e)) :
    (e ≠ 0 → n = 0 ∧ why = 0) ∧ (e = 0 → (n = 0 ∧ why = 0 ∧ (l.length : Int) < p.len) ∨
      (n ≠ 0 ∧ 0 < n ∧ n ≤ p.len ∧ n ≤ (l.length : Int) ∧ reasonV p n (l.getD (n - 1).toNat []) = (why, 0) ∧ why ≠ 0)) := by
  unfold firstV at h
  by_cases a : validV p ≠ 0
  · rw [if_pos a] at h
    injection h with h1 h2; injection h2 with h2 h3
    exact ⟨fun _ => ⟨h1.symm, h2.symm⟩, fun x => absurd (h3.trans x) a⟩
  rw [if_neg a] at h
  by_cases b : 18 < l.length
  · rw [if_pos b] at h
    injection h with h1 h2; injection h2 with h2 h3
    exact ⟨fun _ => ⟨h1.symm, h2.symm⟩, fun x => absurd (h3.trans x) (by decide)⟩
  rw [if_neg b] at h
  have hv := (validV_ok (p := p) (by simpa using a)).1.1
  obtain ⟨h1, h2⟩ := first_list p l 0 (by omega)
  rw [h] at h1 h2
  refine ⟨h1, fun x => ?_⟩
  rcases h2 x with ⟨a, b, c⟩ | ⟨a, b, c, d, f⟩
  · exact .inl ⟨b, a, by omega⟩
  · have a' : 0 < n := a
    refine .inr ⟨by omega, a, b, by have c' : n ≤ (l.length : Int) + 0 := c; omega, ?_, f⟩
    rw [show n - 1 = n - 0 - 1 by omega]
    exact d
theorem dec_true {w : World} (p : Pol) (L : Nat) (A : Option Addr) (cap : Nat) (wss : List (List Int)) (L2 : Nat) (ok : PolOK w p L) (hw : WR w A wss L2) (hc : wss.length ≤ cap) (hl : wss.length ≤ 100000000) (hL2 : L2 ≤ 1100000) (hr : decV p (wn wss) = (true, 0)) :
    Calls Tryz.prog 14 #[.agg #[.int .i64 p.len, .slice p.RA p.rs.length p.rc, .slice p.PA p.ps.length p.pc, .slice p.QA p.qs.length p.qc, .slice p.EA p.en p.ec, .int .i64 p.mn, .bool p.vs, .slice p.vA p.vk p.vc, .slice p.vB p.vl p.vd, .int .i64 p.cut, .bool p.ls, .slice p.lA p.lk p.lc, .slice p.lB p.ll p.ld, .int .i64 p.top, .bool p.ts, .slice p.tA p.tk p.tc, .slice p.tB p.tl p.td, .int .i64 p.slack], .slice A wss.length cap] w fun e w' => e = .returned (.tuple #[.bool true, .int .i64 0]) ∧ Below w.heap.size w w' := by
  have := stopping_Decided.run p L A cap wss L2 w ok hw hc hl hL2
  rw [hr] at this
  exact this
theorem law_first {w : World} (p : Pol) (A : Option Addr) (cap : Nat) (ws : List (List (List Int))) (L2 : Nat) (ok : PolOK w p 1100000) (hw : WWR w A ws L2) (hl : ws.length ≤ 100000000) (hL2 : L2 ≤ 1100000) {n y e : Int} (hr : firstV p (ws.map wn) = (n, y, e)) :
    Calls Tryz.prog 16 #[.agg #[.int .i64 p.len, .slice p.RA p.rs.length p.rc, .slice p.PA p.ps.length p.pc, .slice p.QA p.qs.length p.qc, .slice p.EA p.en p.ec, .int .i64 p.mn, .bool p.vs, .slice p.vA p.vk p.vc, .slice p.vB p.vl p.vd, .int .i64 p.cut, .bool p.ls, .slice p.lA p.lk p.lc, .slice p.lB p.ll p.ld, .int .i64 p.top, .bool p.ts, .slice p.tA p.tk p.tc, .slice p.tB p.tl p.td, .int .i64 p.slack], .slice A ws.length cap] w fun x w' => x = .returned (.tuple #[.int .i64 n, .int .i64 y, .int .i64 e]) ∧ Below w.heap.size w w' := by
  have := stopping_First.run p 1100000 A cap ws L2 w ok hw hl hL2
  rw [hr] at this
  exact this
theorem cell_below {w W : World} {a : Addr} {v : Value} (h : w.cell? a = some v) (hb : Below w.heap.size w W) : W.cell? a = some v := by
  exact pw_cell_below hb h
theorem run_load36 {o : Oper} {a : Act} {w : World} (x : Operand) (ho : o.op = .load 36 x) (g : Nat) (hx : a.eval x = .pointer (some ⟨g, 0, none⟩)) (cs : Array Value) (hg : w.heap[g]? = some (.cells cs 36 (0, 0))) (hi : (Tryz.prog.info? 36).map (·.size) = some cs.size) :
    (execOp a.eval o).run Tryz.prog w = .ok (.value (.agg cs)) w := by
  unfold execOp
  simp only [ho, hx, Instr.loadAt, Instr.sureAddr, Sem.run_bind, Sem.run_pure, Result.andThen_ok, run_loadVar_row w g 36 36 cs (0, 0) _ hg Tryz.underlying36 rfl hi]
set_option maxHeartbeats 8000000 in
set_option maxRecDepth 100000 in
theorem law_early.run (p : Pol) (L : Nat) (A : Option Addr) (cap : Nat) (wss : List (List Int)) (L2 : Nat) (n why : Int) (w : World) (ok : PolOK w p L) (hw : WR w A wss L2) (hc : wss.length ≤ cap) (hl : wss.length ≤ 100000000) (hL2 : L2 ≤ 1100000) (hr : reasonV p n (wn wss) = (why, 0)) (hy : why ≠ 0) (hn : n < p.len) :
    Calls Tryz.prog 18 #[.agg #[.int .i64 p.len, .slice p.RA p.rs.length p.rc, .slice p.PA p.ps.length p.pc, .slice p.QA p.qs.length p.qc, .slice p.EA p.en p.ec, .int .i64 p.mn, .bool p.vs, .slice p.vA p.vk p.vc, .slice p.vB p.vl p.vd, .int .i64 p.cut, .bool p.ls, .slice p.lA p.lk p.lc, .slice p.lB p.ll p.ld, .int .i64 p.top, .bool p.ts, .slice p.tA p.tk p.tc, .slice p.tB p.tl p.td, .int .i64 p.slack], .slice A wss.length cap, .int .i64 why] w fun e w' => e = .returned (.bool true) ∧ Below w.heap.size w w' := by
  obtain ⟨hv, h0, h3, hx⟩ := reason_some hr hy
  rcases hx with ⟨hx, _⟩ | ⟨_, _, hx⟩
  · omega
  · rcases hx with ⟨rfl, hx⟩ | ⟨rfl, hx⟩
    · obtain ⟨cv, hcv⟩ : ∃ v, checkV p.ps p.qs (wn wss) = v := ⟨_, rfl⟩
      have HCV := Aside0.mk hcv
      have cc : cv = 0 := hcv.symm.trans h3
      have kcc : (cv == 0) = true := by rw [beq_iff_eq]; exact cc
      have kccn : (cv != 0) = false := by rw [bne, kcc]; rfl
      have X3 := Aside0.mk cc
      have VD := Aside0.mk (show 0 < varD (wn wss) by have h := (checkV_ok h3).2.2; unfold varD; exact Int.mul_pos (by omega) (by omega))
      have k6 : decide (0 < cmpZ (pn p.vs p.vx p.vy) 0) = true := decide_eq_true (cmpZ_pos.2 hx.1)
      have X7 := Aside0.mk hx.2
      have PO := Aside0.mk ok
      have HW := Aside0.mk hw
      have HWC := Aside0.mk hc
      have H91 := Aside0.mk ok.vn
      have H92 := Aside0.mk ok.vd
      have H93 := Aside0.mk ok.ln
      have H94 := Aside0.mk ok.ld
      have HL := Aside0.mk (And.intro ok.lim (And.intro hl hL2))
      have HB := Aside0.mk (Below.refl w.heap.size w)
      clear ok hw hc hl hL2
      clear hcv cc hx hr hy hn hv h0 h3
      go_enter Tryz.func18, Tryz.ntmps18
      go_wp2_with (first | (go_at_call 19; (with_reducible refine (ratio_Cmp.run s2 p.vs _ _ _ _ _ _ _ _ _ _ _ _ n2 m2 p.vx p.vy (6 * L2 + 1000) (3 * L2 + 200) L L _ H3.1.na H4.1.na (H91.1.be HB.1) (H92.1.be HB.1) (by have := HL.out; omega)).mono ?_); rintro e w8 ⟨rfl, hb⟩; replace H3 := As (H3.1.be hb); replace H4 := As (H4.1.be hb); replace B3 := Bb B3 hb; replace B7 := Bb B7 hb; replace HB := Ob HB hb; have kc8 : decide ((cmpZ (pn s2 n2 m2 * pd p.vy) (pn p.vs p.vx p.vy * pd m2)) ≤ 0) = true := decide_eq_true (by have q := F2.out; rw [cmpZ_nonpos, pn_of q.1, pd_of q.1, frac_ge (q.2 (HCV.out.trans X3.out)) (by have := q.1; omega) VD.out]; exact X7.out); clear hb) | (go_at_call 20; (with_reducible refine (ratio_Sign.run p.vs _ _ _ _ _ _ p.vx p.vy L L _ (H91.1.be HB.1) (H92.1.be HB.1) (by have := HL.out; omega)).mono ?_); rintro e w7 ⟨rfl, hb⟩; replace H3 := As (H3.1.be hb); replace H4 := As (H4.1.be hb); replace B3 := Bb B3 hb; replace B7 := Bb B7 hb; replace HB := Ob HB hb; clear hb; (try clear cb7_0); have cb7_0 := Cl0 B7; (try clear cb7_1); have cb7_1 := Cl1 B7; (try clear cb7_2); have cb7_2 := Cl2 B7; (try clear cb3_6); have cb3_6 := Cl6 B3; (try clear cb3_7); have cb3_7 := Cl7 B3; (try clear cb3_8); have cb3_8 := Cl8 B3) | ((with_reducible refine gate_store (t := 34) (p := 7) rfl ?_); refine Sto (t := 34) (p := 7) (by rfl) (.tmp 18) (by rfl) (by rfl) g7 #[.bool s2, .slice A2 k2 c2, .slice D2 l2 d2] (by rfl) (by first | rfl | (go_simp; done) | (go_simp; rfl)) B7 (by kernel_rfl) rfl (by kernel_rfl) ?_; intro w6 ho hB2; replace H3 := As (H3.1.o3 ho B7); replace H4 := As (H4.1.o3 ho B7); replace B3 := Oo B3 ho NE3_7; replace HB := Lo HB ho G7; replace B7 := hB2; clear ho hB2; (try clear cb3_6); have cb3_6 := Cl6 B3; (try clear cb3_7); have cb3_7 := Cl7 B3; (try clear cb3_8); have cb3_8 := Cl8 B3) | ((with_reducible refine gate_dst (N := 7) rfl ?_); refine box_event (by rfl) (N := 7) (by rfl) (cs := #[.bool false, .slice none 0 0, .slice none 0 0]) (t := 34) ?hr ?_; (case hr => first | (go_simp; done) | (go_simp; rfl)); intro g7 hgx w5 hbx hb; have B7 := As hbx; have NE3_7 := Nn B3 hgx; have G7 := Gg HB hgx; replace H3 := As (H3.1.be hb); replace H4 := As (H4.1.be hb); replace B3 := Bb B3 hb; replace HB := Ob HB hb; clear hbx hb hgx) | (go_at_call 34; (with_reducible refine (estimate_Variance.run p.ps p.qs p.PA p.QA p.pc p.qc A cap wss L2 _ (Kd.C_below PO.out.ps HB.out) (Kd.C_below PO.out.qs HB.out) PO.out.psc (HW.out.below HB.out) HL.out.2.1 HL.out.2.2).mono ?_); rintro e w2 ⟨s2, A2, k2, c2, D2, l2, d2, n2, m2, rfl, hq2, hr2, hm2, hz2, hb⟩; have H3 := Aside0.mk hq2; have H4 := Aside0.mk hr2; have F2 := Aside0.mk (And.intro hm2 hz2); clear hq2 hr2 hm2 hz2; replace B3 := Bb B3 hb; replace HB := Ob HB hb; rw [HCV.out]; clear hb) | ((with_reducible refine gate_dst (N := 3) rfl ?_); refine box_event (by rfl) (N := 3) (by rfl) (cs := #[.int .i64 p.len, .slice p.RA p.rs.length p.rc, .slice p.PA p.ps.length p.pc, .slice p.QA p.qs.length p.qc, .slice p.EA p.en p.ec, .int .i64 p.mn, .bool p.vs, .slice p.vA p.vk p.vc, .slice p.vB p.vl p.vd, .int .i64 p.cut, .bool p.ls, .slice p.lA p.lk p.lc, .slice p.lB p.ll p.ld, .int .i64 p.top, .bool p.ts, .slice p.tA p.tk p.tc, .slice p.tB p.tl p.td, .int .i64 p.slack]) (t := 36) ?hr ?_; (case hr => first | (go_simp; done) | (go_simp; rfl)); intro g3 hgx w1 hbx hb; have B3 := As hbx; have G3 := Gg HB hgx; replace HB := Ob HB hb; clear hbx hb hgx; (try clear cb3_2); have cb3_2 := Cl2 B3; (try clear cb3_3); have cb3_3 := Cl3 B3))
      go_ret
      exact ⟨rfl, HB.out⟩
    · have k6 : decide (0 < p.cut) = true := decide_eq_true (by have := (validV_ok hv).2.2.2; have := dec_cut hx; omega)
      have HDV := Aside0.mk hx
      have PO := Aside0.mk ok
      have HW := Aside0.mk hw
      have HWC := Aside0.mk hc
      have H91 := Aside0.mk ok.vn
      have H92 := Aside0.mk ok.vd
      have H93 := Aside0.mk ok.ln
      have H94 := Aside0.mk ok.ld
      have HL := Aside0.mk (And.intro ok.lim (And.intro hl hL2))
      have HB := Aside0.mk (Below.refl w.heap.size w)
      clear ok hw hc hl hL2
      clear hx hr hy hn hv h0 h3
      go_enter Tryz.func18, Tryz.ntmps18
      go_wp2_with (first | (go_at_call 14; (with_reducible refine (dec_true p L A cap wss L2 (PO.out.below HB.out) (HW.out.below HB.out) HWC.out HL.out.2.1 HL.out.2.2 HDV.out).mono ?_); rintro e w2 ⟨rfl, hb⟩; replace B3 := Bb B3 hb; replace HB := Ob HB hb; clear hb; (try clear cb3_9); have cb3_9 := Cl9 B3) | ((with_reducible refine gate_dst (N := 36) rfl ?_); refine wpList_load_row (by rfl) 36 (.tmp 3) (by rfl) g3 (by rfl) 36 #[.int .i64 p.len, .slice p.RA p.rs.length p.rc, .slice p.PA p.ps.length p.pc, .slice p.QA p.qs.length p.qc, .slice p.EA p.en p.ec, .int .i64 p.mn, .bool p.vs, .slice p.vA p.vk p.vc, .slice p.vB p.vl p.vd, .int .i64 p.cut, .bool p.ls, .slice p.lA p.lk p.lc, .slice p.lB p.ll p.ld, .int .i64 p.top, .bool p.ts, .slice p.tA p.tk p.tc, .slice p.tB p.tl p.td, .int .i64 p.slack] (0, 0) _ B3.out Tryz.underlying36 rfl (by kernel_rfl) ?_) | ((with_reducible refine gate_dst (N := 3) rfl ?_); refine box_event (by rfl) (N := 3) (by rfl) (cs := #[.int .i64 p.len, .slice p.RA p.rs.length p.rc, .slice p.PA p.ps.length p.pc, .slice p.QA p.qs.length p.qc, .slice p.EA p.en p.ec, .int .i64 p.mn, .bool p.vs, .slice p.vA p.vk p.vc, .slice p.vB p.vl p.vd, .int .i64 p.cut, .bool p.ls, .slice p.lA p.lk p.lc, .slice p.lB p.ll p.ld, .int .i64 p.top, .bool p.ts, .slice p.tA p.tk p.tc, .slice p.tB p.tl p.td, .int .i64 p.slack]) (t := 36) ?hr ?_; (case hr => first | (go_simp; done) | (go_simp; rfl)); intro g3 hgx w1 hbx hb; have B3 := As hbx; have G3 := Gg HB hgx; replace HB := Ob HB hb; clear hbx hb hgx))
      go_ret
      exact ⟨rfl, HB.out⟩
set_option maxHeartbeats 8000000 in
set_option maxRecDepth 100000 in
theorem law_Length.run (p : Pol) (A : Option Addr) (cap : Nat) (ws : List (List (List Int))) (L2 : Nat) (w : World) (ok : PolOK w p 1100000) (hw : WWR w A ws L2) (hl : ws.length ≤ 100000000) (hL2 : L2 ≤ 1100000) :
    Calls Tryz.prog 6 #[.agg #[.int .i64 p.len, .slice p.RA p.rs.length p.rc, .slice p.PA p.ps.length p.pc, .slice p.QA p.qs.length p.qc, .slice p.EA p.en p.ec, .int .i64 p.mn, .bool p.vs, .slice p.vA p.vk p.vc, .slice p.vB p.vl p.vd, .int .i64 p.cut, .bool p.ls, .slice p.lA p.lk p.lc, .slice p.lB p.ll p.ld, .int .i64 p.top, .bool p.ts, .slice p.tA p.tk p.tc, .slice p.tB p.tl p.td, .int .i64 p.slack], .slice A ws.length cap] w fun e w' => e = .returned (.bool true) ∧ Below w.heap.size w w' := by
  obtain ⟨⟨n, y, e⟩, hfv⟩ : ∃ v, firstV p (ws.map wn) = v := ⟨_, rfl⟩
  have HF := Aside0.mk hfv
  obtain ⟨hx, hz⟩ := first_law p _ n y e hfv
  rw [List.length_map] at hz
  clear hfv
  have PO := Aside0.mk ok
  have HW := Aside0.mk hw
  have HL := Aside0.mk (And.intro hl hL2)
  have HB := Aside0.mk (Below.refl w.heap.size w)
  clear ok hw hl hL2
  by_cases ca : e = 0
  · replace hz := hz ca
    have kca : (e == 0) = true := by rw [beq_iff_eq]; exact ca
    have kcan : (e != 0) = false := by rw [bne, kca]; rfl
    clear ca hx
    rcases hz with ⟨h1, h2, h3⟩ | ⟨h1, h2, h3, h4, h5, h6⟩
    · subst h1 h2
      have kb : decide ((ws.length : Int) < p.len) = true := decide_eq_true h3
      clear h3
      go_enter Tryz.func6, Tryz.ntmps6
      go_wp2_with (first | (go_at_call 11; (with_reducible refine (law_awake.run _).mono ?_); rintro e w3 ⟨rfl, hb⟩; replace B2 := Bb B2 hb; replace HB := Ob HB hb; clear hb) | (go_at_call 16; (with_reducible refine (law_first p A cap ws L2 (PO.out.below HB.out) (HW.out.below HB.out) HL.out.1 HL.out.2 HF.out).mono ?_); rintro e w2 ⟨rfl, hb⟩; replace B2 := Bb B2 hb; replace HB := Ob HB hb; clear hb; (try clear cb2_0); have cb2_0 := Cl0 B2) | ((with_reducible refine gate_dst (N := 9) rfl ?_); refine wpList_load_row (by rfl) 36 (.tmp 2) (by rfl) g2 (by rfl) 36 #[.int .i64 p.len, .slice p.RA p.rs.length p.rc, .slice p.PA p.ps.length p.pc, .slice p.QA p.qs.length p.qc, .slice p.EA p.en p.ec, .int .i64 p.mn, .bool p.vs, .slice p.vA p.vk p.vc, .slice p.vB p.vl p.vd, .int .i64 p.cut, .bool p.ls, .slice p.lA p.lk p.lc, .slice p.lB p.ll p.ld, .int .i64 p.top, .bool p.ts, .slice p.tA p.tk p.tc, .slice p.tB p.tl p.td, .int .i64 p.slack] (0, 0) _ B2.out Tryz.underlying36 rfl (by kernel_rfl) ?_) | ((with_reducible refine gate_dst (N := 2) rfl ?_); refine box_event (by rfl) (N := 2) (by rfl) (cs := #[.int .i64 p.len, .slice p.RA p.rs.length p.rc, .slice p.PA p.ps.length p.pc, .slice p.QA p.qs.length p.qc, .slice p.EA p.en p.ec, .int .i64 p.mn, .bool p.vs, .slice p.vA p.vk p.vc, .slice p.vB p.vl p.vd, .int .i64 p.cut, .bool p.ls, .slice p.lA p.lk p.lc, .slice p.lB p.ll p.ld, .int .i64 p.top, .bool p.ts, .slice p.tA p.tk p.tc, .slice p.tB p.tl p.td, .int .i64 p.slack]) (t := 36) ?hr ?_; (case hr => first | (go_simp; done) | (go_simp; rfl)); intro g2 hgx w1 hbx hb; have B2 := As hbx; have G2 := Gg HB hgx; replace HB := Ob HB hb; clear hbx hb hgx))
      go_ret
      exact ⟨rfl, HB.out⟩
    · have kh1 : (n == 0) = false := by rw [beq_eq_false_iff_ne]; exact h1
      have kh1n : (n != 0) = true := by rw [bne, kh1]; rfl
      have kb : decide (n < 0) = false := decide_eq_false (by omega)
      have kd : decide (p.len < n) = false := decide_eq_false (by omega)
      have kf : decide ((ws.length : Int) < n) = false := decide_eq_false (by omega)
      by_cases cb : n = p.len
      · have h7 : y = 1 := by rcases (reason_some h5 h6).2.2.2 with ⟨_, h⟩ | ⟨h, _⟩ <;> omega
        subst h7 cb
        have kb1 : (p.len == p.len) = true := by rw [beq_iff_eq]
        clear h1 h2 h3 h4 h5 h6
        go_enter Tryz.func6, Tryz.ntmps6
        go_wp2_with (first | (go_at_call 11; (with_reducible refine (law_awake.run _).mono ?_); rintro e w3 ⟨rfl, hb⟩; replace B2 := Bb B2 hb; replace HB := Ob HB hb; clear hb) | (go_at_call 16; (with_reducible refine (law_first p A cap ws L2 (PO.out.below HB.out) (HW.out.below HB.out) HL.out.1 HL.out.2 HF.out).mono ?_); rintro e w2 ⟨rfl, hb⟩; replace B2 := Bb B2 hb; replace HB := Ob HB hb; clear hb; (try clear cb2_0); have cb2_0 := Cl0 B2) | ((with_reducible refine gate_dst (N := 9) rfl ?_); refine wpList_load_row (by rfl) 36 (.tmp 2) (by rfl) g2 (by rfl) 36 #[.int .i64 p.len, .slice p.RA p.rs.length p.rc, .slice p.PA p.ps.length p.pc, .slice p.QA p.qs.length p.qc, .slice p.EA p.en p.ec, .int .i64 p.mn, .bool p.vs, .slice p.vA p.vk p.vc, .slice p.vB p.vl p.vd, .int .i64 p.cut, .bool p.ls, .slice p.lA p.lk p.lc, .slice p.lB p.ll p.ld, .int .i64 p.top, .bool p.ts, .slice p.tA p.tk p.tc, .slice p.tB p.tl p.td, .int .i64 p.slack] (0, 0) _ B2.out Tryz.underlying36 rfl (by kernel_rfl) ?_) | ((with_reducible refine gate_dst (N := 2) rfl ?_); refine box_event (by rfl) (N := 2) (by rfl) (cs := #[.int .i64 p.len, .slice p.RA p.rs.length p.rc, .slice p.PA p.ps.length p.pc, .slice p.QA p.qs.length p.qc, .slice p.EA p.en p.ec, .int .i64 p.mn, .bool p.vs, .slice p.vA p.vk p.vc, .slice p.vB p.vl p.vd, .int .i64 p.cut, .bool p.ls, .slice p.lA p.lk p.lc, .slice p.lB p.ll p.ld, .int .i64 p.top, .bool p.ts, .slice p.tA p.tk p.tc, .slice p.tB p.tl p.td, .int .i64 p.slack]) (t := 36) ?hr ?_; (case hr => first | (go_simp; done) | (go_simp; rfl)); intro g2 hgx w1 hbx hb; have B2 := As hbx; have G2 := Gg HB hgx; replace HB := Ob HB hb; clear hbx hb hgx))
        go_ret
        exact ⟨rfl, HB.out⟩
      · have h7 : p.mn ≤ n := by
          rcases (reason_some h5 h6).2.2.2 with ⟨h, _⟩ | ⟨_, h, _⟩
          · omega
          · exact h
        have kb1 : (n == p.len) = false := by rw [beq_eq_false_iff_ne]; exact cb
        have kb2 : decide (p.mn ≤ n) = true := decide_eq_true h7
        obtain ⟨i1, hi1⟩ : ∃ i1, IntKind.i64.wrap (n - 1) = i1 := ⟨_, rfl⟩
        have ei1 : i1 = n - 1 := by have := HL.out; rw [← hi1, i64_w]; unfold wrap64; omega
        have p1 : 0 ≤ i1 := by omega
        have q0 : i1 < (ws.length : Int) := by omega
        obtain ⟨ad, Bw, cw, ea, hx, hwr, hcw, hlw⟩ := HW.out.at i1 p1 q0
        subst ea
        obtain ⟨ww, hww⟩ : ∃ x, ws.getD i1.toNat [] = x := ⟨_, rfl⟩
        rw [hww] at hx hwr hcw hlw
        have HWR := Aside0.mk (And.intro hwr (And.intro hcw hlw))
        have HE := Aside0.mk hx
        have HR := Aside0.mk (show reasonV p n (wn ww) = (y, 0) ∧ y ≠ 0 ∧ n < p.len by
          refine ⟨?_, h6, by omega⟩
          rw [← h5, ← hww, ← ei1]
          congr 1
          rw [List.getD_eq_getElem?_getD, List.getD_eq_getElem?_getD, List.getElem?_map]
          cases ws[i1.toNat]? <;> rfl)
        have p2 := eq_true p1
        have q1 := eq_true q0
        clear hwr hcw hlw hww p1 q0 ei1 hx h1 h2 h3 h4 h5 h6 h7 cb
        have HW0 := HWR
        go_enter Tryz.func6, Tryz.ntmps6
        go_wp2_with (first | (go_at_call 16; (with_reducible refine (law_first p (some ad) cap ws L2 (PO.out.below HB.out) (HW.out.below HB.out) HL.out.1 HL.out.2 HF.out).mono ?_); rintro e w2 ⟨rfl, hb⟩; replace B2 := Bb B2 hb; replace HB := Ob HB hb; replace HE := Aside0.mk (cell_below HE.out hb); clear hb; (try clear cb2_0); have cb2_0 := Cl0 B2) | ((with_reducible refine gate_dst (N := 9) rfl ?_); refine wpList_load_row (by rfl) 36 (.tmp 2) (by rfl) g2 (by rfl) 36 #[.int .i64 p.len, .slice p.RA p.rs.length p.rc, .slice p.PA p.ps.length p.pc, .slice p.QA p.qs.length p.qc, .slice p.EA p.en p.ec, .int .i64 p.mn, .bool p.vs, .slice p.vA p.vk p.vc, .slice p.vB p.vl p.vd, .int .i64 p.cut, .bool p.ls, .slice p.lA p.lk p.lc, .slice p.lB p.ll p.ld, .int .i64 p.top, .bool p.ts, .slice p.tA p.tk p.tc, .slice p.tB p.tl p.td, .int .i64 p.slack] (0, 0) _ B2.out Tryz.underlying36 rfl (by kernel_rfl) ?_) | ((with_reducible refine gate_dst (N := 2) rfl ?_); refine box_event (by rfl) (N := 2) (by rfl) (cs := #[.int .i64 p.len, .slice p.RA p.rs.length p.rc, .slice p.PA p.ps.length p.pc, .slice p.QA p.qs.length p.qc, .slice p.EA p.en p.ec, .int .i64 p.mn, .bool p.vs, .slice p.vA p.vk p.vc, .slice p.vB p.vl p.vd, .int .i64 p.cut, .bool p.ls, .slice p.lA p.lk p.lc, .slice p.lB p.ll p.ld, .int .i64 p.top, .bool p.ts, .slice p.tA p.tk p.tc, .slice p.tB p.tl p.td, .int .i64 p.slack]) (t := 36) ?hr ?_; (case hr => first | (go_simp; done) | (go_simp; rfl)); intro g2 hgx w1 hbx hb; have B2 := As hbx; have G2 := Gg HB hgx; replace HB := Ob HB hb; replace HE := Aside0.mk (cell_below HE.out hb); clear hbx hb hgx))
        replace B2 := Bd B2
        replace HB := Od HB
        replace HE := Aside0.mk (show w2.drew.cell? (ad.add i1.toNat) = some (.slice Bw ww.length cw) from HE.out)
        refine start_ (n := 18) (S := fun w' => w'.heap[g2]? = some (.cells #[.int .i64 p.len, .slice p.RA p.rs.length p.rc, .slice p.PA p.ps.length p.pc, .slice p.QA p.qs.length p.qc, .slice p.EA p.en p.ec, .int .i64 p.mn, .bool p.vs, .slice p.vA p.vk p.vc, .slice p.vB p.vl p.vd, .int .i64 p.cut, .bool p.ls, .slice p.lA p.lk p.lc, .slice p.lB p.ll p.ld, .int .i64 p.top, .bool p.ts, .slice p.tA p.tk p.tc, .slice p.tB p.tl p.td, .int .i64 p.slack] 36 (0, 0)) ∧ w'.cell? (ad.add i1.toNat) = some (.slice Bw ww.length cw) ∧ w'.cell? ⟨g2, 5, none⟩ = some (.int .i64 p.mn)) (ds := [12, 15]) (Bt 18 0) (by kernel_rfl) rfl (by kernel_rfl) ⟨B2.out, HE.out, Cl5 B2⟩ (fun hHeld => ?_)
        generalize w2.drew = w3 at hHeld B2 HB HE ⊢
        refine pure_ (i := 0) (N := some 66) (v := ?_) (a' := ?_) (Bt 18 1) rfl rfl (by kernel_rfl) (fun _ _ _ h => h) (Or.inl ⟨by rfl, ?_⟩) ?_ ?_
        rotate_left
        · intro w'
          go_simp
          with_reducible rfl
        rotate_left
        · simp only [Nrm, Option.some.injEq, List.setIfInBounds_toArray, List.set_cons_zero, List.set_cons_succ, i64_w, i32_w]
          rfl
        refine pure_ (i := 1) (N := some 67) (v := ?_) (a' := ?_) (Bt 18 3) rfl rfl (by kernel_rfl) (fun _ _ _ h => h) (Or.inl ⟨by rfl, ?_⟩) ?_ ?_
        rotate_left
        · intro w'
          go_simp
          with_reducible rfl
        rotate_left
        · simp only [Nrm, Option.some.injEq, List.setIfInBounds_toArray, List.set_cons_zero, List.set_cons_succ, i64_w, i32_w]
          rfl
        refine take_ (i := 2) (N := some 68) (v := ?_) (a' := ?_) (Bt 18 7) rfl rfl (by kernel_rfl) (fun _ _ _ h => h) (Or.inl ⟨by rfl, ?_⟩) hHeld ?_ ?_
        rotate_left
        · rintro w' ⟨s0, s1, s2⟩
          go_simp
          with_reducible rfl
        rotate_left
        · simp only [Nrm, Option.some.injEq, List.setIfInBounds_toArray, List.set_cons_zero, List.set_cons_succ, i64_w, i32_w]
          rfl
        refine pure_ (i := 3) (N := some 69) (v := ?_) (a' := ?_) (Bt 18 15) rfl rfl (by kernel_rfl) (fun _ _ _ h => h) (Or.inl ⟨by rfl, ?_⟩) ?_ ?_
        rotate_left
        · intro w'
          go_simp
          with_reducible rfl
        rotate_left
        · simp only [Nrm, Option.some.injEq, List.setIfInBounds_toArray, List.set_cons_zero, List.set_cons_succ, i64_w, i32_w]
          rfl
        refine pure_ (i := 4) (N := some 70) (v := ?_) (a' := ?_) (Bt 18 31) rfl rfl (by kernel_rfl) (fun _ _ _ h => h) (Or.inl ⟨by rfl, ?_⟩) ?_ ?_
        rotate_left
        · intro w'
          go_simp
          with_reducible rfl
        rotate_left
        · simp only [Nrm, Option.some.injEq, List.setIfInBounds_toArray, List.set_cons_zero, List.set_cons_succ, i64_w, i32_w]
          rfl
        refine pure_ (i := 6) (N := some 72) (v := ?_) (a' := ?_) (Bt 18 95) rfl rfl (by kernel_rfl) (fun _ _ _ h => h) (Or.inl ⟨by rfl, ?_⟩) ?_ ?_
        rotate_left
        · intro w'
          go_simp
          with_reducible rfl
        rotate_left
        · simp only [Nrm, Option.some.injEq, List.setIfInBounds_toArray, List.set_cons_zero, List.set_cons_succ, i64_w, i32_w]
          rfl
        refine pure_ (i := 7) (N := some 73) (v := ?_) (a' := ?_) (Bt 18 223) rfl rfl (by kernel_rfl) (fun _ _ _ h => h) (Or.inl ⟨by rfl, ?_⟩) ?_ ?_
        rotate_left
        · intro w'
          go_simp
          with_reducible rfl
        rotate_left
        · simp only [Nrm, Option.some.injEq, List.setIfInBounds_toArray, List.set_cons_zero, List.set_cons_succ, i64_w, i32_w]
          rfl
        refine pure_ (i := 8) (N := some 74) (v := ?_) (a' := ?_) (Bt 18 479) rfl rfl (by kernel_rfl) (fun _ _ _ h => h) (Or.inl ⟨by rfl, ?_⟩) ?_ ?_
        rotate_left
        · intro w'
          go_simp
          with_reducible rfl
        rotate_left
        · simp only [Nrm, Option.some.injEq, List.setIfInBounds_toArray, List.set_cons_zero, List.set_cons_succ, i64_w, i32_w]
          rfl
        refine pure_ (i := 9) (N := some 75) (v := ?_) (a' := ?_) (Bt 18 991) rfl rfl (by kernel_rfl) (fun _ _ _ h => h) (Or.inl ⟨by rfl, ?_⟩) ?_ ?_
        rotate_left
        · intro w'
          go_simp
          with_reducible rfl
        rotate_left
        · simp only [Nrm, Option.some.injEq, List.setIfInBounds_toArray, List.set_cons_zero, List.set_cons_succ, i64_w, i32_w]
          rfl
        refine pure_ (i := 11) (N := some 77) (v := ?_) (a' := ?_) (Bt 18 3039) rfl rfl (by kernel_rfl) (fun _ _ _ h => h) (Or.inl ⟨by rfl, ?_⟩) ?_ ?_
        rotate_left
        · intro w'
          go_simp
          with_reducible rfl
        rotate_left
        · simp only [Nrm, Option.some.injEq, List.setIfInBounds_toArray, List.set_cons_zero, List.set_cons_succ, i64_w, i32_w]
          rfl
        refine take_ (i := 5) (N := some 71) (v := ?_) (a' := ?_) (Bt 18 3071) rfl rfl (by kernel_rfl) (fun _ _ _ h => h) (Or.inl ⟨by rfl, ?_⟩) hHeld ?_ ?_
        rotate_left
        · rintro w' ⟨s0, s1, s2⟩
          refine run_load36 (.tmp 2) ?_ g2 ?_ _ s0 ?_
          · rfl
          · first | rfl | (go_simp; done) | (go_simp; rfl)
          · kernel_rfl
        rotate_left
        · simp only [Nrm, Option.some.injEq, List.setIfInBounds_toArray, List.set_cons_zero, List.set_cons_succ, i64_w, i32_w]
          rfl
        refine take_ (i := 10) (N := some 76) (v := ?_) (a' := ?_) (Bt 18 4095) rfl rfl (by kernel_rfl) (fun _ _ _ h => h) (Or.inl ⟨by rfl, ?_⟩) hHeld ?_ ?_
        rotate_left
        · rintro w' ⟨s0, s1, s2⟩
          go_simp
          with_reducible rfl
        rotate_left
        · simp only [Nrm, Option.some.injEq, List.setIfInBounds_toArray, List.set_cons_zero, List.set_cons_succ, i64_w, i32_w]
          rfl
        refine last_ (i := 12) (N := some 78) (Bt 18 8191) rfl rfl (by kernel_rfl) (by decide) (fun K hK => ?_)
        refine goes_ Tryz.func18 (by kernel_rfl) rfl #[.agg #[.int .i64 p.len, .slice p.RA p.rs.length p.rc, .slice p.PA p.ps.length p.pc, .slice p.QA p.qs.length p.qc, .slice p.EA p.en p.ec, .int .i64 p.mn, .bool p.vs, .slice p.vA p.vk p.vc, .slice p.vB p.vl p.vd, .int .i64 p.cut, .bool p.ls, .slice p.lA p.lk p.lc, .slice p.lB p.ll p.ld, .int .i64 p.top, .bool p.ts, .slice p.tA p.tk p.tc, .slice p.tB p.tl p.td, .int .i64 p.slack], .slice Bw ww.length cw, .int .i64 y] (by rfl) rfl rfl (by (try simp only [List.map_toArray, List.map_cons, List.map_nil]); first | done | rfl) ?_
        with_reducible refine (law_early.run p 1100000 Bw cw ww L2 n y _ (PO.out.below HB.out) (HWR.out.1.below HB.out) HWR.out.2.1 HWR.out.2.2 HL.out.2 HR.out.1 HR.out.2.1 HR.out.2.2).mono ?_
        rintro e w161 ⟨rfl, hb⟩
        refine ⟨_, rfl, ?_⟩
        replace B2 := Bb B2 hb
        replace HB := Ob HB hb
        replace HE := Aside0.mk (cell_below HE.out hb)
        clear hb
        refine hK.out _ _ ?_
        clear hK K
        refine norm_ (a' := ?_) ?_ ?_
        rotate_left
        · show Act.put _ (some 78) _ = _
          simp only [Nrm, Option.some.injEq, List.setIfInBounds_toArray, List.set_cons_zero, List.set_cons_succ, i64_w, i32_w]
          rfl
        refine pure_ (i := 13) (N := some 79) (v := ?_) (a' := ?_) (Bt 18 16383) rfl rfl (by kernel_rfl) (fun _ _ _ h => h) (Or.inl ⟨by rfl, ?_⟩) ?_ ?_
        rotate_left
        · intro w'
          go_simp
          with_reducible rfl
        rotate_left
        · simp only [Nrm, Option.some.injEq, List.setIfInBounds_toArray, List.set_cons_zero, List.set_cons_succ, i64_w, i32_w]
          rfl
        refine pure_ (i := 14) (N := some 80) (v := ?_) (a' := ?_) (Bt 18 32767) rfl rfl (by kernel_rfl) (fun _ _ _ h => h) (Or.inl ⟨by rfl, ?_⟩) ?_ ?_
        rotate_left
        · intro w'
          go_simp
          with_reducible rfl
        rotate_left
        · simp only [Nrm, Option.some.injEq, List.setIfInBounds_toArray, List.set_cons_zero, List.set_cons_succ, i64_w, i32_w]
          rfl
        refine last_ (i := 15) (N := some 81) (Bt 18 65535) rfl rfl (by kernel_rfl) (by decide) (fun K hK => ?_)
        refine goes_ Tryz.func11 (by kernel_rfl) rfl #[] (by rfl) rfl rfl (by (try simp only [List.map_toArray, List.map_cons, List.map_nil]); first | done | rfl) ?_
        with_reducible refine (law_awake.run _).mono ?_
        rintro e w176 ⟨rfl, hb⟩
        refine ⟨_, rfl, ?_⟩
        replace B2 := Bb B2 hb
        replace HB := Ob HB hb
        replace HE := Aside0.mk (cell_below HE.out hb)
        clear hb
        refine hK.out _ _ ?_
        clear hK K
        refine norm_ (a' := ?_) ?_ ?_
        rotate_left
        · show Act.put _ (some 81) _ = _
          simp only [Nrm, Option.some.injEq, List.setIfInBounds_toArray, List.set_cons_zero, List.set_cons_succ, i64_w, i32_w]
          rfl
        refine pure_ (i := 16) (N := some 82) (v := ?_) (a' := ?_) (Bt 18 131071) rfl rfl (by kernel_rfl) (fun _ _ _ h => h) (Or.inl ⟨by rfl, ?_⟩) ?_ ?_
        rotate_left
        · intro w'
          go_simp
          with_reducible rfl
        rotate_left
        · simp only [Nrm, Option.some.injEq, List.setIfInBounds_toArray, List.set_cons_zero, List.set_cons_succ, i64_w, i32_w]
          rfl
        refine pure_ (i := 17) (N := some 4) (v := ?_) (a' := ?_) (Bt 18 262143) rfl rfl (by kernel_rfl) (fun _ _ _ h => h) (Or.inl ⟨by rfl, ?_⟩) ?_ ?_
        rotate_left
        · intro w'
          go_simp
          with_reducible rfl
        rotate_left
        · simp only [Nrm, Option.some.injEq, List.setIfInBounds_toArray, List.set_cons_zero, List.set_cons_succ, i64_w, i32_w]
          rfl
        refine done_ (by kernel_rfl) ?_
        go_wp2
        go_ret
        exact ⟨rfl, HB.out⟩
  · obtain ⟨h1, h2⟩ := hx ca
    subst h1 h2
    clear hz
    have kca : (e == 0) = false := by rw [beq_eq_false_iff_ne]; exact ca
    have kcan : (e != 0) = true := by rw [bne, kca]; rfl
    clear ca
    go_enter Tryz.func6, Tryz.ntmps6
    go_wp2_with (first | (go_at_call 11; (with_reducible refine (law_awake.run _).mono ?_); rintro e w3 ⟨rfl, hb⟩; replace B2 := Bb B2 hb; replace HB := Ob HB hb; clear hb) | (go_at_call 16; (with_reducible refine (law_first p A cap ws L2 (PO.out.below HB.out) (HW.out.below HB.out) HL.out.1 HL.out.2 HF.out).mono ?_); rintro e w2 ⟨rfl, hb⟩; replace B2 := Bb B2 hb; replace HB := Ob HB hb; clear hb) | ((with_reducible refine gate_dst (N := 9) rfl ?_); refine wpList_load_row (by rfl) 36 (.tmp 2) (by rfl) g2 (by rfl) 36 #[.int .i64 p.len, .slice p.RA p.rs.length p.rc, .slice p.PA p.ps.length p.pc, .slice p.QA p.qs.length p.qc, .slice p.EA p.en p.ec, .int .i64 p.mn, .bool p.vs, .slice p.vA p.vk p.vc, .slice p.vB p.vl p.vd, .int .i64 p.cut, .bool p.ls, .slice p.lA p.lk p.lc, .slice p.lB p.ll p.ld, .int .i64 p.top, .bool p.ts, .slice p.tA p.tk p.tc, .slice p.tB p.tl p.td, .int .i64 p.slack] (0, 0) _ B2.out Tryz.underlying36 rfl (by kernel_rfl) ?_) | ((with_reducible refine gate_dst (N := 2) rfl ?_); refine box_event (by rfl) (N := 2) (by rfl) (cs := #[.int .i64 p.len, .slice p.RA p.rs.length p.rc, .slice p.PA p.ps.length p.pc, .slice p.QA p.qs.length p.qc, .slice p.EA p.en p.ec, .int .i64 p.mn, .bool p.vs, .slice p.vA p.vk p.vc, .slice p.vB p.vl p.vd, .int .i64 p.cut, .bool p.ls, .slice p.lA p.lk p.lc, .slice p.lB p.ll p.ld, .int .i64 p.top, .bool p.ts, .slice p.tA p.tk p.tc, .slice p.tB p.tl p.td, .int .i64 p.slack]) (t := 36) ?hr ?_; (case hr => first | (go_simp; done) | (go_simp; rfl)); intro g2 hgx w1 hbx hb; have B2 := As hbx; have G2 := Gg HB hgx; replace HB := Ob HB hb; clear hbx hb hgx))
    go_ret
    exact ⟨rfl, HB.out⟩
end Go.Proofs.YtnmfmiemkcaocaaGreat.Hand
namespace Go.Proofs.YtnmfmiemkcaocaaGreat.Hand
open Go.RowKit Go.Proofs.YtnmfmiemkcaocaaGreatW.PrintWords Go.Proofs.YtnmfmiemkcaocaaGreatW.PrintLast Go.Proofs.YtnmfmiemkcaocaaGreatW.PrintMore
set_option linter.unusedVariables false
set_option linter.unusedSimpArgs false
structure Less (p q : Pol) : Prop where
  len : p.len = q.len
  mn : p.mn = q.mn
  ps : p.ps = q.ps
  qs : p.qs = q.qs
  cut : p.cut = q.cut
  ls : p.ls = q.ls
  lx : p.lx = q.lx
  ly : p.ly = q.ly
  var : pn p.vs p.vx p.vy * (pd q.vy : Int) ≤ pn q.vs q.vx q.vy * (pd p.vy : Int)
theorem Less.exact {p q : Pol} (h : Less p q) {ns : List Nat} (hx : exactP p ns) : exactP q ns := by
  obtain ⟨h1, h2⟩ := hx
  have hv := h.var
  have hp : (0 : Int) < (pd p.vy : Int) := by have := pd_pos p.vy; omega
  have hq : (0 : Int) < (pd q.vy : Int) := by have := pd_pos q.vy; omega
  rw [h.ps] at h2
  generalize pn p.vs p.vx p.vy = a at *
  generalize hb : pn q.vs q.vx q.vy = b at *
  generalize (pd p.vy : Int) = c at *
  generalize hd : (pd q.vy : Int) = d at *
  generalize hV : varN q.ps ns = V at *
  have hD : 0 ≤ varD ns := Int.mul_nonneg (by omega) (by omega)
  generalize hDD : varD ns = D at *
  refine ⟨?_, ?_⟩
  · rw [hb]
    have : 0 < b * c := Int.lt_of_lt_of_le (Int.mul_pos h1 hq) hv
    exact Int.pos_of_mul_pos_left this hp
  · rw [hb, hd, hV, hDD]
    have e1 : V * d * c ≤ b * D * c := by
      have x1 : V * c * d ≤ a * D * d := Int.mul_le_mul_of_nonneg_right h2 (Int.le_of_lt hq)
      have x2 : a * d * D ≤ b * c * D := Int.mul_le_mul_of_nonneg_right hv hD
      have y1 : V * d * c = V * c * d := by grind
      have y2 : a * D * d = a * d * D := by grind
      have y3 : b * c * D = b * D * c := by grind
      rw [y1, ← y3]
      exact Int.le_trans x1 (by rw [y2]; exact x2)
    exact Int.le_of_mul_le_mul_right e1 hp
theorem Less.dec {p q : Pol} (h : Less p q) (vp : validV p = 0) (vq : validV q = 0) (ns : List Nat) : decV p ns = decV q ns := by
  unfold decV
  rw [vp, vq, h.cut, h.ls, h.lx, h.ly]
theorem Less.reason {p q : Pol} (h : Less p q) (vp : validV p = 0) (vq : validV q = 0) {n : Int} {ns : List Nat} (hq : (reasonV q n ns).2 = 0) (hp : (reasonV p n ns).2 = 0) (hr : (reasonV p n ns).1 ≠ 0) : (reasonV q n ns).1 ≠ 0 := by
  obtain ⟨_, h0, hc, hx⟩ := reason_some (p := p) (n := n) (ns := ns) (why := (reasonV p n ns).1) (Prod.ext rfl hp) hr
  unfold reasonV at hq ⊢
  rw [if_neg (by rw [vq]; decide), if_neg (by omega), ← h.ps, ← h.qs, if_neg (by rw [hc]; decide), ← h.len, ← h.mn, ← h.dec vp vq] at hq ⊢
  rcases hx with ⟨h1, _⟩ | ⟨h1, h2, hx⟩
  · rw [if_pos h1]; decide
  · rw [if_neg (by omega), if_neg (by omega)]
    by_cases e : exactP q ns
    · rw [if_pos e]; decide
    · rw [if_neg e]
      rcases hx with ⟨_, hx⟩ | ⟨_, hx⟩
      · exact absurd (h.exact hx) e
      · rw [hx]; decide
theorem Less.list {p q : Pol} (h : Less p q) (vp : validV p = 0) (vq : validV q = 0) : ∀ (l : List (List Nat)) (i : Int), 0 ≤ i → (firstL p i l).2.2 = 0 → (firstL q i l).2.2 = 0 → (firstL p i l).1 = 0 ∨ (0 < (firstL q i l).1 ∧ (firstL q i l).1 ≤ (firstL p i l).1)
  | [], i, _, _, _ => .inl rfl
  | ns :: l, i, hi, hp, hq => by
    by_cases cp : (reasonV p (i + 1) ns).2 ≠ 0
    · rw [firstL, if_pos cp] at hp; exact absurd hp cp
    by_cases cq : (reasonV q (i + 1) ns).2 ≠ 0
    · rw [firstL, if_pos cq] at hq; exact absurd hq cq
    by_cases rq : (reasonV q (i + 1) ns).1 ≠ 0
    · have e : firstL q i (ns :: l) = (i + 1, (reasonV q (i + 1) ns).1, 0) := by rw [firstL, if_neg cq, if_pos rq]
      rw [e]
      by_cases rp : (reasonV p (i + 1) ns).1 ≠ 0
      · have e : firstL p i (ns :: l) = (i + 1, (reasonV p (i + 1) ns).1, 0) := by rw [firstL, if_neg cp, if_pos rp]
        rw [e]
        exact .inr ⟨by show 0 < i + 1; omega, Int.le_refl _⟩
      · have e : firstL p i (ns :: l) = firstL p (i + 1) l := by rw [firstL, if_neg cp, if_neg rp]
        rw [e] at hp ⊢
        by_cases z : (firstL p (i + 1) l).1 = 0
        · exact .inl z
        · refine .inr ⟨by show 0 < i + 1; omega, ?_⟩
          show i + 1 ≤ _
          have := first_gt p l (i + 1) hp z
          omega
    · by_cases rp : (reasonV p (i + 1) ns).1 ≠ 0
      · exact absurd (h.reason vp vq (by simpa using cq) (by simpa using cp) rp) rq
      · have e : firstL p i (ns :: l) = firstL p (i + 1) l := by rw [firstL, if_neg cp, if_neg rp]
        have e' : firstL q i (ns :: l) = firstL q (i + 1) l := by rw [firstL, if_neg cq, if_neg rq]
        rw [e] at hp ⊢
        rw [e'] at hq ⊢
        exact h.list vp vq l (i + 1) (by omega) hp hq
where first_gt (p : Pol) : ∀ (l : List (List Nat)) (i : Int), (firstL p i l).2.2 = 0 → (firstL p i l).1 ≠ 0 → i < (firstL p i l).1
  | [], _, _, h => absurd rfl h
  | ns :: l, i, h, hz => by
    by_cases cp : (reasonV p (i + 1) ns).2 ≠ 0
    · rw [firstL, if_pos cp] at h; exact absurd h cp
    by_cases rp : (reasonV p (i + 1) ns).1 ≠ 0
    · rw [firstL, if_neg cp, if_pos rp]; show i < i + 1; omega
    · have e : firstL p i (ns :: l) = firstL p (i + 1) l := by rw [firstL, if_neg cp, if_neg rp]
      rw [e] at h hz ⊢
      have := first_gt p l (i + 1) h hz
      omega
theorem Less.first {p q : Pol} (h : Less p q) (l : List (List Nat)) {n y m z : Int} (hp : firstV p l = (n, y, 0)) (hq : firstV q l = (m, z, 0)) : n = 0 ∨ (0 < m ∧ m ≤ n) := by
  unfold firstV at hp hq
  by_cases a : validV p ≠ 0
  · rw [if_pos a] at hp; injection hp with h1 h2; injection h2 with h2 h3; exact absurd h3 a
  by_cases b : validV q ≠ 0
  · rw [if_pos b] at hq; injection hq with h1 h2; injection h2 with h2 h3; exact absurd h3 b
  rw [if_neg a] at hp
  rw [if_neg b] at hq
  by_cases c : 18 < l.length
  · rw [if_pos c] at hp; injection hp with h1 h2; injection h2 with h2 h3; exact absurd h3 (by decide)
  rw [if_neg c] at hp hq
  have := h.list (by simpa using a) (by simpa using b) l 0 (Int.le_refl _) (by rw [hp]) (by rw [hq])
  rw [hp, hq] at this
  exact this
def withP (p : Pol) (s : Bool) (D : Option Addr) (k c : Nat) (E : Option Addr) (l d a b : Nat) : Pol := { p with vs := s, vA := D, vk := k, vc := c, vB := E, vl := l, vd := d, vx := a, vy := b }
theorem with_ok {w : World} {p : Pol} {s : Bool} {D E : Option Addr} {k c l d a b : Nat} (ok : PolOK w p 1100000) (h1 : NA w (.slice D k c) a 1100000) (h2 : NA w (.slice E l d) b 1100000) : PolOK w (withP p s D k c E l d a b) 1100000 :=
  ⟨ok.rs, ok.rsz, ok.ps, ok.psc, ok.psl, ok.qs, h1, h2, ok.ln, ok.ld, ok.tn, ok.td, ok.lim⟩
theorem with_first {w : World} {p : Pol} {s : Bool} {D E : Option Addr} {k c l d a b : Nat} (A : Option Addr) (cap : Nat) (ws : List (List (List Int))) (L2 : Nat) (ok : PolOK w p 1100000) (h1 : NA w (.slice D k c) a 1100000) (h2 : NA w (.slice E l d) b 1100000) (hw : WWR w A ws L2) (hl : ws.length ≤ 100000000) (hL2 : L2 ≤ 1100000) {n y e : Int} (hr : firstV (withP p s D k c E l d a b) (ws.map wn) = (n, y, e)) :
    Calls Tryz.prog 16 #[.agg #[.int .i64 p.len, .slice p.RA p.rs.length p.rc, .slice p.PA p.ps.length p.pc, .slice p.QA p.qs.length p.qc, .slice p.EA p.en p.ec, .int .i64 p.mn, .bool s, .slice D k c, .slice E l d, .int .i64 p.cut, .bool p.ls, .slice p.lA p.lk p.lc, .slice p.lB p.ll p.ld, .int .i64 p.top, .bool p.ts, .slice p.tA p.tk p.tc, .slice p.tB p.tl p.td, .int .i64 p.slack], .slice A ws.length cap] w fun x w' => x = .returned (.tuple #[.int .i64 n, .int .i64 y, .int .i64 e]) ∧ Below w.heap.size w w' :=
  law_first (withP p s D k c E l d a b) A cap ws L2 (with_ok ok h1 h2) hw hl hL2 hr
set_option maxHeartbeats 8000000 in
set_option maxRecDepth 100000 in
theorem law_Precision.run (p : Pol) (s : Bool) (D E : Option Addr) (k c l d a b : Nat) (A : Option Addr) (cap : Nat) (ws : List (List (List Int))) (L2 : Nat) (w : World) (ok : PolOK w p 1100000) (h91 : NA w (.slice D k c) a 1100000) (h92 : NA w (.slice E l d) b 1100000) (hw : WWR w A ws L2) (hl : ws.length ≤ 100000000) (hL2 : L2 ≤ 1100000) :
    Calls Tryz.prog 8 #[.agg #[.int .i64 p.len, .slice p.RA p.rs.length p.rc, .slice p.PA p.ps.length p.pc, .slice p.QA p.qs.length p.qc, .slice p.EA p.en p.ec, .int .i64 p.mn, .bool p.vs, .slice p.vA p.vk p.vc, .slice p.vB p.vl p.vd, .int .i64 p.cut, .bool p.ls, .slice p.lA p.lk p.lc, .slice p.lB p.ll p.ld, .int .i64 p.top, .bool p.ts, .slice p.tA p.tk p.tc, .slice p.tB p.tl p.td, .int .i64 p.slack], .agg #[.bool s, .slice D k c, .slice E l d], .slice A ws.length cap] w fun e w' => e = .returned (.bool true) ∧ Below w.heap.size w w' := by
  obtain ⟨⟨n, y, e⟩, hfp⟩ : ∃ v, firstV p (ws.map wn) = v := ⟨_, rfl⟩
  obtain ⟨⟨m, z, f⟩, hfq⟩ : ∃ v, firstV (withP p s D k c E l d a b) (ws.map wn) = v := ⟨_, rfl⟩
  have HFP := Aside0.mk hfp
  have HFQ := Aside0.mk hfq
  have H91 := Aside0.mk h91
  have H92 := Aside0.mk h92
  have H93 := Aside0.mk ok.vn
  have H94 := Aside0.mk ok.vd
  have PO := Aside0.mk ok
  have HW := Aside0.mk hw
  have HL := Aside0.mk (And.intro hl hL2)
  have HB := Aside0.mk (Below.refl w.heap.size w)
  clear ok hw hl hL2
  clear h91 h92
  by_cases cs : pn s a b * (pd p.vy : Int) < pn p.vs p.vx p.vy * (pd b : Int)
  · have hx : e = 0 → f = 0 → m = 0 ∨ (0 < n ∧ n ≤ m) := by
      rintro rfl rfl
      exact Less.first (p := withP p s D k c E l d a b) (q := p) ⟨rfl, rfl, rfl, rfl, rfl, rfl, rfl, rfl, Int.le_of_lt cs⟩ _ hfq hfp
    have kcs : decide (0 < cmpZ (pn p.vs p.vx p.vy * (pd b : Int)) (pn s a b * (pd p.vy : Int))) = true := decide_eq_true (cmpZ_pos.2 cs)
    clear cs hfp hfq
    by_cases c1 : f = 0
    focus
      have kc1 : (f == 0) = true := by rw [beq_iff_eq]; exact c1
      have kc1n : (f != 0) = false := by rw [bne, kc1]; rfl
      by_cases c2 : e = 0
      focus
        have kc2 : (e == 0) = true := by rw [beq_iff_eq]; exact c2
        have kc2n : (e != 0) = false := by rw [bne, kc2]; rfl
        replace hx := hx c2 c1
        clear c1 c2
        by_cases c3 : cmpZ (pn s a b) 0 = 0
        focus
          have k3 : (cmpZ (pn s a b) 0 == 0) = true := (by rw [beq_iff_eq]; exact c3)
          clear c3
          by_cases c4 : m = 0
          focus
            have kc4 : (m == 0) = true := by rw [beq_iff_eq]; exact c4
            have kc4n : (m != 0) = false := by rw [bne, kc4]; rfl
            clear hx c4
          rotate_right
          focus
            have kc4 : (m == 0) = false := by rw [beq_eq_false_iff_ne]; exact c4
            have kc4n : (m != 0) = true := by rw [bne, kc4]; rfl
            obtain ⟨h5, h6⟩ := hx.resolve_left c4
            have k5 : decide (0 < n) = true := decide_eq_true h5
            have k6 : decide (n ≤ m) = true := decide_eq_true h6
            clear hx h5 h6 c4
        rotate_right
        focus
          have k3 : (cmpZ (pn s a b) 0 == 0) = false := (by rw [beq_eq_false_iff_ne]; exact c3)
          clear c3
          by_cases c4 : m = 0
          focus
            have kc4 : (m == 0) = true := by rw [beq_iff_eq]; exact c4
            have kc4n : (m != 0) = false := by rw [bne, kc4]; rfl
            clear hx c4
          rotate_right
          focus
            have kc4 : (m == 0) = false := by rw [beq_eq_false_iff_ne]; exact c4
            have kc4n : (m != 0) = true := by rw [bne, kc4]; rfl
            obtain ⟨h5, h6⟩ := hx.resolve_left c4
            have k5 : decide (0 < n) = true := decide_eq_true h5
            have k6 : decide (n ≤ m) = true := decide_eq_true h6
            clear hx h5 h6 c4
      rotate_right
      focus
        have kc2 : (e == 0) = false := by rw [beq_eq_false_iff_ne]; exact c2
        have kc2n : (e != 0) = true := by rw [bne, kc2]; rfl
        clear hx c1 c2
    rotate_right
    focus
      have kc1 : (f == 0) = false := by rw [beq_eq_false_iff_ne]; exact c1
      have kc1n : (f != 0) = true := by rw [bne, kc1]; rfl
      clear hx c1
    all_goals
      go_enter Tryz.func8, Tryz.ntmps8
      go_wp2_with (first | (go_at_call 11; (with_reducible refine (law_awake.run _).mono ?_); rintro e w12 ⟨rfl, hb⟩; replace B3 := Bb B3 hb; replace B4 := Bb B4 hb; replace B7 := Bb B7 hb; replace HB := Ob HB hb; clear hb) | (go_at_call 20; (with_reducible refine (ratio_Sign.run s _ _ _ _ _ _ a b 1100000 1100000 _ (H91.1.be HB.1) (H92.1.be HB.1) (by have := HL.out; omega)).mono ?_); rintro e w11 ⟨rfl, hb⟩; replace B3 := Bb B3 hb; replace B4 := Bb B4 hb; replace B7 := Bb B7 hb; replace HB := Ob HB hb; clear hb) | (go_at_call 16; (with_reducible refine (law_first p A cap ws L2 (PO.out.below HB.out) (HW.out.below HB.out) HL.out.1 HL.out.2 HFP.out).mono ?_); rintro e w10 ⟨rfl, hb⟩; replace B3 := Bb B3 hb; replace B4 := Bb B4 hb; replace B7 := Bb B7 hb; replace HB := Ob HB hb; clear hb; (try clear cb3_6); have cb3_6 := Cl6 B3; (try clear cb3_7); have cb3_7 := Cl7 B3; (try clear cb3_8); have cb3_8 := Cl8 B3) | ((with_reducible refine gate_dst (N := 32) rfl ?_); refine wpList_load_row (by rfl) 36 (.tmp 7) (by rfl) g7 (by rfl) 36 #[.int .i64 p.len, .slice p.RA p.rs.length p.rc, .slice p.PA p.ps.length p.pc, .slice p.QA p.qs.length p.qc, .slice p.EA p.en p.ec, .int .i64 p.mn, .bool p.vs, .slice p.vA p.vk p.vc, .slice p.vB p.vl p.vd, .int .i64 p.cut, .bool p.ls, .slice p.lA p.lk p.lc, .slice p.lB p.ll p.ld, .int .i64 p.top, .bool p.ts, .slice p.tA p.tk p.tc, .slice p.tB p.tl p.td, .int .i64 p.slack] (0, 0) _ B7.out Tryz.underlying36 rfl (by kernel_rfl) ?_) | (go_at_call 16; (with_reducible refine (with_first A cap ws L2 (PO.out.below HB.out) (H91.1.be HB.1) (H92.1.be HB.1) (HW.out.below HB.out) HL.out.1 HL.out.2 HFQ.out).mono ?_); rintro e w9 ⟨rfl, hb⟩; replace B3 := Bb B3 hb; replace B4 := Bb B4 hb; replace B7 := Bb B7 hb; replace HB := Ob HB hb; clear hb) | ((with_reducible refine gate_dst (N := 25) rfl ?_); refine wpList_load_row (by rfl) 36 (.tmp 3) (by rfl) g3 (by rfl) 36 #[.int .i64 p.len, .slice p.RA p.rs.length p.rc, .slice p.PA p.ps.length p.pc, .slice p.QA p.qs.length p.qc, .slice p.EA p.en p.ec, .int .i64 p.mn, .bool s, .slice D k c, .slice E l d, .int .i64 p.cut, .bool p.ls, .slice p.lA p.lk p.lc, .slice p.lB p.ll p.ld, .int .i64 p.top, .bool p.ts, .slice p.tA p.tk p.tc, .slice p.tB p.tl p.td, .int .i64 p.slack] (0, 0) _ B3.out Tryz.underlying36 rfl (by kernel_rfl) ?_) | ((with_reducible refine gate_store (t := 36) (p := 7) rfl ?_); refine Sto (t := 36) (p := 7) (by rfl) (.tmp 23) (by rfl) (by rfl) g7 #[.int .i64 p.len, .slice p.RA p.rs.length p.rc, .slice p.PA p.ps.length p.pc, .slice p.QA p.qs.length p.qc, .slice p.EA p.en p.ec, .int .i64 p.mn, .bool p.vs, .slice p.vA p.vk p.vc, .slice p.vB p.vl p.vd, .int .i64 p.cut, .bool p.ls, .slice p.lA p.lk p.lc, .slice p.lB p.ll p.ld, .int .i64 p.top, .bool p.ts, .slice p.tA p.tk p.tc, .slice p.tB p.tl p.td, .int .i64 p.slack] (by rfl) (by first | rfl | (go_simp; done) | (go_simp; rfl)) B7 (by kernel_rfl) rfl (by kernel_rfl) ?_; intro w8 ho hB2; replace B3 := Oo B3 ho NE3_7; replace B4 := Oo B4 ho NE4_7; replace HB := Lo HB ho G7; replace B7 := hB2; clear ho hB2) | ((with_reducible refine gate_store (t := 36) (p := 3) rfl ?_); refine Sto (t := 36) (p := 3) (by rfl) (.tmp 22) (by rfl) (by rfl) g3 #[.int .i64 p.len, .slice p.RA p.rs.length p.rc, .slice p.PA p.ps.length p.pc, .slice p.QA p.qs.length p.qc, .slice p.EA p.en p.ec, .int .i64 p.mn, .bool s, .slice D k c, .slice E l d, .int .i64 p.cut, .bool p.ls, .slice p.lA p.lk p.lc, .slice p.lB p.ll p.ld, .int .i64 p.top, .bool p.ts, .slice p.tA p.tk p.tc, .slice p.tB p.tl p.td, .int .i64 p.slack] (by rfl) (by first | rfl | (go_simp; done) | (go_simp; rfl)) B3 (by kernel_rfl) rfl (by kernel_rfl) ?_; intro w7 ho hB2; replace B4 := Ou B4 ho NE3_4; replace B7 := Ou B7 ho NE3_7; replace HB := Lo HB ho G3; replace B3 := hB2; clear ho hB2) | ((with_reducible refine gate_dst (N := 23) rfl ?_); refine wpList_load_row (by rfl) 36 (.tmp 3) (by rfl) g3 (by rfl) 36 #[.int .i64 p.len, .slice p.RA p.rs.length p.rc, .slice p.PA p.ps.length p.pc, .slice p.QA p.qs.length p.qc, .slice p.EA p.en p.ec, .int .i64 p.mn, .bool p.vs, .slice p.vA p.vk p.vc, .slice p.vB p.vl p.vd, .int .i64 p.cut, .bool p.ls, .slice p.lA p.lk p.lc, .slice p.lB p.ll p.ld, .int .i64 p.top, .bool p.ts, .slice p.tA p.tk p.tc, .slice p.tB p.tl p.td, .int .i64 p.slack] (0, 0) _ B3.out Tryz.underlying36 rfl (by kernel_rfl) ?_) | ((with_reducible refine gate_dst (N := 22) rfl ?_); refine wpList_load_row (by rfl) 36 (.tmp 7) (by rfl) g7 (by rfl) 36 #[.int .i64 p.len, .slice p.RA p.rs.length p.rc, .slice p.PA p.ps.length p.pc, .slice p.QA p.qs.length p.qc, .slice p.EA p.en p.ec, .int .i64 p.mn, .bool s, .slice D k c, .slice E l d, .int .i64 p.cut, .bool p.ls, .slice p.lA p.lk p.lc, .slice p.lB p.ll p.ld, .int .i64 p.top, .bool p.ts, .slice p.tA p.tk p.tc, .slice p.tB p.tl p.td, .int .i64 p.slack] (0, 0) _ B7.out Tryz.underlying36 rfl (by kernel_rfl) ?_) | (go_at_call 19; (with_reducible refine (ratio_Cmp.run p.vs s _ _ _ _ _ _ _ _ _ _ _ _ p.vx p.vy a b 1100000 1100000 1100000 1100000 _ (H93.1.be HB.1) (H94.1.be HB.1) (H91.1.be HB.1) (H92.1.be HB.1) (by have := HL.out; omega)).mono ?_); rintro e w6 ⟨rfl, hb⟩; replace B3 := Bb B3 hb; replace B4 := Bb B4 hb; replace B7 := Bb B7 hb; replace HB := Ob HB hb; clear hb) | ((with_reducible refine gate_store (t := 34) (p := 16) rfl ?_); refine store_event (t := 34) (p := 16) (v := ?vo1) (w1 := (((w4.setCell ⟨g7, 6, none⟩ (.bool s)).setCell ⟨g7, 7, none⟩ (.slice D k c)).setCell ⟨g7, 8, none⟩ (.slice E l d))) ?hg ?ho ?hn ?hr ?_; (case ho => rfl); (case hg => rfl); (case hn => rfl); (case hr => first | (go_simp; done) | (go_simp; rfl)); intro w5 hw; have ho : Only w4 w5 g7 := (by rw [hw]; exact Only.setg (Only.setg (Only.setg (Only.refl _ _) 6 _) 7 _) 8 _); have hB2 : w5.heap[g7]? = some (.cells #[.int .i64 p.len, .slice p.RA p.rs.length p.rc, .slice p.PA p.ps.length p.pc, .slice p.QA p.qs.length p.qc, .slice p.EA p.en p.ec, .int .i64 p.mn, .bool s, .slice D k c, .slice E l d, .int .i64 p.cut, .bool p.ls, .slice p.lA p.lk p.lc, .slice p.lB p.ll p.ld, .int .i64 p.top, .bool p.ts, .slice p.tA p.tk p.tc, .slice p.tB p.tl p.td, .int .i64 p.slack] 36 (0, 0)) := (by rw [hw]; exact (blk_put (blk_put (blk_put B7.out 6 _ rfl) 7 _ rfl) 8 _ rfl)); replace B3 := Oo B3 ho NE3_7; replace B4 := Oo B4 ho NE4_7; replace HB := Lo HB ho G7; replace B7 := As hB2; clear hw ho hB2; (try clear cb3_6); have cb3_6 := Cl6 B3; (try clear cb3_7); have cb3_7 := Cl7 B3; (try clear cb3_8); have cb3_8 := Cl8 B3; (try clear cb4_0); have cb4_0 := Cl0 B4; (try clear cb4_1); have cb4_1 := Cl1 B4; (try clear cb4_2); have cb4_2 := Cl2 B4) | ((with_reducible refine gate_store (t := 36) (p := 7) rfl ?_); refine Sto (t := 36) (p := 7) (by rfl) (.tmp 14) (by rfl) (by rfl) g7 #[.int .i64 p.len, .slice p.RA p.rs.length p.rc, .slice p.PA p.ps.length p.pc, .slice p.QA p.qs.length p.qc, .slice p.EA p.en p.ec, .int .i64 p.mn, .bool p.vs, .slice p.vA p.vk p.vc, .slice p.vB p.vl p.vd, .int .i64 p.cut, .bool p.ls, .slice p.lA p.lk p.lc, .slice p.lB p.ll p.ld, .int .i64 p.top, .bool p.ts, .slice p.tA p.tk p.tc, .slice p.tB p.tl p.td, .int .i64 p.slack] (by rfl) (by first | rfl | (go_simp; done) | (go_simp; rfl)) B7 (by kernel_rfl) rfl (by kernel_rfl) ?_; intro w4 ho hB2; replace B3 := Oo B3 ho NE3_7; replace B4 := Oo B4 ho NE4_7; replace HB := Lo HB ho G7; replace B7 := hB2; clear ho hB2; (try clear cb4_0); have cb4_0 := Cl0 B4; (try clear cb4_1); have cb4_1 := Cl1 B4; (try clear cb4_2); have cb4_2 := Cl2 B4; (try clear cb7_6); have cb7_6 := Cl6 B7; (try clear fb7_6); have fb7_6 := Fz B7 6; (try clear cb7_7); have cb7_7 := Cl7 B7; (try clear fb7_7); have fb7_7 := Fz B7 7; (try clear cb7_8); have cb7_8 := Cl8 B7; (try clear fb7_8); have fb7_8 := Fz B7 8) | ((with_reducible refine gate_dst (N := 7) rfl ?_); refine box_event (by rfl) (N := 7) (by rfl) (cs := #[.int .i64 0, .slice none 0 0, .slice none 0 0, .slice none 0 0, .slice none 0 0, .int .i64 0, .bool false, .slice none 0 0, .slice none 0 0, .int .i64 0, .bool false, .slice none 0 0, .slice none 0 0, .int .i64 0, .bool false, .slice none 0 0, .slice none 0 0, .int .i64 0]) (t := 36) ?hr ?_; (case hr => first | (go_simp; done) | (go_simp; rfl)); intro g7 hgx w3 hbx hb; have B7 := As hbx; have NE3_7 := Nn B3 hgx; have NE4_7 := Nn B4 hgx; have G7 := Gg HB hgx; replace B3 := Bb B3 hb; replace B4 := Bb B4 hb; replace HB := Ob HB hb; clear hbx hb hgx) | ((with_reducible refine gate_dst (N := 14) rfl ?_); refine wpList_load_row (by rfl) 36 (.tmp 3) (by rfl) g3 (by rfl) 36 #[.int .i64 p.len, .slice p.RA p.rs.length p.rc, .slice p.PA p.ps.length p.pc, .slice p.QA p.qs.length p.qc, .slice p.EA p.en p.ec, .int .i64 p.mn, .bool p.vs, .slice p.vA p.vk p.vc, .slice p.vB p.vl p.vd, .int .i64 p.cut, .bool p.ls, .slice p.lA p.lk p.lc, .slice p.lB p.ll p.ld, .int .i64 p.top, .bool p.ts, .slice p.tA p.tk p.tc, .slice p.tB p.tl p.td, .int .i64 p.slack] (0, 0) _ B3.out Tryz.underlying36 rfl (by kernel_rfl) ?_) | ((with_reducible refine gate_dst (N := 4) rfl ?_); refine box_event (by rfl) (N := 4) (by rfl) (cs := #[.bool s, .slice D k c, .slice E l d]) (t := 34) ?hr ?_; (case hr => first | (go_simp; done) | (go_simp; rfl)); intro g4 hgx w2 hbx hb; have B4 := As hbx; have NE3_4 := Nn B3 hgx; have G4 := Gg HB hgx; replace B3 := Bb B3 hb; replace HB := Ob HB hb; clear hbx hb hgx) | ((with_reducible refine gate_dst (N := 3) rfl ?_); refine box_event (by rfl) (N := 3) (by rfl) (cs := #[.int .i64 p.len, .slice p.RA p.rs.length p.rc, .slice p.PA p.ps.length p.pc, .slice p.QA p.qs.length p.qc, .slice p.EA p.en p.ec, .int .i64 p.mn, .bool p.vs, .slice p.vA p.vk p.vc, .slice p.vB p.vl p.vd, .int .i64 p.cut, .bool p.ls, .slice p.lA p.lk p.lc, .slice p.lB p.ll p.ld, .int .i64 p.top, .bool p.ts, .slice p.tA p.tk p.tc, .slice p.tB p.tl p.td, .int .i64 p.slack]) (t := 36) ?hr ?_; (case hr => first | (go_simp; done) | (go_simp; rfl)); intro g3 hgx w1 hbx hb; have B3 := As hbx; have G3 := Gg HB hgx; replace HB := Ob HB hb; clear hbx hb hgx))
      go_ret
      exact ⟨rfl, HB.out⟩
  · have hx : e = 0 → f = 0 → n = 0 ∨ (0 < m ∧ m ≤ n) := by
      rintro rfl rfl
      exact Less.first (p := p) (q := withP p s D k c E l d a b) ⟨rfl, rfl, rfl, rfl, rfl, rfl, rfl, rfl, Int.not_lt.1 cs⟩ _ hfp hfq
    have kcs : decide (0 < cmpZ (pn p.vs p.vx p.vy * (pd b : Int)) (pn s a b * (pd p.vy : Int))) = false := decide_eq_false (fun h => cs (cmpZ_pos.1 h))
    clear cs hfp hfq
    by_cases c1 : e = 0
    focus
      have kc1 : (e == 0) = true := by rw [beq_iff_eq]; exact c1
      have kc1n : (e != 0) = false := by rw [bne, kc1]; rfl
      by_cases c2 : f = 0
      focus
        have kc2 : (f == 0) = true := by rw [beq_iff_eq]; exact c2
        have kc2n : (f != 0) = false := by rw [bne, kc2]; rfl
        replace hx := hx c1 c2
        clear c1 c2
        by_cases c3 : cmpZ (pn p.vs p.vx p.vy) 0 = 0
        focus
          have k3 : (cmpZ (pn p.vs p.vx p.vy) 0 == 0) = true := (by rw [beq_iff_eq]; exact c3)
          clear c3
          by_cases c4 : n = 0
          focus
            have kc4 : (n == 0) = true := by rw [beq_iff_eq]; exact c4
            have kc4n : (n != 0) = false := by rw [bne, kc4]; rfl
            clear hx c4
          rotate_right
          focus
            have kc4 : (n == 0) = false := by rw [beq_eq_false_iff_ne]; exact c4
            have kc4n : (n != 0) = true := by rw [bne, kc4]; rfl
            obtain ⟨h5, h6⟩ := hx.resolve_left c4
            have k5 : decide (0 < m) = true := decide_eq_true h5
            have k6 : decide (m ≤ n) = true := decide_eq_true h6
            clear hx h5 h6 c4
        rotate_right
        focus
          have k3 : (cmpZ (pn p.vs p.vx p.vy) 0 == 0) = false := (by rw [beq_eq_false_iff_ne]; exact c3)
          clear c3
          by_cases c4 : n = 0
          focus
            have kc4 : (n == 0) = true := by rw [beq_iff_eq]; exact c4
            have kc4n : (n != 0) = false := by rw [bne, kc4]; rfl
            clear hx c4
          rotate_right
          focus
            have kc4 : (n == 0) = false := by rw [beq_eq_false_iff_ne]; exact c4
            have kc4n : (n != 0) = true := by rw [bne, kc4]; rfl
            obtain ⟨h5, h6⟩ := hx.resolve_left c4
            have k5 : decide (0 < m) = true := decide_eq_true h5
            have k6 : decide (m ≤ n) = true := decide_eq_true h6
            clear hx h5 h6 c4
      rotate_right
      focus
        have kc2 : (f == 0) = false := by rw [beq_eq_false_iff_ne]; exact c2
        have kc2n : (f != 0) = true := by rw [bne, kc2]; rfl
        clear hx c1 c2
    rotate_right
    focus
      have kc1 : (e == 0) = false := by rw [beq_eq_false_iff_ne]; exact c1
      have kc1n : (e != 0) = true := by rw [bne, kc1]; rfl
      clear hx c1
    all_goals
      go_enter Tryz.func8, Tryz.ntmps8
      go_wp2_with (first | (go_at_call 11; (with_reducible refine (law_awake.run _).mono ?_); rintro e w10 ⟨rfl, hb⟩; replace B3 := Bb B3 hb; replace B4 := Bb B4 hb; replace B7 := Bb B7 hb; replace HB := Ob HB hb; clear hb) | (go_at_call 20; (with_reducible refine (ratio_Sign.run p.vs _ _ _ _ _ _ p.vx p.vy 1100000 1100000 _ (H93.1.be HB.1) (H94.1.be HB.1) (by have := HL.out; omega)).mono ?_); rintro e w9 ⟨rfl, hb⟩; replace B3 := Bb B3 hb; replace B4 := Bb B4 hb; replace B7 := Bb B7 hb; replace HB := Ob HB hb; clear hb) | (go_at_call 16; (with_reducible refine (with_first A cap ws L2 (PO.out.below HB.out) (H91.1.be HB.1) (H92.1.be HB.1) (HW.out.below HB.out) HL.out.1 HL.out.2 HFQ.out).mono ?_); rintro e w8 ⟨rfl, hb⟩; replace B3 := Bb B3 hb; replace B4 := Bb B4 hb; replace B7 := Bb B7 hb; replace HB := Ob HB hb; clear hb; (try clear cb3_6); have cb3_6 := Cl6 B3; (try clear cb3_7); have cb3_7 := Cl7 B3; (try clear cb3_8); have cb3_8 := Cl8 B3) | ((with_reducible refine gate_dst (N := 32) rfl ?_); refine wpList_load_row (by rfl) 36 (.tmp 7) (by rfl) g7 (by rfl) 36 #[.int .i64 p.len, .slice p.RA p.rs.length p.rc, .slice p.PA p.ps.length p.pc, .slice p.QA p.qs.length p.qc, .slice p.EA p.en p.ec, .int .i64 p.mn, .bool s, .slice D k c, .slice E l d, .int .i64 p.cut, .bool p.ls, .slice p.lA p.lk p.lc, .slice p.lB p.ll p.ld, .int .i64 p.top, .bool p.ts, .slice p.tA p.tk p.tc, .slice p.tB p.tl p.td, .int .i64 p.slack] (0, 0) _ B7.out Tryz.underlying36 rfl (by kernel_rfl) ?_) | (go_at_call 16; (with_reducible refine (law_first p A cap ws L2 (PO.out.below HB.out) (HW.out.below HB.out) HL.out.1 HL.out.2 HFP.out).mono ?_); rintro e w7 ⟨rfl, hb⟩; replace B3 := Bb B3 hb; replace B4 := Bb B4 hb; replace B7 := Bb B7 hb; replace HB := Ob HB hb; clear hb) | ((with_reducible refine gate_dst (N := 25) rfl ?_); refine wpList_load_row (by rfl) 36 (.tmp 3) (by rfl) g3 (by rfl) 36 #[.int .i64 p.len, .slice p.RA p.rs.length p.rc, .slice p.PA p.ps.length p.pc, .slice p.QA p.qs.length p.qc, .slice p.EA p.en p.ec, .int .i64 p.mn, .bool p.vs, .slice p.vA p.vk p.vc, .slice p.vB p.vl p.vd, .int .i64 p.cut, .bool p.ls, .slice p.lA p.lk p.lc, .slice p.lB p.ll p.ld, .int .i64 p.top, .bool p.ts, .slice p.tA p.tk p.tc, .slice p.tB p.tl p.td, .int .i64 p.slack] (0, 0) _ B3.out Tryz.underlying36 rfl (by kernel_rfl) ?_) | (go_at_call 19; (with_reducible refine (ratio_Cmp.run p.vs s _ _ _ _ _ _ _ _ _ _ _ _ p.vx p.vy a b 1100000 1100000 1100000 1100000 _ (H93.1.be HB.1) (H94.1.be HB.1) (H91.1.be HB.1) (H92.1.be HB.1) (by have := HL.out; omega)).mono ?_); rintro e w6 ⟨rfl, hb⟩; replace B3 := Bb B3 hb; replace B4 := Bb B4 hb; replace B7 := Bb B7 hb; replace HB := Ob HB hb; clear hb) | ((with_reducible refine gate_store (t := 34) (p := 16) rfl ?_); refine store_event (t := 34) (p := 16) (v := ?vo3) (w1 := (((w4.setCell ⟨g7, 6, none⟩ (.bool s)).setCell ⟨g7, 7, none⟩ (.slice D k c)).setCell ⟨g7, 8, none⟩ (.slice E l d))) ?hg ?ho ?hn ?hr ?_; (case ho => rfl); (case hg => rfl); (case hn => rfl); (case hr => first | (go_simp; done) | (go_simp; rfl)); intro w5 hw; have ho : Only w4 w5 g7 := (by rw [hw]; exact Only.setg (Only.setg (Only.setg (Only.refl _ _) 6 _) 7 _) 8 _); have hB2 : w5.heap[g7]? = some (.cells #[.int .i64 p.len, .slice p.RA p.rs.length p.rc, .slice p.PA p.ps.length p.pc, .slice p.QA p.qs.length p.qc, .slice p.EA p.en p.ec, .int .i64 p.mn, .bool s, .slice D k c, .slice E l d, .int .i64 p.cut, .bool p.ls, .slice p.lA p.lk p.lc, .slice p.lB p.ll p.ld, .int .i64 p.top, .bool p.ts, .slice p.tA p.tk p.tc, .slice p.tB p.tl p.td, .int .i64 p.slack] 36 (0, 0)) := (by rw [hw]; exact (blk_put (blk_put (blk_put B7.out 6 _ rfl) 7 _ rfl) 8 _ rfl)); replace B3 := Oo B3 ho NE3_7; replace B4 := Oo B4 ho NE4_7; replace HB := Lo HB ho G7; replace B7 := As hB2; clear hw ho hB2; (try clear cb3_6); have cb3_6 := Cl6 B3; (try clear cb3_7); have cb3_7 := Cl7 B3; (try clear cb3_8); have cb3_8 := Cl8 B3; (try clear cb4_0); have cb4_0 := Cl0 B4; (try clear cb4_1); have cb4_1 := Cl1 B4; (try clear cb4_2); have cb4_2 := Cl2 B4) | ((with_reducible refine gate_store (t := 36) (p := 7) rfl ?_); refine Sto (t := 36) (p := 7) (by rfl) (.tmp 14) (by rfl) (by rfl) g7 #[.int .i64 p.len, .slice p.RA p.rs.length p.rc, .slice p.PA p.ps.length p.pc, .slice p.QA p.qs.length p.qc, .slice p.EA p.en p.ec, .int .i64 p.mn, .bool p.vs, .slice p.vA p.vk p.vc, .slice p.vB p.vl p.vd, .int .i64 p.cut, .bool p.ls, .slice p.lA p.lk p.lc, .slice p.lB p.ll p.ld, .int .i64 p.top, .bool p.ts, .slice p.tA p.tk p.tc, .slice p.tB p.tl p.td, .int .i64 p.slack] (by rfl) (by first | rfl | (go_simp; done) | (go_simp; rfl)) B7 (by kernel_rfl) rfl (by kernel_rfl) ?_; intro w4 ho hB2; replace B3 := Oo B3 ho NE3_7; replace B4 := Oo B4 ho NE4_7; replace HB := Lo HB ho G7; replace B7 := hB2; clear ho hB2; (try clear cb4_0); have cb4_0 := Cl0 B4; (try clear cb4_1); have cb4_1 := Cl1 B4; (try clear cb4_2); have cb4_2 := Cl2 B4; (try clear cb7_6); have cb7_6 := Cl6 B7; (try clear fb7_6); have fb7_6 := Fz B7 6; (try clear cb7_7); have cb7_7 := Cl7 B7; (try clear fb7_7); have fb7_7 := Fz B7 7; (try clear cb7_8); have cb7_8 := Cl8 B7; (try clear fb7_8); have fb7_8 := Fz B7 8) | ((with_reducible refine gate_dst (N := 7) rfl ?_); refine box_event (by rfl) (N := 7) (by rfl) (cs := #[.int .i64 0, .slice none 0 0, .slice none 0 0, .slice none 0 0, .slice none 0 0, .int .i64 0, .bool false, .slice none 0 0, .slice none 0 0, .int .i64 0, .bool false, .slice none 0 0, .slice none 0 0, .int .i64 0, .bool false, .slice none 0 0, .slice none 0 0, .int .i64 0]) (t := 36) ?hr ?_; (case hr => first | (go_simp; done) | (go_simp; rfl)); intro g7 hgx w3 hbx hb; have B7 := As hbx; have NE3_7 := Nn B3 hgx; have NE4_7 := Nn B4 hgx; have G7 := Gg HB hgx; replace B3 := Bb B3 hb; replace B4 := Bb B4 hb; replace HB := Ob HB hb; clear hbx hb hgx) | ((with_reducible refine gate_dst (N := 14) rfl ?_); refine wpList_load_row (by rfl) 36 (.tmp 3) (by rfl) g3 (by rfl) 36 #[.int .i64 p.len, .slice p.RA p.rs.length p.rc, .slice p.PA p.ps.length p.pc, .slice p.QA p.qs.length p.qc, .slice p.EA p.en p.ec, .int .i64 p.mn, .bool p.vs, .slice p.vA p.vk p.vc, .slice p.vB p.vl p.vd, .int .i64 p.cut, .bool p.ls, .slice p.lA p.lk p.lc, .slice p.lB p.ll p.ld, .int .i64 p.top, .bool p.ts, .slice p.tA p.tk p.tc, .slice p.tB p.tl p.td, .int .i64 p.slack] (0, 0) _ B3.out Tryz.underlying36 rfl (by kernel_rfl) ?_) | ((with_reducible refine gate_dst (N := 4) rfl ?_); refine box_event (by rfl) (N := 4) (by rfl) (cs := #[.bool s, .slice D k c, .slice E l d]) (t := 34) ?hr ?_; (case hr => first | (go_simp; done) | (go_simp; rfl)); intro g4 hgx w2 hbx hb; have B4 := As hbx; have NE3_4 := Nn B3 hgx; have G4 := Gg HB hgx; replace B3 := Bb B3 hb; replace HB := Ob HB hb; clear hbx hb hgx) | ((with_reducible refine gate_dst (N := 3) rfl ?_); refine box_event (by rfl) (N := 3) (by rfl) (cs := #[.int .i64 p.len, .slice p.RA p.rs.length p.rc, .slice p.PA p.ps.length p.pc, .slice p.QA p.qs.length p.qc, .slice p.EA p.en p.ec, .int .i64 p.mn, .bool p.vs, .slice p.vA p.vk p.vc, .slice p.vB p.vl p.vd, .int .i64 p.cut, .bool p.ls, .slice p.lA p.lk p.lc, .slice p.lB p.ll p.ld, .int .i64 p.top, .bool p.ts, .slice p.tA p.tk p.tc, .slice p.tB p.tl p.td, .int .i64 p.slack]) (t := 36) ?hr ?_; (case hr => first | (go_simp; done) | (go_simp; rfl)); intro g3 hgx w1 hbx hb; have B3 := As hbx; have G3 := Gg HB hgx; replace HB := Ob HB hb; clear hbx hb hgx))
      go_ret
      exact ⟨rfl, HB.out⟩
end Go.Proofs.YtnmfmiemkcaocaaGreat.Hand
namespace Go.Proofs.YtnmfmiemkcaocaaGreat.stoppingPrecision
open Go.ChangeShapes Go.WideShapes Go.ChangeAt Go.RowKit
set_option linter.unusedVariables false
theorem own : ownKnob Tryz.prog.godebug = none := by kernel_rfl
theorem laidOut : laidOutB Tryz.prog = true := by kernel_rfl
set_option maxRecDepth 100000 in
set_option maxHeartbeats 8000000 in
theorem contract (H : Type) (enc : TypeId × Value → H) (W : World) (base : Nat) (args : Array Value) (ds gs : List (DataW H)) (before : List MemPlace)
    (hval0 : ∀ (j : Nat) t v, Tryz.f8.params[j]? = some t → args[j]? = some v → Value.okWide Tryz.prog W .any base t v)
    (hW : DataW.Whole enc Tryz.prog Tryz.f8.params.toList Rows.stoppingPrecisionSpec.vars false W args.toList ds gs before) (hk : Rows.uptoSmall H (ds ++ gs) = true) :
    Calls Tryz.prog 8 args W fun e W' => ∃ v, e = .returned v ∧ Rows.stoppingPrecisionSpec.post enc Tryz.prog Tryz.f8 false true false false W args v W' := by
  have hval : ∀ (j : Nat) t v, Tryz.f8.params[j]? = some t → args[j]? = some v → Value.okWide Tryz.prog W .any base t v := hval0
  have hW' := hW
  obtain ⟨p, q, hA0, hV, rfl, hfz, hnd⟩ := hW
  have hA : DataW.TrodAll enc Tryz.prog W 0 (fun _ => true) true Tryz.f8.params.toList args.toList ds p := hA0
  rw [Tryz.params8] at hA hval
  obtain ⟨v0, vs0, d0, ds0, p0, q0, hargs, rfl, rfl, h0, r0⟩ := trodAll_cons hA
  obtain ⟨v1, vs1, d1, ds1, p1, q1, rfl, rfl, rfl, h1, r1⟩ := trodAll_cons r0
  obtain ⟨v2, vs2, d2, ds2, p2, q2, rfl, rfl, rfl, h2, r2⟩ := trodAll_cons r1
  obtain ⟨rfl, rfl, rfl⟩ := trodAll_nil r2
  obtain rfl : args = #[v0, v1, v2] := by cases args; simp_all
  obtain ⟨rfl, rfl⟩ := trodVars_none hV
  obtain ⟨cs0, rfl, _⟩ := okWide_struct Tryz.underlying36 (hval 0 36 v0 rfl rfl)
  have k0 := h0
  have lt0 : ∀ x ∈ p0, x.block < W.heap.size := by obtain ⟨m, hm⟩ := k0; exact DataW.trod_lt m _ _ _ hm
  obtain ⟨y0, e0, f0, b0⟩ := Open.opened (Open.o36) hk (j := 0) rfl h0
  obtain ⟨l0, rfl, ok0⟩ := Open.pol_of e0 f0 b0
  obtain ⟨cs1, rfl, _⟩ := okWide_struct Tryz.underlying34 (hval 1 34 v1 rfl rfl)
  have k1 := h1
  have lt1 : ∀ x ∈ p1, x.block < W.heap.size := by obtain ⟨m, hm⟩ := k1; exact DataW.trod_lt m _ _ _ hm
  obtain ⟨y1, e1, f1, b1⟩ := Open.opened (Open.o34) hk (j := 1) rfl h1
  obtain ⟨s1, A1, B1, n1, c1, m1, g1, x1, z1, rfl, na1, nb1⟩ := Open.rat_of e1 f1 b1
  obtain ⟨a2, len2, cap2, rfl⟩ := okWide_slice Tryz.underlying47 (hval 2 47 v2 rfl rfl)
  have k2 := h2
  have lt2 : ∀ x ∈ p2, x.block < W.heap.size := by obtain ⟨m, hm⟩ := k2; exact DataW.trod_lt m _ _ _ hm
  obtain ⟨y2, e2, f2, b2⟩ := Open.opened (Open.o47) hk (j := 2) rfl h2
  obtain ⟨A2, c2, he2, hl2, hC2⟩ := e2
  simp [Value.cells] at he2
  obtain ⟨rfl, rfl, rfl⟩ := he2
  obtain ⟨wr2, wl2⟩ := Open.wwr_of hC2 b2 f2
  clear hA0 hval0 hk
  refine (Hand.law_Precision.run l0 s1 A1 B1 n1 c1 m1 g1 x1 z1 a2 cap2 y2 1100000 W ok0 na1 nb1 wr2 wl2 (by decide)).mono fun e W' ⟨he, bel⟩ => ?_
  subst he
  exact ⟨_, rfl, _, _, _, [], _, [], hW', trodAll_mk1 (shut_bool Tryz.underlying4 _), (trodAll_cons_mk (Below.trod laidOut (by kernel_rfl) (of_decide_eq_true (by kernel_rfl)) k0 bel lt0) (trodAll_cons_mk (Below.trod laidOut (by kernel_rfl) (of_decide_eq_true (by kernel_rfl)) k1 bel lt1) (trodAll_cons_mk (Below.trod laidOut (by kernel_rfl) (of_decide_eq_true (by kernel_rfl)) k2 bel lt2) trodAll_mk0))), rfl, bel.frame _, fun h => by cases h⟩
set_option maxRecDepth 100000 in
theorem lifted (os : Os) (started : os.Started) (H : Type) (enc : TypeId × Value → H) (F : Stop.Interp) :
    ReturnsInHanded {} Tryz.checked os 8 .any ((Rows.OpenSpec.upto Rows.stoppingPrecisionSpec).pre6 enc Tryz.prog Tryz.f8 Rows.stoppingPrecisionUptoRow.domain false) (((Rows.OpenSpec.upto Rows.stoppingPrecisionSpec).at F).post enc Tryz.prog Tryz.f8 false true false false) := by
  refine returnsInHanded_of_cond (C := Tryz.checked) (s := Rows.OpenSpec.upto Rows.stoppingPrecisionSpec) (k := Rows.uptoSmall) rfl own started (by kernel_rfl) Tryz.func8
    (OpenSpec.witness (enc := enc) (C := Tryz.checked) (s := Rows.OpenSpec.upto Rows.stoppingPrecisionSpec) (k := Rows.uptoSmall) rfl false ⟨#[], #[.agg #[.int .i64 0, .slice none 0 0, .slice none 0 0, .slice none 0 0, .slice none 0 0, .int .i64 0, .bool false, .slice none 0 0, .slice none 0 0, .int .i64 0, .bool false, .slice none 0 0, .slice none 0 0, .int .i64 0, .bool false, .slice none 0 0, .slice none 0 0, .int .i64 0], .agg #[.bool false, .slice none 0 0, .slice none 0 0], .slice none 0 0], []⟩ 8 (by kernel_rfl) (by kernel_rfl) (by kernel_rfl)
      (x := ([.agg [.agg [.lit (.int .i64 0), .nil], .agg [.nil, .nil], .nil, .lit (.int .i64 0), .agg [.agg [.lit (.bool false), .nil], .nil], .lit (.int .i64 0), .agg [.agg [.lit (.bool false), .nil], .nil], .lit (.int .i64 0), .agg [.agg [.lit (.bool false), .nil], .nil], .lit (.int .i64 0)], .agg [.agg [.lit (.bool false), .nil], .nil], .nil], [], [])) (by kernel_rfl) rfl (by kernel_rfl)) ?_
  intro W base args ds gs before hval hW _ hk _
  exact contract H enc W base args ds gs before hval hW hk
theorem over : Rows.stoppingPrecisionUptoRow.holds Tryz.pinned (Rows.OpenSpec.upto Rows.stoppingPrecisionSpec) :=
  OpenClaim.holds_of_cond 8 Tryz.f8 rfl rfl rfl rfl rfl rfl rfl ⟨rfl, rfl, rfl, rfl, rfl⟩ rfl rfl rfl rfl rfl (by kernel_rfl) Tryz.func8 (by kernel_rfl)
    (of_decide_eq_true (by kernel_rfl)) (by unfold Func.isWrapper; first | (rw [if_pos (by decide +kernel)]; kernel_rfl) | (rw [if_neg (by decide +kernel)]; exact ⟨rfl, rfl⟩))
    (fun os started H enc _ F => lifted os started H enc F)
theorem proved : Rows.StoppingPrecisionUptoSaid := over
#print axioms proved
end Go.Proofs.YtnmfmiemkcaocaaGreat.stoppingPrecision
namespace Go.Proofs.YtnmfmiemkcaocaaGreat
theorem stoppingPrecision_holds : Rows.StoppingPrecisionUptoSaid := stoppingPrecision.proved
end Go.Proofs.YtnmfmiemkcaocaaGreat
