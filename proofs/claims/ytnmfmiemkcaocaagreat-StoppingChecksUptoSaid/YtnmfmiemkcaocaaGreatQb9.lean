/- Parts of the proof, joined: AwB, RfA, RfB, RfC. No condition. -/
import Derived.Test.YtnmfmiemkcaocaaGreatQb8
set_option maxHeartbeats 8000000
set_option maxRecDepth 100000
namespace Go.Proofs.YtnmfmiemkcaocaaGreat.Hand
open Go.RowKit Go.Proofs.YtnmfmiemkcaocaaGreatW.PrintWords Go.Proofs.YtnmfmiemkcaocaaGreatW.PrintLast Go.Proofs.YtnmfmiemkcaocaaGreatW.PrintMore
set_option linter.unusedVariables false
set_option linter.unusedSimpArgs false
theorem ev_load_row {ops : Array Oper} {rest : List Oper} {o : Oper} {a : Act} {w : World} {Q : Exit → Act → World → Prop} (hgd : Region.wanted o (yielded ops a.tmps) = true) (ty : TypeId) (x : Operand) (ho : o.op = .load ty x)
  (g : Nat) (hx : a.eval x = .pointer (some ⟨g, 0, none⟩)) (t : TypeId) (cs : Array Value) (fr : Nat × Nat) {fs : _} (hg : w.heap[g]? = some (.cells cs t fr))
  (hu : Tryz.prog.underlying ty = some (.struct fs)) (hd : 0 = 0) (hi : (Tryz.prog.info? ty).map (·.size) = some cs.size)
  (h : wpList Tryz.prog ops Q rest (a.put o.dst (.agg cs)) w) : wpList Tryz.prog ops Q (o :: rest) a w :=
 wpList_step fun K hK => by
  rw [if_pos hgd]
  exact wp_load_row ty x ho g hx t cs fr _ hg hu rfl hi (hK _ _ h)
theorem rowC {α : Type} {d : Kd α} (hs : d.sz = 1) {w : World} {g t : Nat} {cs : Array Value} (h : w.heap[g]? = some (.cells cs t (0, 0))) (ps : List α) (n : Nat) (hl : ps.length = n) (hm : n ≤ 9223372036854775807)
  (hk : ∀ (j : Nat) (p : α), ps[j]? = some p → ∃ u, cs[j]? = some u ∧ d.K w p [u]) : d.C w (some ⟨g, 0, none⟩) n ps := by
 refine ⟨hl, hm, fun _ => ⟨_, rfl, fun j p hj => ?_⟩⟩
 obtain ⟨u, hu, hK⟩ := hk j p hj
 refine ⟨[u], hs.symm, hK, ?_⟩
 intro i v hv
 cases i with
 | succ i => simp at hv
 | zero =>
  rw [show v = u by simpa using hv.symm, hs]
  have := blk_cell h j
  rw [hu] at this
  rw [show (⟨g, 0, none⟩ : Addr).add (j * 1 + 0) = ⟨g, j, none⟩ from by unfold Addr.add; split <;> simp_all]
  exact this
theorem rowI2 {w : World} {g : Nat} {a b : Int} (h : w.heap[g]? = some (.cells #[.int .i64 a, .int .i64 b] 3 (0, 0))) : Kd.C (Kd.int .i64) w (some ⟨g, 0, none⟩) 2 [a, b] := by
 refine rowC rfl h [a, b] 2 rfl (by omega) (fun j p hj => ?_)
 rcases j with _ | _ | j
 ·
  exact ⟨_, rfl, by rw [← Option.some.inj hj]; rfl⟩
 ·
  exact ⟨_, rfl, by rw [← Option.some.inj hj]; rfl⟩
 ·
  simp at hj
theorem rowNil {α : Type} (d : Kd α) (w : World) : d.C w none 0 [] := ⟨rfl, by omega, fun h => absurd h (by omega)⟩
theorem NA.one {w : World} {A : Option Addr} {x : Nat} (h : NA w (.slice A 1 1) x 1) : Kd.C (Kd.int .u32) w A 1 [(x : Int)] ∧ Rg [(x : Int)] := by
 obtain ⟨xs, ⟨B, c, e, hc, hr⟩, hg, hn, hl⟩ := h
 injection e with e1 e2 e3
 subst e1
 match xs, e2 with
 | [y], _ =>
  have : (x : Int) = y := by
   rw [← hn]
   have := hg y (by simp)
   simp [nv]
   omega
  rw [this]
  exact ⟨hr, hg⟩
theorem rowW2 {w : World} {g : Nat} {A B : Option Addr} {x y : Nat} (h : w.heap[g]? = some (.cells #[.slice A 1 1, .slice B 1 1] 30 (0, 0))) (hA : NA w (.slice A 1 1) x 1) (hB : NA w (.slice B 1 1) y 1) :
  WR w (some ⟨g, 0, none⟩) [[(x : Int)], [(y : Int)]] 2 := by
 refine ⟨rowC rfl h _ 2 rfl (by omega) (fun j p hj => ?_), ?_, by simp⟩
 ·
  rcases j with _ | _ | j
  ·
   exact ⟨_, rfl, by rw [← Option.some.inj hj]; exact ⟨A, 1, rfl, Nat.le_refl _, hA.one.1⟩⟩
  ·
   exact ⟨_, rfl, by rw [← Option.some.inj hj]; exact ⟨B, 1, rfl, Nat.le_refl _, hB.one.1⟩⟩
  ·
   simp at hj
 ·
  intro xs hxs
  rcases List.mem_cons.1 hxs with rfl | hxs
  ·
   exact hA.one.2
  ·
   rw [List.mem_singleton.1 hxs]
   exact hB.one.2
theorem rowWW {w : World} {g n k : Nat} {A : Option Addr} {cs : Array Value} {wss : List (List Int)} (h : w.heap[g]? = some (.cells cs 41 (0, 0))) (hcs : cs = (List.replicate n (Value.slice A k k)).toArray) (hk : wss.length = k) (hn : n ≤ 100) (hl : wss.length ≤ 100000000) (hw : WR w A wss 2) :
  WWR w (some ⟨g, 0, none⟩) (List.replicate n wss) 2 := by
 subst hcs
 subst hk
 refine ⟨rowC rfl h _ _ rfl (by rw [List.length_replicate]; omega) (fun j p hj => ?_), ?_⟩
 ·
  rw [List.getElem?_replicate] at hj
  split at hj
  ·
   refine ⟨.slice A wss.length wss.length, ?_, ?_⟩
   ·
    rename_i hjn
    simp [Array.getElem?_replicate, hjn]
   ·
    rw [← Option.some.inj hj]
    exact ⟨A, _, rfl, Nat.le_refl _, hw.1⟩
  ·
   cases hj
 ·
  intro x hx
  rw [List.eq_of_mem_replicate hx]
  exact ⟨hw.2.1, hw.2.2, hl⟩
def awP (n cut : Int) (g h : Nat) (vA : Option Addr) (vk : Nat) (vB : Option Addr) (vl vx vy : Nat) (lA : Option Addr) (lk : Nat) (lB : Option Addr) (ll lx ly : Nat) (tA tB : Option Addr) : Pol := { len := n, rs := [], RA := none, rc := 0, ps := [0, 100], PA := some ⟨g, 0, none⟩, pc := 2, qs := [1, 1], QA := some ⟨h, 0, none⟩, qc := 2, en := 0, EA := none, ec := 0, mn := 1, vs := false, vA := vA, vk := vk, vc := vk, vB := vB, vl := vl, vd := vl, vx := vx, vy := vy, cut := cut, ls := false, lA := lA, lk := lk, lc := lk, lB := lB, ll := ll, ld := ll, lx := lx, ly := ly, top := 1, ts := false, tA := tA, tk := 1, tc := 1, tB := tB, tl := 1, td := 1, tx := 1, ty := 2, slack := 0 }
theorem aw_ok {w : World} (n cut : Int) (g h : Nat) (vA : Option Addr) (vk : Nat) (vB : Option Addr) (vl vx vy : Nat) (lA : Option Addr) (lk : Nat) (lB : Option Addr) (ll lx ly : Nat) (tA tB : Option Addr) (hg : w.heap[g]? = some (.cells #[.int .i64 0, .int .i64 100] 3 (0, 0))) (hh : w.heap[h]? = some (.cells #[.int .i64 1, .int .i64 1] 3 (0, 0)))
  (vn : NA w (.slice vA vk vk) vx 1) (vd : NA w (.slice vB vl vl) vy 1) (ln : NA w (.slice lA lk lk) lx 1) (ld : NA w (.slice lB ll ll) ly 1) (tn : NA w (.slice tA 1 1) 1 1) (td : NA w (.slice tB 1 1) 2 1) : PolOK w (awP n cut g h vA vk vB vl vx vy lA lk lB ll lx ly tA tB) 1 :=
 ⟨rowNil _ _, fun x hx => absurd (show x ∈ ([] : List RuleT) from hx) List.not_mem_nil, rowI2 hg, Nat.le_refl _, (show 2 ≤ 100000000 by decide), rowI2 hh, vn, vd, ln, ld, tn, td, (by decide)⟩
theorem aw_reason {w : World} (n cut : Int) (g h : Nat) (vA : Option Addr) (vk : Nat) (vB : Option Addr) (vl vx vy : Nat) (lA : Option Addr) (lk : Nat) (lB : Option Addr) (ll lx ly : Nat) (tA tB : Option Addr) (k : Int) (A : Option Addr) (x y : Nat) (hw : WR w A [[(x : Int)], [(y : Int)]] 2) (r s : Int) (hr : reasonV (awP n cut g h vA vk vB vl vx vy lA lk lB ll lx ly tA tB) k (wn [[(x : Int)], [(y : Int)]]) = (r, s)) (ok : PolOK w (awP n cut g h vA vk vB vl vx vy lA lk lB ll lx ly tA tB) 1) :
  Calls Tryz.prog 12 #[.agg #[.int .i64 n, .slice none 0 0, .slice (some ⟨g, 0, none⟩) 2 2, .slice (some ⟨h, 0, none⟩) 2 2, .slice none 0 0, .int .i64 1, .bool false, .slice vA vk vk, .slice vB vl vl, .int .i64 cut, .bool false, .slice lA lk lk, .slice lB ll ll, .int .i64 1, .bool false, .slice tA 1 1, .slice tB 1 1, .int .i64 0], .int .i64 k, .slice A 2 2] w fun e w' => e = .returned (.tuple #[.int .i64 r, .int .i64 s]) ∧ Below w.heap.size w w' := by
 have := stopping_Reason.run (awP n cut g h vA vk vB vl vx vy lA lk lB ll lx ly tA tB) 1 A 2 [[(x : Int)], [(y : Int)]] 2 k w ok hw (Nat.le_refl _) (by simp) (by decide)
 rw [hr] at this
 exact this
theorem aw_decided {w : World} (n cut : Int) (g h : Nat) (vA : Option Addr) (vk : Nat) (vB : Option Addr) (vl vx vy : Nat) (lA : Option Addr) (lk : Nat) (lB : Option Addr) (ll lx ly : Nat) (tA tB : Option Addr) (A : Option Addr) (x y : Nat) (hw : WR w A [[(x : Int)], [(y : Int)]] 2) (r : Bool) (s : Int) (hr : decV (awP n cut g h vA vk vB vl vx vy lA lk lB ll lx ly tA tB) (wn [[(x : Int)], [(y : Int)]]) = (r, s)) (ok : PolOK w (awP n cut g h vA vk vB vl vx vy lA lk lB ll lx ly tA tB) 1) :
  Calls Tryz.prog 14 #[.agg #[.int .i64 n, .slice none 0 0, .slice (some ⟨g, 0, none⟩) 2 2, .slice (some ⟨h, 0, none⟩) 2 2, .slice none 0 0, .int .i64 1, .bool false, .slice vA vk vk, .slice vB vl vl, .int .i64 cut, .bool false, .slice lA lk lk, .slice lB ll ll, .int .i64 1, .bool false, .slice tA 1 1, .slice tB 1 1, .int .i64 0], .slice A 2 2] w fun e w' => e = .returned (.tuple #[.bool r, .int .i64 s]) ∧ Below w.heap.size w w' := by
 have := stopping_Decided.run (awP n cut g h vA vk vB vl vx vy lA lk lB ll lx ly tA tB) 1 A 2 [[(x : Int)], [(y : Int)]] 2 w ok hw (Nat.le_refl _) (by simp) (by decide)
 rw [hr] at this
 exact this
theorem aw_valid {w : World} (n cut : Int) (g h : Nat) (vA : Option Addr) (vk : Nat) (vB : Option Addr) (vl vx vy : Nat) (lA : Option Addr) (lk : Nat) (lB : Option Addr) (ll lx ly : Nat) (tA tB : Option Addr) (r : Int) (hr : validV (awP n cut g h vA vk vB vl vx vy lA lk lB ll lx ly tA tB) = r) (ok : PolOK w (awP n cut g h vA vk vB vl vx vy lA lk lB ll lx ly tA tB) 1) :
  Calls Tryz.prog 9 #[.agg #[.int .i64 n, .slice none 0 0, .slice (some ⟨g, 0, none⟩) 2 2, .slice (some ⟨h, 0, none⟩) 2 2, .slice none 0 0, .int .i64 1, .bool false, .slice vA vk vk, .slice vB vl vl, .int .i64 cut, .bool false, .slice lA lk lk, .slice lB ll ll, .int .i64 1, .bool false, .slice tA 1 1, .slice tB 1 1, .int .i64 0]] w fun e w' => e = .returned (.int .i64 r) ∧ Below w.heap.size w w' := by
 have := stopping_Valid.run (awP n cut g h vA vk vB vl vx vy lA lk lB ll lx ly tA tB) 1 w ok
 rw [hr] at this
 exact this
theorem aw_first {w : World} (n cut : Int) (g h : Nat) (vA : Option Addr) (vk : Nat) (vB : Option Addr) (vl vx vy : Nat) (lA : Option Addr) (lk : Nat) (lB : Option Addr) (ll lx ly : Nat) (tA tB : Option Addr) (A : Option Addr) (m x y : Nat) (hm : m ≤ 100) (hw : WWR w A (List.replicate m [[(x : Int)], [(y : Int)]]) 2) (r s t : Int) (hr : firstV (awP n cut g h vA vk vB vl vx vy lA lk lB ll lx ly tA tB) ((List.replicate m [[(x : Int)], [(y : Int)]]).map wn) = (r, s, t)) (ok : PolOK w (awP n cut g h vA vk vB vl vx vy lA lk lB ll lx ly tA tB) 1) :
  Calls Tryz.prog 16 #[.agg #[.int .i64 n, .slice none 0 0, .slice (some ⟨g, 0, none⟩) 2 2, .slice (some ⟨h, 0, none⟩) 2 2, .slice none 0 0, .int .i64 1, .bool false, .slice vA vk vk, .slice vB vl vl, .int .i64 cut, .bool false, .slice lA lk lk, .slice lB ll ll, .int .i64 1, .bool false, .slice tA 1 1, .slice tB 1 1, .int .i64 0], .slice A m m] w fun e w' => e = .returned (.tuple #[.int .i64 r, .int .i64 s, .int .i64 t]) ∧ Below w.heap.size w w' := by
 have := stopping_First.run (awP n cut g h vA vk vB vl vx vy lA lk lB ll lx ly tA tB) 1 A m _ 2 w ok hw (by rw [List.length_replicate]; omega) (by decide)
 rw [hr, List.length_replicate] at this
 exact this
theorem law_awake.run (w : World) :
  Calls Tryz.prog 11 #[] w fun e w' => e = .returned (.bool true) ∧ Below w.heap.size w w' := by
 have HB := Aside0.mk (Below.refl w.heap.size w)
 go_enter Tryz.func11, Tryz.ntmps11
 go_wp2_with (first | (go_at_call 9; (with_reducible refine (aw_valid 5 0 gP1 gQ1 A16 1 D16 1 2500 1 none 0 none 0 0 0 A1 D1 0 (by kernel_rfl) (aw_ok 5 0 gP1 gQ1 A16 1 D16 1 2500 1 none 0 none 0 0 0 A1 D1 BP1.out BQ1.out H17.out.na H18.out.na (NC.nil _ 1).na (NC.nil _ 1).na H2.out.na H3.out.na)).mono ?_); rintro e w59 ⟨rfl, hb⟩; replace H2 := As (H2.1.be hb); replace H3 := As (H3.1.be hb); replace H5 := As (H5.1.be hb); replace H6 := As (H6.1.be hb); replace H8 := As (H8.1.be hb); replace H9 := As (H9.1.be hb); replace H17 := As (H17.1.be hb); replace H18 := As (H18.1.be hb); replace H21 := As (H21.1.be hb); replace H22 := As (H22.1.be hb); replace H25 := As (H25.1.be hb); replace H27 := As (H27.1.be hb); replace H38 := As (H38.1.be hb); replace H39 := As (H39.1.be hb); replace H42 := As (H42.1.be hb); replace H44 := As (H44.1.be hb); replace H48 := As (H48.1.be hb); replace H49 := As (H49.1.be hb); replace H52 := As (H52.1.be hb); replace H54 := As (H54.1.be hb); replace BP1 := Bb BP1 hb; replace BQ1 := Bb BQ1 hb; replace BP4 := Bb BP4 hb; replace BQ4 := Bb BQ4 hb; replace BP7 := Bb BP7 hb; replace BQ7 := Bb BQ7 hb; replace B1 := Bb B1 hb; replace B2 := Bb B2 hb; replace B3 := Bb B3 hb; replace B26 := Bb B26 hb; replace B72 := Bb B72 hb; replace B80 := Bb B80 hb; replace B114 := Bb B114 hb; replace B124 := Bb B124 hb; replace HB := Ob HB hb; clear hb) | ((with_reducible refine gate_dst (N := 148) rfl ?_); refine ev_load_row (by first | rfl | (go_simp; done) | (go_simp; rfl)) 36 (.tmp 1) (by rfl) g1 (by rfl) 36 #[.int .i64 5, .slice none 0 0, .slice (some ⟨gP1, 0, none⟩) 2 2, .slice (some ⟨gQ1, 0, none⟩) 2 2, .slice none 0 0, .int .i64 1, .bool false, .slice A16 1 1, .slice D16 1 1, .int .i64 0, .bool false, .slice none 0 0, .slice none 0 0, .int .i64 1, .bool false, .slice A1 1 1, .slice D1 1 1, .int .i64 0] (0, 0)  B1.out Tryz.underlying36 rfl (by kernel_rfl) ?_) | (go_at_call 9; (with_reducible refine (aw_valid 2 2 gP7 gQ7 none 0 none 0 0 0 A47 1 D47 1 4 5 A7 D7 3 (by kernel_rfl) (aw_ok 2 2 gP7 gQ7 none 0 none 0 0 0 A47 1 D47 1 4 5 A7 D7 BP7.out BQ7.out (NC.nil _ 1).na (NC.nil _ 1).na H48.out.na H49.out.na H8.out.na H9.out.na)).mono ?_); rintro e w58 ⟨rfl, hb⟩; replace H2 := As (H2.1.be hb); replace H3 := As (H3.1.be hb); replace H5 := As (H5.1.be hb); replace H6 := As (H6.1.be hb); replace H8 := As (H8.1.be hb); replace H9 := As (H9.1.be hb); replace H17 := As (H17.1.be hb); replace H18 := As (H18.1.be hb); replace H21 := As (H21.1.be hb); replace H22 := As (H22.1.be hb); replace H25 := As (H25.1.be hb); replace H27 := As (H27.1.be hb); replace H38 := As (H38.1.be hb); replace H39 := As (H39.1.be hb); replace H42 := As (H42.1.be hb); replace H44 := As (H44.1.be hb); replace H48 := As (H48.1.be hb); replace H49 := As (H49.1.be hb); replace H52 := As (H52.1.be hb); replace H54 := As (H54.1.be hb); replace BP1 := Bb BP1 hb; replace BQ1 := Bb BQ1 hb; replace BP4 := Bb BP4 hb; replace BQ4 := Bb BQ4 hb; replace BP7 := Bb BP7 hb; replace BQ7 := Bb BQ7 hb; replace B1 := Bb B1 hb; replace B2 := Bb B2 hb; replace B3 := Bb B3 hb; replace B26 := Bb B26 hb; replace B72 := Bb B72 hb; replace B80 := Bb B80 hb; replace B114 := Bb B114 hb; replace B124 := Bb B124 hb; replace HB := Ob HB hb; clear hb) | ((with_reducible refine gate_dst (N := 143) rfl ?_); refine ev_load_row (by first | rfl | (go_simp; done) | (go_simp; rfl)) 36 (.tmp 3) (by rfl) g3 (by rfl) 36 #[.int .i64 2, .slice none 0 0, .slice (some ⟨gP7, 0, none⟩) 2 2, .slice (some ⟨gQ7, 0, none⟩) 2 2, .slice none 0 0, .int .i64 1, .bool false, .slice none 0 0, .slice none 0 0, .int .i64 2, .bool false, .slice A47 1 1, .slice D47 1 1, .int .i64 1, .bool false, .slice A7 1 1, .slice D7 1 1, .int .i64 0] (0, 0)  B3.out Tryz.underlying36 rfl (by kernel_rfl) ?_) | ((with_reducible refine gate_store (t := 3) (p := 128) rfl ?_); refine store_event (t := 3) (p := 128) (v := ?vo6) (w1 := (w56.setCell ⟨g3, 9, none⟩ (.int .i64 2))) ?hg ?ho ?hn ?hr ?_; (case ho => rfl); (case hg => rfl); (case hn => rfl); (case hr => first | (go_simp; done) | (go_simp; rfl)); intro w57 hw; have ho : Only w56 w57 g3 := (by rw [hw]; exact Only.setg (Only.refl _ _) 9 _); have hB2 : w57.heap[g3]? = some (.cells #[.int .i64 2, .slice none 0 0, .slice (some ⟨gP7, 0, none⟩) 2 2, .slice (some ⟨gQ7, 0, none⟩) 2 2, .slice none 0 0, .int .i64 1, .bool false, .slice none 0 0, .slice none 0 0, .int .i64 2, .bool false, .slice A47 1 1, .slice D47 1 1, .int .i64 1, .bool false, .slice A7 1 1, .slice D7 1 1, .int .i64 0] 36 (0, 0)) := (by rw [hw]; exact (blk_put B3.out 9 _ rfl)); replace H2 := As (H2.1.only ho B3.1 nl18); replace H3 := As (H3.1.only ho B3.1 nl18); replace H5 := As (H5.1.only ho B3.1 nl18); replace H6 := As (H6.1.only ho B3.1 nl18); replace H8 := As (H8.1.only ho B3.1 nl18); replace H9 := As (H9.1.only ho B3.1 nl18); replace H17 := As (H17.1.only ho B3.1 nl18); replace H18 := As (H18.1.only ho B3.1 nl18); replace H21 := As (H21.1.only ho B3.1 nl18); replace H22 := As (H22.1.only ho B3.1 nl18); replace H25 := As (H25.1.only ho B3.1 nl18); replace H27 := As (H27.1.only ho B3.1 nl18); replace H38 := As (H38.1.only ho B3.1 nl18); replace H39 := As (H39.1.only ho B3.1 nl18); replace H42 := As (H42.1.only ho B3.1 nl18); replace H44 := As (H44.1.only ho B3.1 nl18); replace H48 := As (H48.1.only ho B3.1 nl18); replace H49 := As (H49.1.only ho B3.1 nl18); replace H52 := As (H52.1.only ho B3.1 nl18); replace H54 := As (H54.1.only ho B3.1 nl18); replace BP1 := Oo BP1 ho NEP1_3; replace BQ1 := Oo BQ1 ho NEQ1_3; replace BP4 := Oo BP4 ho NEP4_3; replace BQ4 := Oo BQ4 ho NEQ4_3; replace BP7 := Oo BP7 ho NEP7_3; replace BQ7 := Oo BQ7 ho NEQ7_3; replace B1 := Oo B1 ho NE1_3; replace B2 := Oo B2 ho NE2_3; replace B26 := Ou B26 ho NE3_26; replace B72 := Ou B72 ho NE3_72; replace B80 := Ou B80 ho NE3_80; replace B114 := Ou B114 ho NE3_114; replace B124 := Ou B124 ho NE3_124; replace HB := Lo HB ho G3; replace B3 := As hB2; clear hw ho hB2) | (go_at_call 14; (with_reducible refine (aw_decided 2 1 gP7 gQ7 none 0 none 0 0 0 A47 1 D47 1 4 5 A7 D7 (some ⟨g124, 0, none⟩) 1 3 (rowW2 B124.out H52.out.na H54.out.na) false 0 (by kernel_rfl) (aw_ok 2 1 gP7 gQ7 none 0 none 0 0 0 A47 1 D47 1 4 5 A7 D7 BP7.out BQ7.out (NC.nil _ 1).na (NC.nil _ 1).na H48.out.na H49.out.na H8.out.na H9.out.na)).mono ?_); rintro e w56 ⟨rfl, hb⟩; replace H2 := As (H2.1.be hb); replace H3 := As (H3.1.be hb); replace H5 := As (H5.1.be hb); replace H6 := As (H6.1.be hb); replace H8 := As (H8.1.be hb); replace H9 := As (H9.1.be hb); replace H17 := As (H17.1.be hb); replace H18 := As (H18.1.be hb); replace H21 := As (H21.1.be hb); replace H22 := As (H22.1.be hb); replace H25 := As (H25.1.be hb); replace H27 := As (H27.1.be hb); replace H38 := As (H38.1.be hb); replace H39 := As (H39.1.be hb); replace H42 := As (H42.1.be hb); replace H44 := As (H44.1.be hb); replace H48 := As (H48.1.be hb); replace H49 := As (H49.1.be hb); replace H52 := As (H52.1.be hb); replace H54 := As (H54.1.be hb); replace BP1 := Bb BP1 hb; replace BQ1 := Bb BQ1 hb; replace BP4 := Bb BP4 hb; replace BQ4 := Bb BQ4 hb; replace BP7 := Bb BP7 hb; replace BQ7 := Bb BQ7 hb; replace B1 := Bb B1 hb; replace B2 := Bb B2 hb; replace B3 := Bb B3 hb; replace B26 := Bb B26 hb; replace B72 := Bb B72 hb; replace B80 := Bb B80 hb; replace B114 := Bb B114 hb; replace B124 := Bb B124 hb; replace HB := Ob HB hb; clear hb; (try clear cb3_9); have cb3_9 := Cl9 B3; (try clear fb3_9); have fb3_9 := Fz B3 9) | ((with_reducible refine gate_dst (N := 124) rfl ?_); refine ev_row (by rfl) #[.slice (some ⟨g122, 0, none⟩) 1 1, .slice (some ⟨g123, 0, none⟩) 1 1] 30 2 ?hr ?_; (case hr => first | (go_simp; done) | (go_simp; rfl)); intro g124 hgx w55 hbx hb; have B124 := Aside0.mk hbx; have NEP1_124 := Nn BP1 hgx; have NEQ1_124 := Nn BQ1 hgx; have NEP4_124 := Nn BP4 hgx; have NEQ4_124 := Nn BQ4 hgx; have NEP7_124 := Nn BP7 hgx; have NEQ7_124 := Nn BQ7 hgx; have NE1_124 := Nn B1 hgx; have NE2_124 := Nn B2 hgx; have NE3_124 := Nn B3 hgx; have NE26_124 := Nn B26 hgx; have NE72_124 := Nn B72 hgx; have NE80_124 := Nn B80 hgx; have NE114_124 := Nn B114 hgx; have G124 := Gg HB hgx; replace H2 := As (H2.1.be hb); replace H3 := As (H3.1.be hb); replace H5 := As (H5.1.be hb); replace H6 := As (H6.1.be hb); replace H8 := As (H8.1.be hb); replace H9 := As (H9.1.be hb); replace H17 := As (H17.1.be hb); replace H18 := As (H18.1.be hb); replace H21 := As (H21.1.be hb); replace H22 := As (H22.1.be hb); replace H25 := As (H25.1.be hb); replace H27 := As (H27.1.be hb); replace H38 := As (H38.1.be hb); replace H39 := As (H39.1.be hb); replace H42 := As (H42.1.be hb); replace H44 := As (H44.1.be hb); replace H48 := As (H48.1.be hb); replace H49 := As (H49.1.be hb); replace H52 := As (H52.1.be hb); replace H54 := As (H54.1.be hb); replace BP1 := Bb BP1 hb; replace BQ1 := Bb BQ1 hb; replace BP4 := Bb BP4 hb; replace BQ4 := Bb BQ4 hb; replace BP7 := Bb BP7 hb; replace BQ7 := Bb BQ7 hb; replace B1 := Bb B1 hb; replace B2 := Bb B2 hb; replace B3 := Bb B3 hb; replace B26 := Bb B26 hb; replace B72 := Bb B72 hb; replace B80 := Bb B80 hb; replace B114 := Bb B114 hb; replace HB := Ob HB hb; clear hbx hb hgx) | ((with_reducible refine gate_dst (N := 123) rfl ?_); refine ev_row (by rfl) #[.int .u32 3] 52 1 ?hr ?_; (case hr => first | (go_simp; done) | (go_simp; rfl)); intro g123 hgx w53 hbx hb; have H54 := Aside0.mk (NA.ofRow1 (a := 3) hbx (by decide)); replace H2 := As (H2.1.be hb); replace H3 := As (H3.1.be hb); replace H5 := As (H5.1.be hb); replace H6 := As (H6.1.be hb); replace H8 := As (H8.1.be hb); replace H9 := As (H9.1.be hb); replace H17 := As (H17.1.be hb); replace H18 := As (H18.1.be hb); replace H21 := As (H21.1.be hb); replace H22 := As (H22.1.be hb); replace H25 := As (H25.1.be hb); replace H27 := As (H27.1.be hb); replace H38 := As (H38.1.be hb); replace H39 := As (H39.1.be hb); replace H42 := As (H42.1.be hb); replace H44 := As (H44.1.be hb); replace H48 := As (H48.1.be hb); replace H49 := As (H49.1.be hb); replace H52 := As (H52.1.be hb); replace BP1 := Bb BP1 hb; replace BQ1 := Bb BQ1 hb; replace BP4 := Bb BP4 hb; replace BQ4 := Bb BQ4 hb; replace BP7 := Bb BP7 hb; replace BQ7 := Bb BQ7 hb; replace B1 := Bb B1 hb; replace B2 := Bb B2 hb; replace B3 := Bb B3 hb; replace B26 := Bb B26 hb; replace B72 := Bb B72 hb; replace B80 := Bb B80 hb; replace B114 := Bb B114 hb; replace HB := Ob HB hb; clear hbx hb hgx) | ((with_reducible refine gate_dst (N := 122) rfl ?_); refine ev_row (by rfl) #[.int .u32 1] 52 1 ?hr ?_; (case hr => first | (go_simp; done) | (go_simp; rfl)); intro g122 hgx w51 hbx hb; have H52 := Aside0.mk (NA.ofRow1 (a := 1) hbx (by decide)); replace H2 := As (H2.1.be hb); replace H3 := As (H3.1.be hb); replace H5 := As (H5.1.be hb); replace H6 := As (H6.1.be hb); replace H8 := As (H8.1.be hb); replace H9 := As (H9.1.be hb); replace H17 := As (H17.1.be hb); replace H18 := As (H18.1.be hb); replace H21 := As (H21.1.be hb); replace H22 := As (H22.1.be hb); replace H25 := As (H25.1.be hb); replace H27 := As (H27.1.be hb); replace H38 := As (H38.1.be hb); replace H39 := As (H39.1.be hb); replace H42 := As (H42.1.be hb); replace H44 := As (H44.1.be hb); replace H48 := As (H48.1.be hb); replace H49 := As (H49.1.be hb); replace BP1 := Bb BP1 hb; replace BQ1 := Bb BQ1 hb; replace BP4 := Bb BP4 hb; replace BQ4 := Bb BQ4 hb; replace BP7 := Bb BP7 hb; replace BQ7 := Bb BQ7 hb; replace B1 := Bb B1 hb; replace B2 := Bb B2 hb; replace B3 := Bb B3 hb; replace B26 := Bb B26 hb; replace B72 := Bb B72 hb; replace B80 := Bb B80 hb; replace B114 := Bb B114 hb; replace HB := Ob HB hb; clear hbx hb hgx) | ((with_reducible refine gate_dst (N := 121) rfl ?_); refine wpList_load_row (by rfl) 36 (.tmp 3) (by rfl) g3 (by rfl) 36 #[.int .i64 2, .slice none 0 0, .slice (some ⟨gP7, 0, none⟩) 2 2, .slice (some ⟨gQ7, 0, none⟩) 2 2, .slice none 0 0, .int .i64 1, .bool false, .slice none 0 0, .slice none 0 0, .int .i64 1, .bool false, .slice A47 1 1, .slice D47 1 1, .int .i64 1, .bool false, .slice A7 1 1, .slice D7 1 1, .int .i64 0] (0, 0) _ B3.out Tryz.underlying36 rfl (by kernel_rfl) ?_) | ((with_reducible refine gate_store (t := 34) (p := 119) rfl ?_); refine store_event (t := 34) (p := 119) (v := ?vo5) (w1 := (((w47.setCell ⟨g3, 10, none⟩ (.bool false)).setCell ⟨g3, 11, none⟩ (.slice A47 1 1)).setCell ⟨g3, 12, none⟩ (.slice D47 1 1))) ?hg ?ho ?hn ?hr ?_; (case ho => rfl); (case hg => rfl); (case hn => rfl); (case hr => first | (go_simp; done) | (go_simp; rfl)); intro w50 hw; have ho : Only w47 w50 g3 := (by rw [hw]; exact Only.setg (Only.setg (Only.setg (Only.refl _ _) 10 _) 11 _) 12 _); have hB2 : w50.heap[g3]? = some (.cells #[.int .i64 2, .slice none 0 0, .slice (some ⟨gP7, 0, none⟩) 2 2, .slice (some ⟨gQ7, 0, none⟩) 2 2, .slice none 0 0, .int .i64 1, .bool false, .slice none 0 0, .slice none 0 0, .int .i64 1, .bool false, .slice A47 1 1, .slice D47 1 1, .int .i64 1, .bool false, .slice A7 1 1, .slice D7 1 1, .int .i64 0] 36 (0, 0)) := (by rw [hw]; exact (blk_put (blk_put (blk_put B3.out 10 _ rfl) 11 _ rfl) 12 _ rfl)); replace H2 := As (H2.1.only ho B3.1 nl18); replace H3 := As (H3.1.only ho B3.1 nl18); replace H5 := As (H5.1.only ho B3.1 nl18); replace H6 := As (H6.1.only ho B3.1 nl18); replace H8 := As (H8.1.only ho B3.1 nl18); replace H9 := As (H9.1.only ho B3.1 nl18); replace H17 := As (H17.1.only ho B3.1 nl18); replace H18 := As (H18.1.only ho B3.1 nl18); replace H21 := As (H21.1.only ho B3.1 nl18); replace H22 := As (H22.1.only ho B3.1 nl18); replace H25 := As (H25.1.only ho B3.1 nl18); replace H27 := As (H27.1.only ho B3.1 nl18); replace H38 := As (H38.1.only ho B3.1 nl18); replace H39 := As (H39.1.only ho B3.1 nl18); replace H42 := As (H42.1.only ho B3.1 nl18); replace H44 := As (H44.1.only ho B3.1 nl18); replace H48 := As (H48.1.only ho B3.1 nl18); replace H49 := As (H49.1.only ho B3.1 nl18); replace BP1 := Oo BP1 ho NEP1_3; replace BQ1 := Oo BQ1 ho NEQ1_3; replace BP4 := Oo BP4 ho NEP4_3; replace BQ4 := Oo BQ4 ho NEQ4_3; replace BP7 := Oo BP7 ho NEP7_3; replace BQ7 := Oo BQ7 ho NEQ7_3; replace B1 := Oo B1 ho NE1_3; replace B2 := Oo B2 ho NE2_3; replace B26 := Ou B26 ho NE3_26; replace B72 := Ou B72 ho NE3_72; replace B80 := Ou B80 ho NE3_80; replace B114 := Ou B114 ho NE3_114; replace HB := Lo HB ho G3; replace B3 := As hB2; clear hw ho hB2) | (go_at_call 33; (with_reducible refine (law_part2.run 4 5 4 5 _ (by decide) (by decide) (by decide) (by decide)).mono ?_); rintro e w47 ⟨A47, D47, rfl, hq47, hr47, hb⟩; have H48 := Aside0.mk hq47; have H49 := Aside0.mk hr47; clear hq47 hr47; replace H2 := As (H2.1.be hb); replace H3 := As (H3.1.be hb); replace H5 := As (H5.1.be hb); replace H6 := As (H6.1.be hb); replace H8 := As (H8.1.be hb); replace H9 := As (H9.1.be hb); replace H17 := As (H17.1.be hb); replace H18 := As (H18.1.be hb); replace H21 := As (H21.1.be hb); replace H22 := As (H22.1.be hb); replace H25 := As (H25.1.be hb); replace H27 := As (H27.1.be hb); replace H38 := As (H38.1.be hb); replace H39 := As (H39.1.be hb); replace H42 := As (H42.1.be hb); replace H44 := As (H44.1.be hb); replace BP1 := Bb BP1 hb; replace BQ1 := Bb BQ1 hb; replace BP4 := Bb BP4 hb; replace BQ4 := Bb BQ4 hb; replace BP7 := Bb BP7 hb; replace BQ7 := Bb BQ7 hb; replace B1 := Bb B1 hb; replace B2 := Bb B2 hb; replace B3 := Bb B3 hb; replace B26 := Bb B26 hb; replace B72 := Bb B72 hb; replace B80 := Bb B80 hb; replace B114 := Bb B114 hb; replace HB := Ob HB hb; clear hb; (try clear cb3_10); have cb3_10 := Cl10 B3; (try clear fb3_10); have fb3_10 := Fz B3 10; (try clear cb3_11); have cb3_11 := Cl11 B3; (try clear fb3_11); have fb3_11 := Fz B3 11; (try clear cb3_12); have cb3_12 := Cl12 B3; (try clear fb3_12); have fb3_12 := Fz B3 12) | (go_at_call 14; (with_reducible refine (aw_decided 2 1 gP7 gQ7 none 0 none 0 0 0 A37 1 D37 1 3 4 A7 D7 (some ⟨g114, 0, none⟩) 1 3 (rowW2 B114.out H42.out.na H44.out.na) true 0 (by kernel_rfl) (aw_ok 2 1 gP7 gQ7 none 0 none 0 0 0 A37 1 D37 1 3 4 A7 D7 BP7.out BQ7.out (NC.nil _ 1).na (NC.nil _ 1).na H38.out.na H39.out.na H8.out.na H9.out.na)).mono ?_); rintro e w46 ⟨rfl, hb⟩; replace H2 := As (H2.1.be hb); replace H3 := As (H3.1.be hb); replace H5 := As (H5.1.be hb); replace H6 := As (H6.1.be hb); replace H8 := As (H8.1.be hb); replace H9 := As (H9.1.be hb); replace H17 := As (H17.1.be hb); replace H18 := As (H18.1.be hb); replace H21 := As (H21.1.be hb); replace H22 := As (H22.1.be hb); replace H25 := As (H25.1.be hb); replace H27 := As (H27.1.be hb); replace H38 := As (H38.1.be hb); replace H39 := As (H39.1.be hb); replace H42 := As (H42.1.be hb); replace H44 := As (H44.1.be hb); replace BP1 := Bb BP1 hb; replace BQ1 := Bb BQ1 hb; replace BP4 := Bb BP4 hb; replace BQ4 := Bb BQ4 hb; replace BP7 := Bb BP7 hb; replace BQ7 := Bb BQ7 hb; replace B1 := Bb B1 hb; replace B2 := Bb B2 hb; replace B3 := Bb B3 hb; replace B26 := Bb B26 hb; replace B72 := Bb B72 hb; replace B80 := Bb B80 hb; replace B114 := Bb B114 hb; replace HB := Ob HB hb; clear hb) | ((with_reducible refine gate_dst (N := 114) rfl ?_); refine ev_row (by rfl) #[.slice (some ⟨g112, 0, none⟩) 1 1, .slice (some ⟨g113, 0, none⟩) 1 1] 30 2 ?hr ?_; (case hr => first | (go_simp; done) | (go_simp; rfl)); intro g114 hgx w45 hbx hb; have B114 := Aside0.mk hbx; have NEP1_114 := Nn BP1 hgx; have NEQ1_114 := Nn BQ1 hgx; have NEP4_114 := Nn BP4 hgx; have NEQ4_114 := Nn BQ4 hgx; have NEP7_114 := Nn BP7 hgx; have NEQ7_114 := Nn BQ7 hgx; have NE1_114 := Nn B1 hgx; have NE2_114 := Nn B2 hgx; have NE3_114 := Nn B3 hgx; have NE26_114 := Nn B26 hgx; have NE72_114 := Nn B72 hgx; have NE80_114 := Nn B80 hgx; have G114 := Gg HB hgx; replace H2 := As (H2.1.be hb); replace H3 := As (H3.1.be hb); replace H5 := As (H5.1.be hb); replace H6 := As (H6.1.be hb); replace H8 := As (H8.1.be hb); replace H9 := As (H9.1.be hb); replace H17 := As (H17.1.be hb); replace H18 := As (H18.1.be hb); replace H21 := As (H21.1.be hb); replace H22 := As (H22.1.be hb); replace H25 := As (H25.1.be hb); replace H27 := As (H27.1.be hb); replace H38 := As (H38.1.be hb); replace H39 := As (H39.1.be hb); replace H42 := As (H42.1.be hb); replace H44 := As (H44.1.be hb); replace BP1 := Bb BP1 hb; replace BQ1 := Bb BQ1 hb; replace BP4 := Bb BP4 hb; replace BQ4 := Bb BQ4 hb; replace BP7 := Bb BP7 hb; replace BQ7 := Bb BQ7 hb; replace B1 := Bb B1 hb; replace B2 := Bb B2 hb; replace B3 := Bb B3 hb; replace B26 := Bb B26 hb; replace B72 := Bb B72 hb; replace B80 := Bb B80 hb; replace HB := Ob HB hb; clear hbx hb hgx) | ((with_reducible refine gate_dst (N := 113) rfl ?_); refine ev_row (by rfl) #[.int .u32 3] 52 1 ?hr ?_; (case hr => first | (go_simp; done) | (go_simp; rfl)); intro g113 hgx w43 hbx hb; have H44 := Aside0.mk (NA.ofRow1 (a := 3) hbx (by decide)); replace H2 := As (H2.1.be hb); replace H3 := As (H3.1.be hb); replace H5 := As (H5.1.be hb); replace H6 := As (H6.1.be hb); replace H8 := As (H8.1.be hb); replace H9 := As (H9.1.be hb); replace H17 := As (H17.1.be hb); replace H18 := As (H18.1.be hb); replace H21 := As (H21.1.be hb); replace H22 := As (H22.1.be hb); replace H25 := As (H25.1.be hb); replace H27 := As (H27.1.be hb); replace H38 := As (H38.1.be hb); replace H39 := As (H39.1.be hb); replace H42 := As (H42.1.be hb); replace BP1 := Bb BP1 hb; replace BQ1 := Bb BQ1 hb; replace BP4 := Bb BP4 hb; replace BQ4 := Bb BQ4 hb; replace BP7 := Bb BP7 hb; replace BQ7 := Bb BQ7 hb; replace B1 := Bb B1 hb; replace B2 := Bb B2 hb; replace B3 := Bb B3 hb; replace B26 := Bb B26 hb; replace B72 := Bb B72 hb; replace B80 := Bb B80 hb; replace HB := Ob HB hb; clear hbx hb hgx) | ((with_reducible refine gate_dst (N := 112) rfl ?_); refine ev_row (by rfl) #[.int .u32 1] 52 1 ?hr ?_; (case hr => first | (go_simp; done) | (go_simp; rfl)); intro g112 hgx w41 hbx hb; have H42 := Aside0.mk (NA.ofRow1 (a := 1) hbx (by decide)); replace H2 := As (H2.1.be hb); replace H3 := As (H3.1.be hb); replace H5 := As (H5.1.be hb); replace H6 := As (H6.1.be hb); replace H8 := As (H8.1.be hb); replace H9 := As (H9.1.be hb); replace H17 := As (H17.1.be hb); replace H18 := As (H18.1.be hb); replace H21 := As (H21.1.be hb); replace H22 := As (H22.1.be hb); replace H25 := As (H25.1.be hb); replace H27 := As (H27.1.be hb); replace H38 := As (H38.1.be hb); replace H39 := As (H39.1.be hb); replace BP1 := Bb BP1 hb; replace BQ1 := Bb BQ1 hb; replace BP4 := Bb BP4 hb; replace BQ4 := Bb BQ4 hb; replace BP7 := Bb BP7 hb; replace BQ7 := Bb BQ7 hb; replace B1 := Bb B1 hb; replace B2 := Bb B2 hb; replace B3 := Bb B3 hb; replace B26 := Bb B26 hb; replace B72 := Bb B72 hb; replace B80 := Bb B80 hb; replace HB := Ob HB hb; clear hbx hb hgx) | ((with_reducible refine gate_dst (N := 111) rfl ?_); refine wpList_load_row (by rfl) 36 (.tmp 3) (by rfl) g3 (by rfl) 36 #[.int .i64 2, .slice none 0 0, .slice (some ⟨gP7, 0, none⟩) 2 2, .slice (some ⟨gQ7, 0, none⟩) 2 2, .slice none 0 0, .int .i64 1, .bool false, .slice none 0 0, .slice none 0 0, .int .i64 1, .bool false, .slice A37 1 1, .slice D37 1 1, .int .i64 1, .bool false, .slice A7 1 1, .slice D7 1 1, .int .i64 0] (0, 0) _ B3.out Tryz.underlying36 rfl (by kernel_rfl) ?_) | ((with_reducible refine gate_store (t := 34) (p := 109) rfl ?_); refine store_event (t := 34) (p := 109) (v := ?vo4) (w1 := (((w37.setCell ⟨g3, 10, none⟩ (.bool false)).setCell ⟨g3, 11, none⟩ (.slice A37 1 1)).setCell ⟨g3, 12, none⟩ (.slice D37 1 1))) ?hg ?ho ?hn ?hr ?_; (case ho => rfl); (case hg => rfl); (case hn => rfl); (case hr => first | (go_simp; done) | (go_simp; rfl)); intro w40 hw; have ho : Only w37 w40 g3 := (by rw [hw]; exact Only.setg (Only.setg (Only.setg (Only.refl _ _) 10 _) 11 _) 12 _); have hB2 : w40.heap[g3]? = some (.cells #[.int .i64 2, .slice none 0 0, .slice (some ⟨gP7, 0, none⟩) 2 2, .slice (some ⟨gQ7, 0, none⟩) 2 2, .slice none 0 0, .int .i64 1, .bool false, .slice none 0 0, .slice none 0 0, .int .i64 1, .bool false, .slice A37 1 1, .slice D37 1 1, .int .i64 1, .bool false, .slice A7 1 1, .slice D7 1 1, .int .i64 0] 36 (0, 0)) := (by rw [hw]; exact (blk_put (blk_put (blk_put B3.out 10 _ rfl) 11 _ rfl) 12 _ rfl)); replace H2 := As (H2.1.only ho B3.1 nl18); replace H3 := As (H3.1.only ho B3.1 nl18); replace H5 := As (H5.1.only ho B3.1 nl18); replace H6 := As (H6.1.only ho B3.1 nl18); replace H8 := As (H8.1.only ho B3.1 nl18); replace H9 := As (H9.1.only ho B3.1 nl18); replace H17 := As (H17.1.only ho B3.1 nl18); replace H18 := As (H18.1.only ho B3.1 nl18); replace H21 := As (H21.1.only ho B3.1 nl18); replace H22 := As (H22.1.only ho B3.1 nl18); replace H25 := As (H25.1.only ho B3.1 nl18); replace H27 := As (H27.1.only ho B3.1 nl18); replace H38 := As (H38.1.only ho B3.1 nl18); replace H39 := As (H39.1.only ho B3.1 nl18); replace BP1 := Oo BP1 ho NEP1_3; replace BQ1 := Oo BQ1 ho NEQ1_3; replace BP4 := Oo BP4 ho NEP4_3; replace BQ4 := Oo BQ4 ho NEQ4_3; replace BP7 := Oo BP7 ho NEP7_3; replace BQ7 := Oo BQ7 ho NEQ7_3; replace B1 := Oo B1 ho NE1_3; replace B2 := Oo B2 ho NE2_3; replace B26 := Ou B26 ho NE3_26; replace B72 := Ou B72 ho NE3_72; replace B80 := Ou B80 ho NE3_80; replace HB := Lo HB ho G3; replace B3 := As hB2; clear hw ho hB2) | (go_at_call 33; (with_reducible refine (law_part2.run 3 4 3 4 _ (by decide) (by decide) (by decide) (by decide)).mono ?_); rintro e w37 ⟨A37, D37, rfl, hq37, hr37, hb⟩; have H38 := Aside0.mk hq37; have H39 := Aside0.mk hr37; clear hq37 hr37; replace H2 := As (H2.1.be hb); replace H3 := As (H3.1.be hb); replace H5 := As (H5.1.be hb); replace H6 := As (H6.1.be hb); replace H8 := As (H8.1.be hb); replace H9 := As (H9.1.be hb); replace H17 := As (H17.1.be hb); replace H18 := As (H18.1.be hb); replace H21 := As (H21.1.be hb); replace H22 := As (H22.1.be hb); replace H25 := As (H25.1.be hb); replace H27 := As (H27.1.be hb); replace BP1 := Bb BP1 hb; replace BQ1 := Bb BQ1 hb; replace BP4 := Bb BP4 hb; replace BQ4 := Bb BQ4 hb; replace BP7 := Bb BP7 hb; replace BQ7 := Bb BQ7 hb; replace B1 := Bb B1 hb; replace B2 := Bb B2 hb; replace B3 := Bb B3 hb; replace B26 := Bb B26 hb; replace B72 := Bb B72 hb; replace B80 := Bb B80 hb; replace HB := Ob HB hb; clear hb; (try clear cb3_10); have cb3_10 := Cl10 B3; (try clear fb3_10); have fb3_10 := Fz B3 10; (try clear cb3_11); have cb3_11 := Cl11 B3; (try clear fb3_11); have fb3_11 := Fz B3 11; (try clear cb3_12); have cb3_12 := Cl12 B3; (try clear fb3_12); have fb3_12 := Fz B3 12) | ((with_reducible refine gate_store (t := 3) (p := 107) rfl ?_); refine store_event (t := 3) (p := 107) (v := ?vo3) (w1 := (w35.setCell ⟨g3, 9, none⟩ (.int .i64 1))) ?hg ?ho ?hn ?hr ?_; (case ho => rfl); (case hg => rfl); (case hn => rfl); (case hr => first | (go_simp; done) | (go_simp; rfl)); intro w36 hw; have ho : Only w35 w36 g3 := (by rw [hw]; exact Only.setg (Only.refl _ _) 9 _); have hB2 : w36.heap[g3]? = some (.cells #[.int .i64 2, .slice none 0 0, .slice (some ⟨gP7, 0, none⟩) 2 2, .slice (some ⟨gQ7, 0, none⟩) 2 2, .slice none 0 0, .int .i64 1, .bool false, .slice none 0 0, .slice none 0 0, .int .i64 1, .bool false, .slice none 0 0, .slice none 0 0, .int .i64 1, .bool false, .slice A7 1 1, .slice D7 1 1, .int .i64 0] 36 (0, 0)) := (by rw [hw]; exact (blk_put B3.out 9 _ rfl)); replace H2 := As (H2.1.only ho B3.1 nl18); replace H3 := As (H3.1.only ho B3.1 nl18); replace H5 := As (H5.1.only ho B3.1 nl18); replace H6 := As (H6.1.only ho B3.1 nl18); replace H8 := As (H8.1.only ho B3.1 nl18); replace H9 := As (H9.1.only ho B3.1 nl18); replace H17 := As (H17.1.only ho B3.1 nl18); replace H18 := As (H18.1.only ho B3.1 nl18); replace H21 := As (H21.1.only ho B3.1 nl18); replace H22 := As (H22.1.only ho B3.1 nl18); replace H25 := As (H25.1.only ho B3.1 nl18); replace H27 := As (H27.1.only ho B3.1 nl18); replace BP1 := Oo BP1 ho NEP1_3; replace BQ1 := Oo BQ1 ho NEQ1_3; replace BP4 := Oo BP4 ho NEP4_3; replace BQ4 := Oo BQ4 ho NEQ4_3; replace BP7 := Oo BP7 ho NEP7_3; replace BQ7 := Oo BQ7 ho NEQ7_3; replace B1 := Oo B1 ho NE1_3; replace B2 := Oo B2 ho NE2_3; replace B26 := Ou B26 ho NE3_26; replace B72 := Ou B72 ho NE3_72; replace B80 := Ou B80 ho NE3_80; replace HB := Lo HB ho G3; replace B3 := As hB2; clear hw ho hB2) | (go_at_call 16; (with_reducible refine (aw_first 2 0 gP7 gQ7 none 0 none 0 0 0 none 0 none 0 0 0 A7 D7 (some ⟨g80, 0, none⟩) 1 1 1 (by decide) (rowWW (n := 1) (k := 2) B80.out rfl rfl (by decide) (by decide) (rowW2 B26.out H25.out.na H27.out.na)) 0 0 0 (by kernel_rfl) (aw_ok 2 0 gP7 gQ7 none 0 none 0 0 0 none 0 none 0 0 0 A7 D7 BP7.out BQ7.out (NC.nil _ 1).na (NC.nil _ 1).na (NC.nil _ 1).na (NC.nil _ 1).na H8.out.na H9.out.na)).mono ?_); rintro e w35 ⟨rfl, hb⟩; replace H2 := As (H2.1.be hb); replace H3 := As (H3.1.be hb); replace H5 := As (H5.1.be hb); replace H6 := As (H6.1.be hb); replace H8 := As (H8.1.be hb); replace H9 := As (H9.1.be hb); replace H17 := As (H17.1.be hb); replace H18 := As (H18.1.be hb); replace H21 := As (H21.1.be hb); replace H22 := As (H22.1.be hb); replace H25 := As (H25.1.be hb); replace H27 := As (H27.1.be hb); replace BP1 := Bb BP1 hb; replace BQ1 := Bb BQ1 hb; replace BP4 := Bb BP4 hb; replace BQ4 := Bb BQ4 hb; replace BP7 := Bb BP7 hb; replace BQ7 := Bb BQ7 hb; replace B1 := Bb B1 hb; replace B2 := Bb B2 hb; replace B3 := Bb B3 hb; replace B26 := Bb B26 hb; replace B72 := Bb B72 hb; replace B80 := Bb B80 hb; replace HB := Ob HB hb; clear hb; (try clear cb3_9); have cb3_9 := Cl9 B3; (try clear fb3_9); have fb3_9 := Fz B3 9) | ((with_reducible refine gate_dst (N := 80) rfl ?_); refine ev_row (by rfl) #[.slice (some ⟨g26, 0, none⟩) 2 2] 41 1 ?hr ?_; (case hr => first | (go_simp; done) | (go_simp; rfl)); intro g80 hgx w34 hbx hb; have B80 := Aside0.mk hbx; have NEP1_80 := Nn BP1 hgx; have NEQ1_80 := Nn BQ1 hgx; have NEP4_80 := Nn BP4 hgx; have NEQ4_80 := Nn BQ4 hgx; have NEP7_80 := Nn BP7 hgx; have NEQ7_80 := Nn BQ7 hgx; have NE1_80 := Nn B1 hgx; have NE2_80 := Nn B2 hgx; have NE3_80 := Nn B3 hgx; have NE26_80 := Nn B26 hgx; have NE72_80 := Nn B72 hgx; have G80 := Gg HB hgx; replace H2 := As (H2.1.be hb); replace H3 := As (H3.1.be hb); replace H5 := As (H5.1.be hb); replace H6 := As (H6.1.be hb); replace H8 := As (H8.1.be hb); replace H9 := As (H9.1.be hb); replace H17 := As (H17.1.be hb); replace H18 := As (H18.1.be hb); replace H21 := As (H21.1.be hb); replace H22 := As (H22.1.be hb); replace H25 := As (H25.1.be hb); replace H27 := As (H27.1.be hb); replace BP1 := Bb BP1 hb; replace BQ1 := Bb BQ1 hb; replace BP4 := Bb BP4 hb; replace BQ4 := Bb BQ4 hb; replace BP7 := Bb BP7 hb; replace BQ7 := Bb BQ7 hb; replace B1 := Bb B1 hb; replace B2 := Bb B2 hb; replace B3 := Bb B3 hb; replace B26 := Bb B26 hb; replace B72 := Bb B72 hb; replace HB := Ob HB hb; clear hbx hb hgx) | ((with_reducible refine gate_dst (N := 78) rfl ?_); refine wpList_load_row (by rfl) 36 (.tmp 3) (by rfl) g3 (by rfl) 36 #[.int .i64 2, .slice none 0 0, .slice (some ⟨gP7, 0, none⟩) 2 2, .slice (some ⟨gQ7, 0, none⟩) 2 2, .slice none 0 0, .int .i64 1, .bool false, .slice none 0 0, .slice none 0 0, .int .i64 0, .bool false, .slice none 0 0, .slice none 0 0, .int .i64 1, .bool false, .slice A7 1 1, .slice D7 1 1, .int .i64 0] (0, 0) _ B3.out Tryz.underlying36 rfl (by kernel_rfl) ?_) | (go_at_call 16; (with_reducible refine (aw_first 2 0 gP7 gQ7 none 0 none 0 0 0 none 0 none 0 0 0 A7 D7 (some ⟨g72, 0, none⟩) 3 1 1 (by decide) (rowWW (n := 3) (k := 2) B72.out rfl rfl (by decide) (by decide) (rowW2 B26.out H25.out.na H27.out.na)) 2 1 0 (by kernel_rfl) (aw_ok 2 0 gP7 gQ7 none 0 none 0 0 0 none 0 none 0 0 0 A7 D7 BP7.out BQ7.out (NC.nil _ 1).na (NC.nil _ 1).na (NC.nil _ 1).na (NC.nil _ 1).na H8.out.na H9.out.na)).mono ?_); rintro e w33 ⟨rfl, hb⟩; replace H2 := As (H2.1.be hb); replace H3 := As (H3.1.be hb); replace H5 := As (H5.1.be hb); replace H6 := As (H6.1.be hb); replace H8 := As (H8.1.be hb); replace H9 := As (H9.1.be hb); replace H17 := As (H17.1.be hb); replace H18 := As (H18.1.be hb); replace H21 := As (H21.1.be hb); replace H22 := As (H22.1.be hb); replace H25 := As (H25.1.be hb); replace H27 := As (H27.1.be hb); replace BP1 := Bb BP1 hb; replace BQ1 := Bb BQ1 hb; replace BP4 := Bb BP4 hb; replace BQ4 := Bb BQ4 hb; replace BP7 := Bb BP7 hb; replace BQ7 := Bb BQ7 hb; replace B1 := Bb B1 hb; replace B2 := Bb B2 hb; replace B3 := Bb B3 hb; replace B26 := Bb B26 hb; replace B72 := Bb B72 hb; replace HB := Ob HB hb; clear hb) | ((with_reducible refine gate_dst (N := 72) rfl ?_); refine ev_row (by rfl) #[.slice (some ⟨g26, 0, none⟩) 2 2, .slice (some ⟨g26, 0, none⟩) 2 2, .slice (some ⟨g26, 0, none⟩) 2 2] 41 3 ?hr ?_; (case hr => first | (go_simp; done) | (go_simp; rfl)); intro g72 hgx w32 hbx hb; have B72 := Aside0.mk hbx; have NEP1_72 := Nn BP1 hgx; have NEQ1_72 := Nn BQ1 hgx; have NEP4_72 := Nn BP4 hgx; have NEQ4_72 := Nn BQ4 hgx; have NEP7_72 := Nn BP7 hgx; have NEQ7_72 := Nn BQ7 hgx; have NE1_72 := Nn B1 hgx; have NE2_72 := Nn B2 hgx; have NE3_72 := Nn B3 hgx; have NE26_72 := Nn B26 hgx; have G72 := Gg HB hgx; replace H2 := As (H2.1.be hb); replace H3 := As (H3.1.be hb); replace H5 := As (H5.1.be hb); replace H6 := As (H6.1.be hb); replace H8 := As (H8.1.be hb); replace H9 := As (H9.1.be hb); replace H17 := As (H17.1.be hb); replace H18 := As (H18.1.be hb); replace H21 := As (H21.1.be hb); replace H22 := As (H22.1.be hb); replace H25 := As (H25.1.be hb); replace H27 := As (H27.1.be hb); replace BP1 := Bb BP1 hb; replace BQ1 := Bb BQ1 hb; replace BP4 := Bb BP4 hb; replace BQ4 := Bb BQ4 hb; replace BP7 := Bb BP7 hb; replace BQ7 := Bb BQ7 hb; replace B1 := Bb B1 hb; replace B2 := Bb B2 hb; replace B3 := Bb B3 hb; replace B26 := Bb B26 hb; replace HB := Ob HB hb; clear hbx hb hgx) | ((with_reducible refine gate_dst (N := 68) rfl ?_); refine wpList_load_row (by rfl) 36 (.tmp 3) (by rfl) g3 (by rfl) 36 #[.int .i64 2, .slice none 0 0, .slice (some ⟨gP7, 0, none⟩) 2 2, .slice (some ⟨gQ7, 0, none⟩) 2 2, .slice none 0 0, .int .i64 1, .bool false, .slice none 0 0, .slice none 0 0, .int .i64 0, .bool false, .slice none 0 0, .slice none 0 0, .int .i64 1, .bool false, .slice A7 1 1, .slice D7 1 1, .int .i64 0] (0, 0) _ B3.out Tryz.underlying36 rfl (by kernel_rfl) ?_) | (go_at_call 12; (with_reducible refine (aw_reason 5 0 gP4 gQ4 A20 1 D20 1 2499 1 none 0 none 0 0 0 A4 D4 5 (some ⟨g26, 0, none⟩) 1 1 (rowW2 B26.out H25.out.na H27.out.na) 1 0 (by kernel_rfl) (aw_ok 5 0 gP4 gQ4 A20 1 D20 1 2499 1 none 0 none 0 0 0 A4 D4 BP4.out BQ4.out H21.out.na H22.out.na (NC.nil _ 1).na (NC.nil _ 1).na H5.out.na H6.out.na)).mono ?_); rintro e w31 ⟨rfl, hb⟩; replace H2 := As (H2.1.be hb); replace H3 := As (H3.1.be hb); replace H5 := As (H5.1.be hb); replace H6 := As (H6.1.be hb); replace H8 := As (H8.1.be hb); replace H9 := As (H9.1.be hb); replace H17 := As (H17.1.be hb); replace H18 := As (H18.1.be hb); replace H21 := As (H21.1.be hb); replace H22 := As (H22.1.be hb); replace H25 := As (H25.1.be hb); replace H27 := As (H27.1.be hb); replace BP1 := Bb BP1 hb; replace BQ1 := Bb BQ1 hb; replace BP4 := Bb BP4 hb; replace BQ4 := Bb BQ4 hb; replace BP7 := Bb BP7 hb; replace BQ7 := Bb BQ7 hb; replace B1 := Bb B1 hb; replace B2 := Bb B2 hb; replace B3 := Bb B3 hb; replace B26 := Bb B26 hb; replace HB := Ob HB hb; clear hb) | ((with_reducible refine gate_dst (N := 40) rfl ?_); refine wpList_load_row (by rfl) 36 (.tmp 2) (by rfl) g2 (by rfl) 36 #[.int .i64 5, .slice none 0 0, .slice (some ⟨gP4, 0, none⟩) 2 2, .slice (some ⟨gQ4, 0, none⟩) 2 2, .slice none 0 0, .int .i64 1, .bool false, .slice A20 1 1, .slice D20 1 1, .int .i64 0, .bool false, .slice none 0 0, .slice none 0 0, .int .i64 1, .bool false, .slice A4 1 1, .slice D4 1 1, .int .i64 0] (0, 0) _ B2.out Tryz.underlying36 rfl (by kernel_rfl) ?_) | (go_at_call 12; (with_reducible refine (aw_reason 5 0 gP4 gQ4 A20 1 D20 1 2499 1 none 0 none 0 0 0 A4 D4 1 (some ⟨g26, 0, none⟩) 1 1 (rowW2 B26.out H25.out.na H27.out.na) 0 0 (by kernel_rfl) (aw_ok 5 0 gP4 gQ4 A20 1 D20 1 2499 1 none 0 none 0 0 0 A4 D4 BP4.out BQ4.out H21.out.na H22.out.na (NC.nil _ 1).na (NC.nil _ 1).na H5.out.na H6.out.na)).mono ?_); rintro e w30 ⟨rfl, hb⟩; replace H2 := As (H2.1.be hb); replace H3 := As (H3.1.be hb); replace H5 := As (H5.1.be hb); replace H6 := As (H6.1.be hb); replace H8 := As (H8.1.be hb); replace H9 := As (H9.1.be hb); replace H17 := As (H17.1.be hb); replace H18 := As (H18.1.be hb); replace H21 := As (H21.1.be hb); replace H22 := As (H22.1.be hb); replace H25 := As (H25.1.be hb); replace H27 := As (H27.1.be hb); replace BP1 := Bb BP1 hb; replace BQ1 := Bb BQ1 hb; replace BP4 := Bb BP4 hb; replace BQ4 := Bb BQ4 hb; replace BP7 := Bb BP7 hb; replace BQ7 := Bb BQ7 hb; replace B1 := Bb B1 hb; replace B2 := Bb B2 hb; replace B3 := Bb B3 hb; replace B26 := Bb B26 hb; replace HB := Ob HB hb; clear hb) | ((with_reducible refine gate_dst (N := 34) rfl ?_); refine wpList_load_row (by rfl) 36 (.tmp 2) (by rfl) g2 (by rfl) 36 #[.int .i64 5, .slice none 0 0, .slice (some ⟨gP4, 0, none⟩) 2 2, .slice (some ⟨gQ4, 0, none⟩) 2 2, .slice none 0 0, .int .i64 1, .bool false, .slice A20 1 1, .slice D20 1 1, .int .i64 0, .bool false, .slice none 0 0, .slice none 0 0, .int .i64 1, .bool false, .slice A4 1 1, .slice D4 1 1, .int .i64 0] (0, 0) _ B2.out Tryz.underlying36 rfl (by kernel_rfl) ?_) | (go_at_call 12; (with_reducible refine (aw_reason 5 0 gP1 gQ1 A16 1 D16 1 2500 1 none 0 none 0 0 0 A1 D1 1 (some ⟨g26, 0, none⟩) 1 1 (rowW2 B26.out H25.out.na H27.out.na) 2 0 (by kernel_rfl) (aw_ok 5 0 gP1 gQ1 A16 1 D16 1 2500 1 none 0 none 0 0 0 A1 D1 BP1.out BQ1.out H17.out.na H18.out.na (NC.nil _ 1).na (NC.nil _ 1).na H2.out.na H3.out.na)).mono ?_); rintro e w29 ⟨rfl, hb⟩; replace H2 := As (H2.1.be hb); replace H3 := As (H3.1.be hb); replace H5 := As (H5.1.be hb); replace H6 := As (H6.1.be hb); replace H8 := As (H8.1.be hb); replace H9 := As (H9.1.be hb); replace H17 := As (H17.1.be hb); replace H18 := As (H18.1.be hb); replace H21 := As (H21.1.be hb); replace H22 := As (H22.1.be hb); replace H25 := As (H25.1.be hb); replace H27 := As (H27.1.be hb); replace BP1 := Bb BP1 hb; replace BQ1 := Bb BQ1 hb; replace BP4 := Bb BP4 hb; replace BQ4 := Bb BQ4 hb; replace BP7 := Bb BP7 hb; replace BQ7 := Bb BQ7 hb; replace B1 := Bb B1 hb; replace B2 := Bb B2 hb; replace B3 := Bb B3 hb; replace B26 := Bb B26 hb; replace HB := Ob HB hb; clear hb) | ((with_reducible refine gate_dst (N := 28) rfl ?_); refine wpList_load_row (by rfl) 36 (.tmp 1) (by rfl) g1 (by rfl) 36 #[.int .i64 5, .slice none 0 0, .slice (some ⟨gP1, 0, none⟩) 2 2, .slice (some ⟨gQ1, 0, none⟩) 2 2, .slice none 0 0, .int .i64 1, .bool false, .slice A16 1 1, .slice D16 1 1, .int .i64 0, .bool false, .slice none 0 0, .slice none 0 0, .int .i64 1, .bool false, .slice A1 1 1, .slice D1 1 1, .int .i64 0] (0, 0) _ B1.out Tryz.underlying36 rfl (by kernel_rfl) ?_) | ((with_reducible refine gate_dst (N := 26) rfl ?_); refine ev_row (by rfl) #[.slice (some ⟨g24, 0, none⟩) 1 1, .slice (some ⟨g25, 0, none⟩) 1 1] 30 2 ?hr ?_; (case hr => first | (go_simp; done) | (go_simp; rfl)); intro g26 hgx w28 hbx hb; have B26 := Aside0.mk hbx; have NEP1_26 := Nn BP1 hgx; have NEQ1_26 := Nn BQ1 hgx; have NEP4_26 := Nn BP4 hgx; have NEQ4_26 := Nn BQ4 hgx; have NEP7_26 := Nn BP7 hgx; have NEQ7_26 := Nn BQ7 hgx; have NE1_26 := Nn B1 hgx; have NE2_26 := Nn B2 hgx; have NE3_26 := Nn B3 hgx; have G26 := Gg HB hgx; replace H2 := As (H2.1.be hb); replace H3 := As (H3.1.be hb); replace H5 := As (H5.1.be hb); replace H6 := As (H6.1.be hb); replace H8 := As (H8.1.be hb); replace H9 := As (H9.1.be hb); replace H17 := As (H17.1.be hb); replace H18 := As (H18.1.be hb); replace H21 := As (H21.1.be hb); replace H22 := As (H22.1.be hb); replace H25 := As (H25.1.be hb); replace H27 := As (H27.1.be hb); replace BP1 := Bb BP1 hb; replace BQ1 := Bb BQ1 hb; replace BP4 := Bb BP4 hb; replace BQ4 := Bb BQ4 hb; replace BP7 := Bb BP7 hb; replace BQ7 := Bb BQ7 hb; replace B1 := Bb B1 hb; replace B2 := Bb B2 hb; replace B3 := Bb B3 hb; replace HB := Ob HB hb; clear hbx hb hgx) | ((with_reducible refine gate_dst (N := 25) rfl ?_); refine ev_row (by rfl) #[.int .u32 1] 52 1 ?hr ?_; (case hr => first | (go_simp; done) | (go_simp; rfl)); intro g25 hgx w26 hbx hb; have H27 := Aside0.mk (NA.ofRow1 (a := 1) hbx (by decide)); replace H2 := As (H2.1.be hb); replace H3 := As (H3.1.be hb); replace H5 := As (H5.1.be hb); replace H6 := As (H6.1.be hb); replace H8 := As (H8.1.be hb); replace H9 := As (H9.1.be hb); replace H17 := As (H17.1.be hb); replace H18 := As (H18.1.be hb); replace H21 := As (H21.1.be hb); replace H22 := As (H22.1.be hb); replace H25 := As (H25.1.be hb); replace BP1 := Bb BP1 hb; replace BQ1 := Bb BQ1 hb; replace BP4 := Bb BP4 hb; replace BQ4 := Bb BQ4 hb; replace BP7 := Bb BP7 hb; replace BQ7 := Bb BQ7 hb; replace B1 := Bb B1 hb; replace B2 := Bb B2 hb; replace B3 := Bb B3 hb; replace HB := Ob HB hb; clear hbx hb hgx) | ((with_reducible refine gate_dst (N := 24) rfl ?_); refine ev_row (by rfl) #[.int .u32 1] 52 1 ?hr ?_; (case hr => first | (go_simp; done) | (go_simp; rfl)); intro g24 hgx w24 hbx hb; have H25 := Aside0.mk (NA.ofRow1 (a := 1) hbx (by decide)); replace H2 := As (H2.1.be hb); replace H3 := As (H3.1.be hb); replace H5 := As (H5.1.be hb); replace H6 := As (H6.1.be hb); replace H8 := As (H8.1.be hb); replace H9 := As (H9.1.be hb); replace H17 := As (H17.1.be hb); replace H18 := As (H18.1.be hb); replace H21 := As (H21.1.be hb); replace H22 := As (H22.1.be hb); replace BP1 := Bb BP1 hb; replace BQ1 := Bb BQ1 hb; replace BP4 := Bb BP4 hb; replace BQ4 := Bb BQ4 hb; replace BP7 := Bb BP7 hb; replace BQ7 := Bb BQ7 hb; replace B1 := Bb B1 hb; replace B2 := Bb B2 hb; replace B3 := Bb B3 hb; replace HB := Ob HB hb; clear hbx hb hgx) | ((with_reducible refine gate_store (t := 34) (p := 23) rfl ?_); refine store_event (t := 34) (p := 23) (v := ?vo2) (w1 := (((w20.setCell ⟨g2, 6, none⟩ (.bool false)).setCell ⟨g2, 7, none⟩ (.slice A20 1 1)).setCell ⟨g2, 8, none⟩ (.slice D20 1 1))) ?hg ?ho ?hn ?hr ?_; (case ho => rfl); (case hg => rfl); (case hn => rfl); (case hr => first | (go_simp; done) | (go_simp; rfl)); intro w23 hw; have ho : Only w20 w23 g2 := (by rw [hw]; exact Only.setg (Only.setg (Only.setg (Only.refl _ _) 6 _) 7 _) 8 _); have hB2 : w23.heap[g2]? = some (.cells #[.int .i64 5, .slice none 0 0, .slice (some ⟨gP4, 0, none⟩) 2 2, .slice (some ⟨gQ4, 0, none⟩) 2 2, .slice none 0 0, .int .i64 1, .bool false, .slice A20 1 1, .slice D20 1 1, .int .i64 0, .bool false, .slice none 0 0, .slice none 0 0, .int .i64 1, .bool false, .slice A4 1 1, .slice D4 1 1, .int .i64 0] 36 (0, 0)) := (by rw [hw]; exact (blk_put (blk_put (blk_put B2.out 6 _ rfl) 7 _ rfl) 8 _ rfl)); replace H2 := As (H2.1.only ho B2.1 nl18); replace H3 := As (H3.1.only ho B2.1 nl18); replace H5 := As (H5.1.only ho B2.1 nl18); replace H6 := As (H6.1.only ho B2.1 nl18); replace H8 := As (H8.1.only ho B2.1 nl18); replace H9 := As (H9.1.only ho B2.1 nl18); replace H17 := As (H17.1.only ho B2.1 nl18); replace H18 := As (H18.1.only ho B2.1 nl18); replace H21 := As (H21.1.only ho B2.1 nl18); replace H22 := As (H22.1.only ho B2.1 nl18); replace BP1 := Oo BP1 ho NEP1_2; replace BQ1 := Oo BQ1 ho NEQ1_2; replace BP4 := Oo BP4 ho NEP4_2; replace BQ4 := Oo BQ4 ho NEQ4_2; replace BP7 := Oo BP7 ho NEP7_2; replace BQ7 := Oo BQ7 ho NEQ7_2; replace B1 := Oo B1 ho NE1_2; replace B3 := Ou B3 ho NE2_3; replace HB := Lo HB ho G2; replace B2 := As hB2; clear hw ho hB2) | (go_at_call 33; (with_reducible refine (law_part2.run 2499 1 2499 1 _ (by decide) (by decide) (by decide) (by decide)).mono ?_); rintro e w20 ⟨A20, D20, rfl, hq20, hr20, hb⟩; have H21 := Aside0.mk hq20; have H22 := Aside0.mk hr20; clear hq20 hr20; replace H2 := As (H2.1.be hb); replace H3 := As (H3.1.be hb); replace H5 := As (H5.1.be hb); replace H6 := As (H6.1.be hb); replace H8 := As (H8.1.be hb); replace H9 := As (H9.1.be hb); replace H17 := As (H17.1.be hb); replace H18 := As (H18.1.be hb); replace BP1 := Bb BP1 hb; replace BQ1 := Bb BQ1 hb; replace BP4 := Bb BP4 hb; replace BQ4 := Bb BQ4 hb; replace BP7 := Bb BP7 hb; replace BQ7 := Bb BQ7 hb; replace B1 := Bb B1 hb; replace B2 := Bb B2 hb; replace B3 := Bb B3 hb; replace HB := Ob HB hb; clear hb; (try clear cb2_6); have cb2_6 := Cl6 B2; (try clear fb2_6); have fb2_6 := Fz B2 6; (try clear cb2_7); have cb2_7 := Cl7 B2; (try clear fb2_7); have fb2_7 := Fz B2 7; (try clear cb2_8); have cb2_8 := Cl8 B2; (try clear fb2_8); have fb2_8 := Fz B2 8) | ((with_reducible refine gate_store (t := 34) (p := 21) rfl ?_); refine store_event (t := 34) (p := 21) (v := ?vo1) (w1 := (((w16.setCell ⟨g1, 6, none⟩ (.bool false)).setCell ⟨g1, 7, none⟩ (.slice A16 1 1)).setCell ⟨g1, 8, none⟩ (.slice D16 1 1))) ?hg ?ho ?hn ?hr ?_; (case ho => rfl); (case hg => rfl); (case hn => rfl); (case hr => first | (go_simp; done) | (go_simp; rfl)); intro w19 hw; have ho : Only w16 w19 g1 := (by rw [hw]; exact Only.setg (Only.setg (Only.setg (Only.refl _ _) 6 _) 7 _) 8 _); have hB2 : w19.heap[g1]? = some (.cells #[.int .i64 5, .slice none 0 0, .slice (some ⟨gP1, 0, none⟩) 2 2, .slice (some ⟨gQ1, 0, none⟩) 2 2, .slice none 0 0, .int .i64 1, .bool false, .slice A16 1 1, .slice D16 1 1, .int .i64 0, .bool false, .slice none 0 0, .slice none 0 0, .int .i64 1, .bool false, .slice A1 1 1, .slice D1 1 1, .int .i64 0] 36 (0, 0)) := (by rw [hw]; exact (blk_put (blk_put (blk_put B1.out 6 _ rfl) 7 _ rfl) 8 _ rfl)); replace H2 := As (H2.1.only ho B1.1 nl18); replace H3 := As (H3.1.only ho B1.1 nl18); replace H5 := As (H5.1.only ho B1.1 nl18); replace H6 := As (H6.1.only ho B1.1 nl18); replace H8 := As (H8.1.only ho B1.1 nl18); replace H9 := As (H9.1.only ho B1.1 nl18); replace H17 := As (H17.1.only ho B1.1 nl18); replace H18 := As (H18.1.only ho B1.1 nl18); replace BP1 := Oo BP1 ho NEP1_1; replace BQ1 := Oo BQ1 ho NEQ1_1; replace BP4 := Oo BP4 ho NEP4_1; replace BQ4 := Oo BQ4 ho NEQ4_1; replace BP7 := Oo BP7 ho NEP7_1; replace BQ7 := Oo BQ7 ho NEQ7_1; replace B2 := Ou B2 ho NE1_2; replace B3 := Ou B3 ho NE1_3; replace HB := Lo HB ho G1; replace B1 := As hB2; clear hw ho hB2) | (go_at_call 33; (with_reducible refine (law_part2.run 2500 1 2500 1 _ (by decide) (by decide) (by decide) (by decide)).mono ?_); rintro e w16 ⟨A16, D16, rfl, hq16, hr16, hb⟩; have H17 := Aside0.mk hq16; have H18 := Aside0.mk hr16; clear hq16 hr16; replace H2 := As (H2.1.be hb); replace H3 := As (H3.1.be hb); replace H5 := As (H5.1.be hb); replace H6 := As (H6.1.be hb); replace H8 := As (H8.1.be hb); replace H9 := As (H9.1.be hb); replace BP1 := Bb BP1 hb; replace BQ1 := Bb BQ1 hb; replace BP4 := Bb BP4 hb; replace BQ4 := Bb BQ4 hb; replace BP7 := Bb BP7 hb; replace BQ7 := Bb BQ7 hb; replace B1 := Bb B1 hb; replace B2 := Bb B2 hb; replace B3 := Bb B3 hb; replace HB := Ob HB hb; clear hb; (try clear cb1_6); have cb1_6 := Cl6 B1; (try clear fb1_6); have fb1_6 := Fz B1 6; (try clear cb1_7); have cb1_7 := Cl7 B1; (try clear fb1_7); have fb1_7 := Fz B1 7; (try clear cb1_8); have cb1_8 := Cl8 B1; (try clear fb1_8); have fb1_8 := Fz B1 8) | ((with_reducible refine gate_store (t := 36) (p := 3) rfl ?_); refine Sto (t := 36) (p := 3) (by rfl) (.tmp 19) (by rfl) (by rfl) g3 #[.int .i64 2, .slice none 0 0, .slice (some ⟨gP7, 0, none⟩) 2 2, .slice (some ⟨gQ7, 0, none⟩) 2 2, .slice none 0 0, .int .i64 1, .bool false, .slice none 0 0, .slice none 0 0, .int .i64 0, .bool false, .slice none 0 0, .slice none 0 0, .int .i64 1, .bool false, .slice A7 1 1, .slice D7 1 1, .int .i64 0] (by rfl) (by first | rfl | (go_simp; done) | (go_simp; rfl)) B3 (by kernel_rfl) rfl (by kernel_rfl) ?_; intro w15 ho hB2; replace H2 := As (H2.1.only ho B3.1 nl18); replace H3 := As (H3.1.only ho B3.1 nl18); replace H5 := As (H5.1.only ho B3.1 nl18); replace H6 := As (H6.1.only ho B3.1 nl18); replace H8 := As (H8.1.only ho B3.1 nl18); replace H9 := As (H9.1.only ho B3.1 nl18); replace BP1 := Oo BP1 ho NEP1_3; replace BQ1 := Oo BQ1 ho NEQ1_3; replace BP4 := Oo BP4 ho NEP4_3; replace BQ4 := Oo BQ4 ho NEQ4_3; replace BP7 := Oo BP7 ho NEP7_3; replace BQ7 := Oo BQ7 ho NEQ7_3; replace B1 := Oo B1 ho NE1_3; replace B2 := Oo B2 ho NE2_3; replace HB := Lo HB ho G3; replace B3 := hB2; clear ho hB2) | ((with_reducible refine gate_store (t := 36) (p := 2) rfl ?_); refine Sto (t := 36) (p := 2) (by rfl) (.tmp 18) (by rfl) (by rfl) g2 #[.int .i64 5, .slice none 0 0, .slice (some ⟨gP4, 0, none⟩) 2 2, .slice (some ⟨gQ4, 0, none⟩) 2 2, .slice none 0 0, .int .i64 1, .bool false, .slice none 0 0, .slice none 0 0, .int .i64 0, .bool false, .slice none 0 0, .slice none 0 0, .int .i64 1, .bool false, .slice A4 1 1, .slice D4 1 1, .int .i64 0] (by rfl) (by first | rfl | (go_simp; done) | (go_simp; rfl)) B2 (by kernel_rfl) rfl (by kernel_rfl) ?_; intro w14 ho hB2; replace H2 := As (H2.1.only ho B2.1 nl18); replace H3 := As (H3.1.only ho B2.1 nl18); replace H5 := As (H5.1.only ho B2.1 nl18); replace H6 := As (H6.1.only ho B2.1 nl18); replace H8 := As (H8.1.only ho B2.1 nl18); replace H9 := As (H9.1.only ho B2.1 nl18); replace BP1 := Oo BP1 ho NEP1_2; replace BQ1 := Oo BQ1 ho NEQ1_2; replace BP4 := Oo BP4 ho NEP4_2; replace BQ4 := Oo BQ4 ho NEQ4_2; replace BP7 := Oo BP7 ho NEP7_2; replace BQ7 := Oo BQ7 ho NEQ7_2; replace B1 := Oo B1 ho NE1_2; replace B3 := Ou B3 ho NE2_3; replace HB := Lo HB ho G2; replace B2 := hB2; clear ho hB2) | ((with_reducible refine gate_store (t := 36) (p := 1) rfl ?_); refine Sto (t := 36) (p := 1) (by rfl) (.tmp 17) (by rfl) (by rfl) g1 #[.int .i64 5, .slice none 0 0, .slice (some ⟨gP1, 0, none⟩) 2 2, .slice (some ⟨gQ1, 0, none⟩) 2 2, .slice none 0 0, .int .i64 1, .bool false, .slice none 0 0, .slice none 0 0, .int .i64 0, .bool false, .slice none 0 0, .slice none 0 0, .int .i64 1, .bool false, .slice A1 1 1, .slice D1 1 1, .int .i64 0] (by rfl) (by first | rfl | (go_simp; done) | (go_simp; rfl)) B1 (by kernel_rfl) rfl (by kernel_rfl) ?_; intro w13 ho hB2; replace H2 := As (H2.1.only ho B1.1 nl18); replace H3 := As (H3.1.only ho B1.1 nl18); replace H5 := As (H5.1.only ho B1.1 nl18); replace H6 := As (H6.1.only ho B1.1 nl18); replace H8 := As (H8.1.only ho B1.1 nl18); replace H9 := As (H9.1.only ho B1.1 nl18); replace BP1 := Oo BP1 ho NEP1_1; replace BQ1 := Oo BQ1 ho NEQ1_1; replace BP4 := Oo BP4 ho NEP4_1; replace BQ4 := Oo BQ4 ho NEQ4_1; replace BP7 := Oo BP7 ho NEP7_1; replace BQ7 := Oo BQ7 ho NEQ7_1; replace B2 := Ou B2 ho NE1_2; replace B3 := Ou B3 ho NE1_3; replace HB := Lo HB ho G1; replace B1 := hB2; clear ho hB2) | ((with_reducible refine gate_dst (N := 3) rfl ?_); refine box_event (by rfl) (N := 3) (by rfl) (cs := #[.int .i64 0, .slice none 0 0, .slice none 0 0, .slice none 0 0, .slice none 0 0, .int .i64 0, .bool false, .slice none 0 0, .slice none 0 0, .int .i64 0, .bool false, .slice none 0 0, .slice none 0 0, .int .i64 0, .bool false, .slice none 0 0, .slice none 0 0, .int .i64 0]) (t := 36) ?hr ?_; (case hr => first | (go_simp; done) | (go_simp; rfl)); intro g3 hgx w12 hbx hb; have B3 := As hbx; have NEP1_3 := Nn BP1 hgx; have NEQ1_3 := Nn BQ1 hgx; have NEP4_3 := Nn BP4 hgx; have NEQ4_3 := Nn BQ4 hgx; have NEP7_3 := Nn BP7 hgx; have NEQ7_3 := Nn BQ7 hgx; have NE1_3 := Nn B1 hgx; have NE2_3 := Nn B2 hgx; have G3 := Gg HB hgx; replace H2 := As (H2.1.be hb); replace H3 := As (H3.1.be hb); replace H5 := As (H5.1.be hb); replace H6 := As (H6.1.be hb); replace H8 := As (H8.1.be hb); replace H9 := As (H9.1.be hb); replace BP1 := Bb BP1 hb; replace BQ1 := Bb BQ1 hb; replace BP4 := Bb BP4 hb; replace BQ4 := Bb BQ4 hb; replace BP7 := Bb BP7 hb; replace BQ7 := Bb BQ7 hb; replace B1 := Bb B1 hb; replace B2 := Bb B2 hb; replace HB := Ob HB hb; clear hbx hb hgx) | ((with_reducible refine gate_dst (N := 2) rfl ?_); refine box_event (by rfl) (N := 2) (by rfl) (cs := #[.int .i64 0, .slice none 0 0, .slice none 0 0, .slice none 0 0, .slice none 0 0, .int .i64 0, .bool false, .slice none 0 0, .slice none 0 0, .int .i64 0, .bool false, .slice none 0 0, .slice none 0 0, .int .i64 0, .bool false, .slice none 0 0, .slice none 0 0, .int .i64 0]) (t := 36) ?hr ?_; (case hr => first | (go_simp; done) | (go_simp; rfl)); intro g2 hgx w11 hbx hb; have B2 := As hbx; have NEP1_2 := Nn BP1 hgx; have NEQ1_2 := Nn BQ1 hgx; have NEP4_2 := Nn BP4 hgx; have NEQ4_2 := Nn BQ4 hgx; have NEP7_2 := Nn BP7 hgx; have NEQ7_2 := Nn BQ7 hgx; have NE1_2 := Nn B1 hgx; have G2 := Gg HB hgx; replace H2 := As (H2.1.be hb); replace H3 := As (H3.1.be hb); replace H5 := As (H5.1.be hb); replace H6 := As (H6.1.be hb); replace H8 := As (H8.1.be hb); replace H9 := As (H9.1.be hb); replace BP1 := Bb BP1 hb; replace BQ1 := Bb BQ1 hb; replace BP4 := Bb BP4 hb; replace BQ4 := Bb BQ4 hb; replace BP7 := Bb BP7 hb; replace BQ7 := Bb BQ7 hb; replace B1 := Bb B1 hb; replace HB := Ob HB hb; clear hbx hb hgx) | ((with_reducible refine gate_dst (N := 1) rfl ?_); refine box_event (by rfl) (N := 1) (by rfl) (cs := #[.int .i64 0, .slice none 0 0, .slice none 0 0, .slice none 0 0, .slice none 0 0, .int .i64 0, .bool false, .slice none 0 0, .slice none 0 0, .int .i64 0, .bool false, .slice none 0 0, .slice none 0 0, .int .i64 0, .bool false, .slice none 0 0, .slice none 0 0, .int .i64 0]) (t := 36) ?hr ?_; (case hr => first | (go_simp; done) | (go_simp; rfl)); intro g1 hgx w10 hbx hb; have B1 := As hbx; have NEP1_1 := Nn BP1 hgx; have NEQ1_1 := Nn BQ1 hgx; have NEP4_1 := Nn BP4 hgx; have NEQ4_1 := Nn BQ4 hgx; have NEP7_1 := Nn BP7 hgx; have NEQ7_1 := Nn BQ7 hgx; have G1 := Gg HB hgx; replace H2 := As (H2.1.be hb); replace H3 := As (H3.1.be hb); replace H5 := As (H5.1.be hb); replace H6 := As (H6.1.be hb); replace H8 := As (H8.1.be hb); replace H9 := As (H9.1.be hb); replace BP1 := Bb BP1 hb; replace BQ1 := Bb BQ1 hb; replace BP4 := Bb BP4 hb; replace BQ4 := Bb BQ4 hb; replace BP7 := Bb BP7 hb; replace BQ7 := Bb BQ7 hb; replace HB := Ob HB hb; clear hbx hb hgx) | (go_at_call 32; (with_reducible refine (law_policy.run (2) _).mono ?_); rintro e w7 ⟨gP7, gQ7, A7, D7, rfl, hbp, hbq, hq, hr, hgp, hgq, hne, hb⟩; have BP7 := Aside0.mk hbp; have BQ7 := Aside0.mk hbq; have H8 := Aside0.mk hq; have H9 := Aside0.mk hr; have NEP1_P7 := Aside0.mk (show gP1 ≠ gP7 from Nat.ne_of_lt (Nat.lt_of_lt_of_le (blk_lt BP1.out) hgp)); have NEP1_Q7 := Aside0.mk (show gP1 ≠ gQ7 from Nat.ne_of_lt (Nat.lt_of_lt_of_le (blk_lt BP1.out) hgq)); have NEQ1_P7 := Aside0.mk (show gQ1 ≠ gP7 from Nat.ne_of_lt (Nat.lt_of_lt_of_le (blk_lt BQ1.out) hgp)); have NEQ1_Q7 := Aside0.mk (show gQ1 ≠ gQ7 from Nat.ne_of_lt (Nat.lt_of_lt_of_le (blk_lt BQ1.out) hgq)); have NEP4_P7 := Aside0.mk (show gP4 ≠ gP7 from Nat.ne_of_lt (Nat.lt_of_lt_of_le (blk_lt BP4.out) hgp)); have NEP4_Q7 := Aside0.mk (show gP4 ≠ gQ7 from Nat.ne_of_lt (Nat.lt_of_lt_of_le (blk_lt BP4.out) hgq)); have NEQ4_P7 := Aside0.mk (show gQ4 ≠ gP7 from Nat.ne_of_lt (Nat.lt_of_lt_of_le (blk_lt BQ4.out) hgp)); have NEQ4_Q7 := Aside0.mk (show gQ4 ≠ gQ7 from Nat.ne_of_lt (Nat.lt_of_lt_of_le (blk_lt BQ4.out) hgq)); have NEP7_Q7 := Aside0.mk hne; have GP7 := Aside0.mk (Nat.le_trans HB.out.size hgp); have GQ7 := Aside0.mk (Nat.le_trans HB.out.size hgq); clear hbp hbq hq hr hgp hgq hne; replace H2 := As (H2.1.be hb); replace H3 := As (H3.1.be hb); replace H5 := As (H5.1.be hb); replace H6 := As (H6.1.be hb); replace BP1 := Bb BP1 hb; replace BQ1 := Bb BQ1 hb; replace BP4 := Bb BP4 hb; replace BQ4 := Bb BQ4 hb; replace HB := Ob HB hb; clear hb) | (go_at_call 32; (with_reducible refine (law_policy.run (5) _).mono ?_); rintro e w4 ⟨gP4, gQ4, A4, D4, rfl, hbp, hbq, hq, hr, hgp, hgq, hne, hb⟩; have BP4 := Aside0.mk hbp; have BQ4 := Aside0.mk hbq; have H5 := Aside0.mk hq; have H6 := Aside0.mk hr; have NEP1_P4 := Aside0.mk (show gP1 ≠ gP4 from Nat.ne_of_lt (Nat.lt_of_lt_of_le (blk_lt BP1.out) hgp)); have NEP1_Q4 := Aside0.mk (show gP1 ≠ gQ4 from Nat.ne_of_lt (Nat.lt_of_lt_of_le (blk_lt BP1.out) hgq)); have NEQ1_P4 := Aside0.mk (show gQ1 ≠ gP4 from Nat.ne_of_lt (Nat.lt_of_lt_of_le (blk_lt BQ1.out) hgp)); have NEQ1_Q4 := Aside0.mk (show gQ1 ≠ gQ4 from Nat.ne_of_lt (Nat.lt_of_lt_of_le (blk_lt BQ1.out) hgq)); have NEP4_Q4 := Aside0.mk hne; have GP4 := Aside0.mk (Nat.le_trans HB.out.size hgp); have GQ4 := Aside0.mk (Nat.le_trans HB.out.size hgq); clear hbp hbq hq hr hgp hgq hne; replace H2 := As (H2.1.be hb); replace H3 := As (H3.1.be hb); replace BP1 := Bb BP1 hb; replace BQ1 := Bb BQ1 hb; replace HB := Ob HB hb; clear hb) | (go_at_call 32; (with_reducible refine (law_policy.run (5) _).mono ?_); rintro e w1 ⟨gP1, gQ1, A1, D1, rfl, hbp, hbq, hq, hr, hgp, hgq, hne, hb⟩; have BP1 := Aside0.mk hbp; have BQ1 := Aside0.mk hbq; have H2 := Aside0.mk hq; have H3 := Aside0.mk hr; have NEP1_Q1 := Aside0.mk hne; have GP1 := Aside0.mk (Nat.le_trans HB.out.size hgp); have GQ1 := Aside0.mk (Nat.le_trans HB.out.size hgq); clear hbp hbq hq hr hgp hgq hne; replace HB := Ob HB hb; clear hb))
 go_ret
 exact ⟨rfl, HB.out⟩
end Go.Proofs.YtnmfmiemkcaocaaGreat.Hand
namespace Go.Proofs.YtnmfmiemkcaocaaGreat.Hand
open Go.RowKit Go.Proofs.YtnmfmiemkcaocaaGreatW.PrintWords Go.Proofs.YtnmfmiemkcaocaaGreatW.PrintLast Go.Proofs.YtnmfmiemkcaocaaGreatW.PrintMore
set_option linter.unusedVariables false
set_option linter.unusedSimpArgs false
theorem ev_mk {ops : Array Oper} {Q : Exit → Act → World → Prop} {rest : List Oper} {o : Oper} {a : Act} {w0 W : World} (hgd : o.guard = none) {N : Tmp} (hd : o.dst = some N) (x y : Operand) (ho : o.op = .makeSlice 30 x y) (n : Int) (m : Nat)
  (hx : a.eval x = .int .i64 n) (hy : a.eval y = .int .i64 n) (hn : n = (m : Int)) (hl : m ≤ 10000000000) (HB : Aside0 (Below w0.heap.size w0 W))
  (h : ∀ v1 w1, Aside0 (Own w1 w0.heap.size v1 (List.replicate m 0)) → Aside0 (Below w0.heap.size w0 w1) → wpList Tryz.prog ops Q rest (a.put o.dst v1) w1) : wpList Tryz.prog ops Q (o :: rest) a W := by
 subst hn
 refine Kd.R_make (Kd.int .u32) w0.heap.size 52 hgd hd 30 x y ho _ hx hy Tryz.underlying30 (.int .u32 0) 4 info52 rfl (by decide) (by decide) (0 : Int) (ok := fun _ => True) (okp := fun _ => False) rfl (fun _ h => h.elim) trivial (by omega) (by omega) HB.out HB.out.size ?_
 intro v1 w1 h1 h2 _ _
 rw [Int.toNat_natCast] at h1
 exact h v1 w1 ⟨h1⟩ ⟨h2⟩
theorem ev_cp {ops : Array Oper} {Q : Exit → Act → World → Prop} {rest : List Oper} {o : Oper} {a : Act} {w0 W : World} (hgd : o.guard = none) (s x : Operand) (ho : o.op = .call { callee := .builtin .copy, args := #[s, x], argTypes := #[30, 30] })
  (v : Value) (xs ys : List Int) (A : Option Addr) (m c : Nat) (hs : a.eval s = v) (hx : a.eval x = .slice A m c) (HO : Aside0 (Own W w0.heap.size v xs)) (HR : Kd.C (Kd.int .u32) W A m ys) (HB : Aside0 (Below w0.heap.size w0 W))
  (h : ∀ w1, Aside0 (Own w1 w0.heap.size v (ys.take (min m xs.length) ++ xs.drop (min m xs.length))) → Aside0 (Below w0.heap.size w0 w1) → wpList Tryz.prog ops Q rest (a.put o.dst (.int .i64 ((min m xs.length : Nat) : Int))) w1) : wpList Tryz.prog ops Q (o :: rest) a W :=
 Kd.R_copy (0 : Int) w0.heap.size hgd s x 30 30 52 ho Tryz.underlying30 (by kernel_rfl) v xs ys A m c (fun _ => True) hs hx HO.out HR HB.out HB.out.size (fun w1 h1 h2 _ => h w1 ⟨h1⟩ ⟨h2⟩)
theorem NC.cut {w : World} {base : Nat} {v : Value} {xs : List Int} {m a L : Nat} (h : Own w base v (xs.take (min xs.length (List.replicate m (0 : Int)).length) ++ (List.replicate m (0 : Int)).drop (min xs.length (List.replicate m (0 : Int)).length))) (hg : Rg xs) (hm : tl xs = m) (hn : nv xs = a) (hl : xs.length ≤ L) : NC w v a L := by
 have hle := tl_le xs
 rw [List.length_replicate, Nat.min_eq_right (by omega), List.drop_of_length_le (by rw [List.length_replicate]; exact Nat.le_refl _), List.append_nil, ← hm] at h
 exact ⟨_, h.rd, Can.trim hg, by rw [nv_trim, hn], by rw [List.length_take]; omega⟩
theorem NA.ofBlk {w : World} {ad : Addr} {xs : List Int} {n L : Nat} (h : Blk w ad xs) (hg : Rg xs) (hn : nv xs = n) (hl : xs.length ≤ 1000000000 ∧ xs.length ≤ L) : NA w (.slice (some ad) xs.length xs.length) n L := ⟨xs, ⟨some ad, xs.length, rfl, Nat.le_refl _, h.Cfull (by omega)⟩, hg, hn, hl.2⟩
theorem rd_getD (xs : List Int) (x : Int) : rd xs x = xs.getD x.toNat 0 := rfl
theorem ref_limb.run (xs : List Int) (v : Value) (i : Int) (w : World) (h : Rd w v xs) (hg : Rg xs) (h0 : 0 ≤ i) : Calls Tryz.prog 109 #[v, .int .i64 i] w fun e w' => e = .returned (.int .u64 (xs.getD i.toNat 0)) ∧ w' = w := by
 obtain ⟨A, c, rfl, hc, hr⟩ := h
 by_cases q : i < (xs.length : Int)
 ·
  have k1 : decide (i < (xs.length : Int)) = true := decide_eq_true q
  obtain ⟨ad, ea, hx⟩ := Kd.at_int hr i h0 q
  cases ea
  obtain ⟨x, hxe⟩ : ∃ x, rd xs i = x := ⟨_, rfl⟩
  have hw : IntKind.u64.wrap x = x := by have := hg.rd i; rw [← hxe]; exact u64_small _ this.1 (by omega)
  rw [hxe] at hx
  have X := Aside0.mk hxe
  replace h0 := eq_true h0
  replace q := eq_true q
  clear hr hg hxe
  go_enter Tryz.func109, Tryz.ntmps109
  go_wp2
  go_ret
  refine ⟨?_, rfl⟩
  rw [← rd_getD, X.out]
  rfl
 ·
  have k1 : decide (i < (xs.length : Int)) = false := decide_eq_false q
  have X := Aside0.mk (show xs.getD i.toNat 0 = 0 by rw [List.getD_eq_getElem?_getD, List.getElem?_eq_none (by omega)]; rfl)
  clear hr hg q
  go_enter Tryz.func109, Tryz.ntmps109
  go_wp2
  go_ret
  exact ⟨by rw [X.out]; rfl, rfl⟩
theorem ref_Norm.run (v : Value) (a L : Nat) (w : World) (hv : NA w v a L) (hL : L ≤ 1000000000) : Calls Tryz.prog 90 #[v] w fun e w' => ∃ r, e = .returned r ∧ NC w' r a L ∧ Below w.heap.size w w' := by
 obtain ⟨l0, ⟨A0, c0, rfl, hc0, hr0⟩, hg, hn, hl⟩ := hv
 have HR0 := Aside0.mk hr0
 have HX := Aside0.mk (And.intro hg (And.intro hn (And.intro hl hL)))
 have HB := Aside0.mk (Below.refl w.heap.size w)
 clear hr0 hc0 hg hn hl hL
 obtain ⟨m, hm⟩ : ∃ m, tl l0 = m := ⟨_, rfl⟩
 have HM := Aside0.mk (show m ≤ l0.length ∧ m ≤ 10000000000 by have := tl_le l0; have := HX.out.2.2; omega)
 go_enter Tryz.func90, Tryz.ntmps90
 go_wp2
 go_loopg [3] l0.length (fun kq v3 w' => ∃ x : Int, v3 = .int .i64 x ∧ w' = w ∧ Aside0 (x = (kq : Int) ∧ kq ≤ l0.length ∧ ∀ j, kq ≤ j → l0.getD j 0 = 0))
 case atStart => exact ⟨_, rfl, rfl, ⟨rfl, Nat.le_refl _, fun j hj => by rw [List.getD_eq_getElem?_getD, List.getElem?_eq_none hj]; rfl⟩⟩
 case round =>
  obtain ⟨x, rfl, rfl, HA⟩ := hrel
  by_cases hx0 : ∃ n, gk = n + 1 ∧ rd l0 (n : Int) = 0
  ·
   obtain ⟨n, hn, c2⟩ := hx0
   subst hn
   have c1 : decide (0 < x) = true := decide_eq_true (by have := HA.out.1; omega)
   obtain ⟨y, hy⟩ : ∃ y, IntKind.i64.wrap (x - 1) = y := ⟨_, rfl⟩
   have e1 : y = (n : Int) := by have := HA.out; have := HX.out.2.2; rw [← hy, i64_w]; unfold wrap64; omega
   have p1 : 0 ≤ y := by omega
   have q1 : y < (l0.length : Int) := by have := HA.out; omega
   obtain ⟨ad, ea, hx⟩ := Kd.at_int HR0.out y p1 q1
   cases ea
   rw [← e1] at c2
   have c3 : (rd l0 y == 0) = true := beq_iff_eq.mpr c2
   have C2 := Aside0.mk c2
   have E1 := Aside0.mk e1
   replace p1 := eq_true p1
   replace q1 := eq_true q1
   clear c2 e1
   go_wp2
   go_roundg n
   case measure => omega
   case rel =>
    refine ⟨_, rfl, rfl, ⟨E1.out, by have := HA.out; omega, fun j hj => ?_⟩⟩
    rcases Nat.eq_or_lt_of_le hj with h | h
    ·
     rw [← h]; have := C2.out; rw [E1.out] at this; simpa [rd] using this
    ·
     exact HA.out.2.2 j h
  ·
   have ht : m = gk := by
    rw [← hm]
    refine tl_eq l0 gk HA.out.2.2 (fun h => fun h2 => hx0 ⟨gk - 1, by omega, by rw [rd_getD, Int.toNat_natCast]; exact h2⟩)
   have X1 := Aside0.mk (show x = (m : Int) by rw [ht]; exact HA.out.1)
   clear ht
   by_cases c : 0 < x
   ·
    have c1 : decide (0 < x) = true := decide_eq_true c
    obtain ⟨y, hy⟩ : ∃ y, IntKind.i64.wrap (x - 1) = y := ⟨_, rfl⟩
    have e1 : y = x - 1 := by have := X1.out; have := HM.out; rw [← hy, i64_w]; unfold wrap64; omega
    have p1 : 0 ≤ y := by omega
    have q1 : y < (l0.length : Int) := by have := X1.out; have := HM.out; omega
    obtain ⟨ad, ea, hx⟩ := Kd.at_int HR0.out y p1 q1
    cases ea
    have c3 : (rd l0 y == 0) = false := beq_eq_false_iff_ne.mpr (fun h => hx0 ⟨gk - 1, by have := HA.out; omega, by rw [show ((gk - 1 : Nat) : Int) = y by have := HA.out; omega]; exact h⟩)
    replace p1 := eq_true p1
    replace q1 := eq_true q1
    clear hx0 e1 c HA
    go_wp2_with (first | ((with_reducible refine gate_dst (N := 20) rfl ?_); refine ev_mk (by rfl) (N := 20) (by rfl) _ _ (by rfl) x m (by rfl) (by rfl) X1.out HM.out.2 HB ?_; intro v1 w1 HO HB1) | ((with_reducible refine gate_dst (N := 23) rfl ?_); refine ev_cp (by rfl) _ _ (by rfl) v1 _ l0 _ l0.length _ (by rfl) (by rfl) HO (Kd.C_below HR0.out HB1.out) HB1 ?_; intro w2 HO2 HB2))
    go_ret
    exact ⟨_, rfl, NC.cut HO2.out HX.out.1 hm HX.out.2.1 HX.out.2.2.1, HB2.out⟩
   ·
    have c1 : decide (0 < x) = false := decide_eq_false c
    clear hx0 c HA
    go_wp2_with (first | ((with_reducible refine gate_dst (N := 20) rfl ?_); refine ev_mk (by rfl) (N := 20) (by rfl) _ _ (by rfl) x m (by rfl) (by rfl) X1.out HM.out.2 HB ?_; intro v1 w1 HO HB1) | ((with_reducible refine gate_dst (N := 23) rfl ?_); refine ev_cp (by rfl) _ _ (by rfl) v1 _ l0 _ l0.length _ (by rfl) (by rfl) HO (Kd.C_below HR0.out HB1.out) HB1 ?_; intro w2 HO2 HB2))
    go_ret
    exact ⟨_, rfl, NC.cut HO2.out HX.out.1 hm HX.out.2.1 HX.out.2.2.1, HB2.out⟩
theorem ref_Of.run (a : Nat) (w : World) (ha : a < 18446744073709551616) :
  Calls Tryz.prog 89 #[.int .u64 (a : Int)] w fun e w' => ∃ r, e = .returned r ∧ NC w' r a 2 ∧ Below w.heap.size w w' := by
 obtain ⟨A, hA⟩ : ∃ A : Int, A = (a : Int) := ⟨_, rfl⟩
 rw [← hA]
 have G := Aside0.mk (show Rg [A % 4294967296, A / 4294967296 % 4294967296] ∧ nv [A % 4294967296, A / 4294967296 % 4294967296] = a by
  refine ⟨?_, ?_⟩
  ·
   intro y hy
   simp only [List.mem_cons, List.not_mem_nil, or_false] at hy
   rcases hy with rfl | rfl <;> omega
  ·
   simp only [nv]
   omega)
 clear hA ha
 have HB := Aside0.mk (below_alloc (Below.refl w.heap.size w) (.cells #[.int .u32 (A % 4294967296), .int .u32 (A / 4294967296 % 4294967296)] 52))
 have HN := Aside0.mk (show NA (w.alloc (.cells #[.int .u32 (A % 4294967296), .int .u32 (A / 4294967296 % 4294967296)] 52)) (.slice (some ⟨w.heap.size, 0, none⟩) 2 2) a 2 from NA.ofBlk (ad := ⟨w.heap.size, 0, none⟩) (show Blk (w.alloc (.cells #[.int .u32 (A % 4294967296), .int .u32 (A / 4294967296 % 4294967296)] 52)) ⟨w.heap.size, 0, none⟩ [A % 4294967296, A / 4294967296 % 4294967296] from ⟨rfl, rfl, heap_alloc_new w _⟩) G.out.1 G.out.2 (L := 2) (by simp))
 go_enter Tryz.func89, Tryz.ntmps89
 go_wp2_with (first | (go_at_call 90; (with_reducible refine (ref_Norm.run _ a 2 _ HN.out (by decide)).mono ?_); rintro e w3 ⟨r, rfl, hr, hb⟩; have RC := Aside0.mk hr; replace HB := Ob HB hb; clear hr hb))
 go_ret
 exact ⟨_, rfl, RC.out, HB.out⟩
end Go.Proofs.YtnmfmiemkcaocaaGreat.Hand
namespace Go.Proofs.YtnmfmiemkcaocaaGreat.Hand
open Go.RowKit Go.Proofs.YtnmfmiemkcaocaaGreatW.PrintWords Go.Proofs.YtnmfmiemkcaocaaGreatW.PrintLast Go.Proofs.YtnmfmiemkcaocaaGreatW.PrintMore
set_option linter.unusedVariables false
set_option linter.unusedSimpArgs false
def pad (n : Nat) (xs : List Int) : List Int := xs ++ List.replicate (n - xs.length) 0
theorem pad_nv (n : Nat) (xs : List Int) : nv (pad n xs) = nv xs := by unfold pad; rw [nv_append, nv_zeros, Nat.mul_zero, Nat.add_zero]
theorem pad_len {n : Nat} {xs : List Int} (h : xs.length ≤ n) : (pad n xs).length = n := by unfold pad; rw [List.length_append, List.length_replicate]; omega
theorem pad_get (n : Nat) (xs : List Int) (j : Nat) : (pad n xs).getD j 0 = xs.getD j 0 := by
 unfold pad
 rw [List.getD_eq_getElem?_getD, List.getD_eq_getElem?_getD]
 rcases Nat.lt_or_ge j xs.length with h | h
 ·
  rw [List.getElem?_append_left h]
 ·
  rw [List.getElem?_append_right h, List.getElem?_eq_none h]
  rcases Nat.lt_or_ge (j - xs.length) (n - xs.length) with h2 | h2
  ·
   rw [List.getElem?_replicate, if_pos h2]; rfl
  ·
   rw [List.getElem?_eq_none (by rw [List.length_replicate]; exact h2)]
theorem pad_rg {n : Nat} {xs : List Int} (h : Rg xs) : Rg (pad n xs) := h.append (Rg.zeros _)
theorem drop_ext {xs ys : List Int} {k n : Nat} (hx : xs.length = n) (hy : ys.length = n) (h : ∀ j, k ≤ j → xs.getD j 0 = ys.getD j 0) : xs.drop k = ys.drop k := by
 refine List.ext_getElem (by rw [List.length_drop, List.length_drop, hx, hy]) (fun i h1 h2 => ?_)
 rw [List.getElem_drop, List.getElem_drop]
 have := h (k + i) (by omega)
 rw [List.length_drop] at h1 h2
 rw [List.getD_eq_getElem?_getD, List.getD_eq_getElem?_getD, List.getElem?_eq_getElem (by omega), List.getElem?_eq_getElem (by omega)] at this
 exact this
theorem nv_lex {xs ys : List Int} (hx : Rg xs) (hy : Rg ys) (k : Nat) (h : ∀ j, k + 1 ≤ j → xs.getD j 0 = ys.getD j 0) (hk : xs.getD k 0 < ys.getD k 0) : nv xs < nv ys := by
 have hl : k < ys.length := by
  refine Nat.lt_of_not_le fun c => ?_
  have e : ys.getD k 0 = 0 := by rw [List.getD_eq_getElem?_getD, List.getElem?_eq_none c]; rfl
  have := (hx.get k).1
  omega
 obtain ⟨n, hn1, hn2⟩ : ∃ n, xs.length ≤ n ∧ ys.length ≤ n := ⟨xs.length + ys.length, by omega, by omega⟩
 rw [← pad_nv n xs, ← pad_nv n ys]
 refine lex_lt (pad_rg hx) (pad_rg hy) k (by rw [pad_len hn1, pad_len hn2]) (by rw [pad_len hn1]; omega) (drop_ext (pad_len hn1) (pad_len hn2) (fun j hj => by rw [pad_get, pad_get]; exact h j hj)) (by rw [pad_get, pad_get]; exact hk)
theorem nv_ext {xs ys : List Int} (h : ∀ j, xs.getD j 0 = ys.getD j 0) : nv xs = nv ys := by
 obtain ⟨n, hn1, hn2⟩ : ∃ n, xs.length ≤ n ∧ ys.length ≤ n := ⟨xs.length + ys.length, by omega, by omega⟩
 rw [← pad_nv n xs, ← pad_nv n ys]
 have := drop_ext (k := 0) (pad_len hn1) (pad_len hn2) (fun j _ => by rw [pad_get, pad_get]; exact h j)
 simp only [List.drop_zero] at this
 rw [this]
theorem ref_NCmp.run (v u : Value) (a b L : Nat) (w : World) (hv : NA w v a L) (hu : NA w u b L) (hL : L ≤ 1000000000) :
  Calls Tryz.prog 91 #[v, u] w fun e w' => e = .returned (.int .i64 (cmpN a b)) ∧ w' = w := by
 obtain ⟨xs, hr1, hg1, hn1, hl1⟩ := hv
 obtain ⟨ys, hr2, hg2, hn2, hl2⟩ := hu
 obtain ⟨A, c, ev, hc, hr⟩ := id hr1
 obtain ⟨D, d, eu, hd, hs⟩ := id hr2
 subst ev eu
 have R1 := Aside0.mk hr1
 have R2 := Aside0.mk hr2
 have X := Aside0.mk (And.intro hg1 (And.intro hn1 (And.intro hl1 (And.intro hg2 (And.intro hn2 (And.intro hl2 hL))))))
 clear hr1 hg1 hn1 hl1 hr2 hg2 hn2 hl2 hL hr hs hc hd
 obtain ⟨M, hM⟩ : ∃ M, M = if xs.length < ys.length then ys.length else xs.length := ⟨_, rfl⟩
 have HM := Aside0.mk (show xs.length ≤ M ∧ ys.length ≤ M ∧ M ≤ 1000000000 by have := X.out; split at hM <;> omega)
 obtain ⟨j, hj⟩ : ∃ j, j = (M : Int) - 1 := ⟨_, rfl⟩
 have J := Aside0.mk hj
 have hj1 : xs.length < ys.length → wrap64 ((ys.length : Int) - 1) = j := fun h => by rw [if_pos h] at hM; have := HM.out; unfold wrap64; omega
 have hj2 : ¬ xs.length < ys.length → wrap64 ((xs.length : Int) - 1) = j := fun h => by rw [if_neg h] at hM; have := HM.out; unfold wrap64; omega
 have JJ := Aside0.mk (And.intro hj1 hj2)
 clear hM hj hj1 hj2
 go_enter Tryz.func91, Tryz.ntmps91
 go_wp2
 all_goals (rename _ => hlt; first | rw [JJ.out.1 hlt] | rw [JJ.out.2 hlt])
 all_goals clear hlt
 all_goals
  go_loopg [5] M (fun kq v5 w' => ∃ x : Int, v5 = .int .i64 x ∧ w' = w ∧ Aside0 (x = (kq : Int) - 1 ∧ kq ≤ M ∧ ∀ j, kq ≤ j → xs.getD j 0 = ys.getD j 0))
  case atStart =>
   refine ⟨_, rfl, rfl, ⟨J.out, Nat.le_refl _, fun j hj => ?_⟩⟩
   have := HM.out
   rw [List.getD_eq_getElem?_getD, List.getD_eq_getElem?_getD, List.getElem?_eq_none (by omega), List.getElem?_eq_none (by omega)]
  case round =>
   obtain ⟨x, rfl, rfl, HA⟩ := hrel
   by_cases cz : 0 ≤ x
   ·
    have c3 : decide (0 ≤ x) = true := decide_eq_true cz
    have HZ := Aside0.mk cz
    obtain ⟨k, hk⟩ : ∃ k, gk = k + 1 := ⟨gk - 1, by have := HA.out; omega⟩
    subst hk
    obtain ⟨y, hy⟩ : ∃ y, IntKind.i64.wrap (x - 1) = y := ⟨_, rfl⟩
    have E := Aside0.mk (show x = (k : Int) ∧ y = (k : Int) - 1 ∧ x.toNat = k by have := HM.out; have := HA.out; refine ⟨by omega, ?_, by omega⟩; rw [← hy, i64_w]; unfold wrap64; omega)
    obtain ⟨p, hp⟩ : ∃ p, xs.getD k 0 = p := ⟨_, rfl⟩
    obtain ⟨q, hq⟩ : ∃ q, ys.getD k 0 = q := ⟨_, rfl⟩
    have P := Aside0.mk (And.intro hp hq)
    clear cz hp hq
    rcases Int.lt_trichotomy p q with c4 | c4 | c4
    ·
     have c5 : decide (p < q) = true := decide_eq_true c4
     have hc : cmpN a b = -1 := by
      have := nv_lex X.out.1 X.out.2.2.2.1 k HA.out.2.2 (by rw [P.out.1, P.out.2]; exact c4)
      rw [X.out.2.1, X.out.2.2.2.2.1] at this
      unfold cmpN
      rw [if_pos this]
     have HC := Aside0.mk hc
     clear c4 hc
     go_wp2_with (first | (go_at_call 109; (with_reducible refine (ref_limb.run ys _ x _ R2.out X.out.2.2.2.1 HZ.out).mono ?_); rintro e w3 ⟨rfl, rfl⟩; rw [E.out.2.2, P.out.2]) | (go_at_call 109; (with_reducible refine (ref_limb.run xs _ x _ R1.out X.out.1 HZ.out).mono ?_); rintro e w2 ⟨rfl, rfl⟩; rw [E.out.2.2, P.out.1]))
     go_ret
     exact ⟨by rw [HC.out]; rfl, rfl⟩
    ·
     have c5 : decide (p < q) = false := decide_eq_false (by omega)
     have c6 : decide (q < p) = false := decide_eq_false (by omega)
     have HC := Aside0.mk c4
     clear c4
     go_wp2_with (first | (go_at_call 109; (with_reducible refine (ref_limb.run ys _ x _ R2.out X.out.2.2.2.1 HZ.out).mono ?_); rintro e w3 ⟨rfl, rfl⟩; rw [E.out.2.2, P.out.2]) | (go_at_call 109; (with_reducible refine (ref_limb.run xs _ x _ R1.out X.out.1 HZ.out).mono ?_); rintro e w2 ⟨rfl, rfl⟩; rw [E.out.2.2, P.out.1]))
     go_roundg k
     case measure => omega
     case rel =>
      refine ⟨y, rfl, rfl, ⟨E.out.2.1, by have := HA.out; omega, fun j hj => ?_⟩⟩
      rcases Nat.eq_or_lt_of_le hj with h | h
      ·
       rw [← h, P.out.1, P.out.2]; exact HC.out
      ·
       exact HA.out.2.2 j h
    ·
     have c5 : decide (p < q) = false := decide_eq_false (by omega)
     have c6 : decide (q < p) = true := decide_eq_true c4
     have hc : cmpN a b = 1 := by
      have := nv_lex X.out.2.2.2.1 X.out.1 k (fun j hj => (HA.out.2.2 j hj).symm) (by rw [P.out.1, P.out.2]; exact c4)
      rw [X.out.2.1, X.out.2.2.2.2.1] at this
      unfold cmpN
      rw [if_neg (by omega), if_pos this]
     have HC := Aside0.mk hc
     clear c4 hc
     go_wp2_with (first | (go_at_call 109; (with_reducible refine (ref_limb.run ys _ x _ R2.out X.out.2.2.2.1 HZ.out).mono ?_); rintro e w3 ⟨rfl, rfl⟩; rw [E.out.2.2, P.out.2]) | (go_at_call 109; (with_reducible refine (ref_limb.run xs _ x _ R1.out X.out.1 HZ.out).mono ?_); rintro e w2 ⟨rfl, rfl⟩; rw [E.out.2.2, P.out.1]))
     go_ret
     exact ⟨by rw [HC.out]; rfl, rfl⟩
   ·
    have c3 : decide (0 ≤ x) = false := decide_eq_false cz
    have hc : cmpN a b = 0 := by
     have := nv_ext (fun j => HA.out.2.2 j (by have := HA.out; omega))
     rw [X.out.2.1, X.out.2.2.2.2.1] at this
     unfold cmpN
     rw [if_neg (by omega), if_neg (by omega)]
    have HC := Aside0.mk hc
    clear cz hc
    go_wp2
    go_ret
    exact ⟨by rw [HC.out]; rfl, rfl⟩
theorem ref_NBits.run (v : Value) (n L : Nat) (w : World) (h : NA w v n L) (hL : L ≤ 100000000) :
  Calls Tryz.prog 76 #[v] w fun e w' => ∃ b : Int, e = .returned (.int .i64 b) ∧ Below w.heap.size w w' ∧ (b = 0 ↔ n = 0) ∧ 0 ≤ b := by
 have HV := Aside0.mk h
 have HL := Aside0.mk hL
 have HB := Aside0.mk (Below.refl w.heap.size w)
 clear h hL
 by_cases cz : n = 0
 ·
  have HZ := Aside0.mk cz
  clear cz
  go_enter Tryz.func76, Tryz.ntmps76
  go_wp2_with (first | (go_at_call 90; (with_reducible refine (ref_Norm.run _ n L _ HV.out (by have := HL.out; omega)).mono ?_); rintro e w3 ⟨r, rfl, hr, hb⟩; obtain ⟨zs, ⟨A, c, rfl, hc, hR⟩, hcan, hnv, hl⟩ := hr; have c0 := hcan.zero.2 (hnv.trans HZ.out); have c1 : ((zs.length : Int) == 0) = true := (by rw [c0]; rfl); clear c0; replace HB := Ob HB hb; clear hc hR hcan hnv hl hb))
  go_ret
  exact ⟨0, rfl, HB.out, ⟨fun _ => HZ.out, fun _ => rfl⟩, Int.le_refl _⟩
 ·
  have HZ := Aside0.mk cz
  clear cz
  go_enter Tryz.func76, Tryz.ntmps76
  go_wp2_with (first | (go_at_call 90; (with_reducible refine (ref_Norm.run _ n L _ HV.out (by have := HL.out; omega)).mono ?_); rintro e w3 ⟨r, rfl, hr, hb⟩; obtain ⟨zs, ⟨A, c, rfl, hc, hR⟩, hcan, hnv, hl⟩ := hr; have hz0 : zs.length ≠ 0 := (fun h => HZ.out (hnv.symm.trans (hcan.zero.1 h))); have c1 : ((zs.length : Int) == 0) = false := (by rw [beq_eq_false_iff_ne]; omega); obtain ⟨jj, hjj⟩ : ∃ jj, IntKind.i64.wrap ((zs.length : Int) - 1) = jj := ⟨_, rfl⟩; have ejj : jj = (zs.length : Int) - 1 := (by have := HL.out; rw [← hjj, i64_w]; unfold wrap64; omega); have p1 : 0 ≤ jj := (by omega); have q1 : jj < (zs.length : Int) := (by omega); obtain ⟨ad, ea, hx⟩ := Kd.at_int hR jj p1 q1; cases ea; obtain ⟨x0, hx0⟩ : ∃ x0, rd zs jj = x0 := ⟨_, rfl⟩; rw [hx0] at hx; have X0 := Aside0.mk (show 0 < x0 ∧ x0 < 4294967296 by (have h1 := hcan.1.rd jj; have h2 := tl_last zs (by rw [hcan.2]; exact hz0); rw [hcan.2] at h2; rw [rd_getD, show jj.toNat = zs.length - 1 by omega] at hx0; rw [rd_getD, show jj.toNat = zs.length - 1 by omega, hx0] at h1; rw [hx0] at h2; omega)); obtain ⟨n0, hn0⟩ : ∃ n0, IntKind.i64.wrap (32 * jj) = n0 := ⟨_, rfl⟩; have N0 := Aside0.mk (show 0 ≤ n0 ∧ n0 ≤ 4000000000 by (have := HL.out; rw [← hn0, i64_w]; unfold wrap64; omega)); replace HB := Ob HB hb; replace p1 := eq_true p1; replace q1 := eq_true q1; clear hc hR hcan hnv hl hb hz0 ejj hx0))
  go_loopg [3, 4] 32 (fun kq v3 v4 w' => ∃ m x : Int, v3 = .int .i64 m ∧ v4 = .int .u32 x ∧ w' = w3 ∧ Aside0 (kq ≤ 32 ∧ m = n0 + (32 - (kq : Int)) ∧ 0 ≤ x ∧ x < 2 ^ kq ∧ (kq = 32 → 0 < x) ∧ x < 4294967296))
  case atStart => exact ⟨_, _, rfl, rfl, rfl, ⟨Nat.le_refl _, by omega, by have := X0.out; omega, by have := X0.out; omega, fun _ => X0.out.1, X0.out.2⟩⟩
  case round =>
   obtain ⟨m, x, rfl, rfl, rfl, HA⟩ := hrel
   by_cases cx : 0 < x
   ·
    have k1 : decide (0 < x) = true := decide_eq_true cx
    obtain ⟨k, hk⟩ : ∃ k, gk = k + 1 := ⟨gk - 1, by
     rcases Nat.eq_zero_or_pos gk with h | h
     ·
      have := HA.out.2.2.2.1; rw [h] at this; omega
     ·
      omega⟩
    subst hk
    obtain ⟨m1, hm1⟩ : ∃ m1, IntKind.i64.wrap (m + 1) = m1 := ⟨_, rfl⟩
    have M1 := Aside0.mk (show m1 = m + 1 by have := HA.out; have := N0.out; rw [← hm1, i64_w]; unfold wrap64; omega)
    have HX := Aside0.mk cx
    clear cx
    go_wp2
    go_roundg k
    case measure => omega
    case rel =>
     have h := HA.out
     have h2 := M1.out
     have h3 := HX.out
     have ht : x.tdiv 2 = x / 2 := Int.tdiv_eq_ediv_of_nonneg h.2.2.1
     have hp : (2 : Int) ^ (k + 1) = 2 ^ k * 2 := Int.pow_succ 2 k
     obtain ⟨e1, e2, e3, e4, e5, e6⟩ := h
     rw [hp] at e4
     refine ⟨_, _, rfl, rfl, rfl, ⟨by omega, by omega, by omega, ?_, fun hk => by omega, ?_⟩⟩ <;> rw [ht] <;> generalize (2 : Int) ^ k = Y at * <;> omega
   ·
    have k1 : decide (0 < x) = false := decide_eq_false cx
    have HF := Aside0.mk (show 0 < m by
     have h := HA.out
     have := N0.out
     rcases Nat.eq_or_lt_of_le h.1 with h4 | h4
     ·
      exact absurd (h.2.2.2.2.1 h4) cx
     ·
      omega)
    clear cx
    go_wp2
    go_ret
    exact ⟨m, rfl, HB.out, ⟨fun h => by have := HF.out; omega, fun h => absurd h HZ.out⟩, by have := HF.out; omega⟩
end Go.Proofs.YtnmfmiemkcaocaaGreat.Hand
namespace Go.Proofs.YtnmfmiemkcaocaaGreat.Hand
open Go.RowKit Go.Proofs.YtnmfmiemkcaocaaGreatW.PrintWords Go.Proofs.YtnmfmiemkcaocaaGreatW.PrintLast Go.Proofs.YtnmfmiemkcaocaaGreatW.PrintMore
set_option linter.unusedVariables false
set_option linter.unusedSimpArgs false
theorem Blk.na {w : World} {ad : Addr} {xs : List Int} {a L N : Nat} (h : Blk w ad xs) (hg : Rg xs) (hn : nv xs = a) (hl : xs.length = N) (h1 : N ≤ 2000000000) (h2 : N ≤ L) : NA w (.slice (some ad) N N) a L := by
 subst hl
 exact ⟨xs, ⟨some ad, xs.length, rfl, Nat.le_refl _, h.Cfull (by omega)⟩, hg, hn, h2⟩
theorem ref_NMul.run (v u : Value) (a b L1 L2 : Nat) (w : World) (hv : NA w v a L1) (hu : NA w u b L2) (hL : L1 + L2 ≤ 1000000000) :
  Calls Tryz.prog 88 #[v, u] w fun e w' => ∃ r, e = .returned r ∧ NC w' r (a * b) (L1 + L2) ∧ Below w.heap.size w w' := by
 obtain ⟨xs, hr1, hg1, hn1, hl1⟩ := hv
 obtain ⟨ys, hr2, hg2, hn2, hl2⟩ := hu
 obtain ⟨A0, c0, ev, hc, hrx⟩ := hr1
 obtain ⟨D0, d0, eu, hd, hry⟩ := hr2
 subst ev eu
 have H1 := Aside0.mk hrx
 have H2 := Aside0.mk hry
 have X := Aside0.mk (And.intro hg1 (And.intro hn1 (And.intro hl1 (And.intro hg2 (And.intro hn2 (And.intro hl2 hL))))))
 clear hrx hry hc hd hg1 hn1 hl1 hg2 hn2 hl2 hL
 obtain ⟨N1, hN1⟩ : ∃ N1, N1 = xs.length + ys.length := ⟨_, rfl⟩
 obtain ⟨m, hm⟩ : ∃ m, IntKind.i64.wrap ((xs.length : Int) + (ys.length : Int)) = m := ⟨_, rfl⟩
 have NN := Aside0.mk (show N1 = xs.length + ys.length ∧ N1 ≤ 1000000000 by have := X.out; omega)
 have M := Aside0.mk (show m = (N1 : Int) by have := NN.out; rw [← hm, i64_w]; unfold wrap64; omega)
 clear hN1
 go_enter Tryz.func88, Tryz.ntmps88
 go_wp2_with (first | ((with_reducible refine gate_dst (N := 15) rfl ?_); refine ev_make (by rfl) _ _ (by rfl) m m N1 N1 (by rfl) (by rfl) M.out M.out (Nat.le_refl _) (by have := NN.out; omega) ?_; intro ad w3 hb hb1 hge; have B := Aside0.mk hb; have HB := Aside0.mk hb1; have HA := Aside0.mk hge; clear hb hb1 hge))
 go_loopg [6] xs.length (fun kq v6 w' => ∃ (i : Int) (zs : List Int), v6 = .int .i64 i ∧ Aside0 (i + kq = (xs.length : Int) ∧ kq ≤ xs.length) ∧ Aside0 (nv zs = nv (xs.take i.toNat) * nv ys ∧ (∀ j, i.toNat + ys.length ≤ j → zs.getD j 0 = 0) ∧ Rg zs ∧ zs.length = N1) ∧ Aside0 (Blk w' ad zs) ∧ Aside0 (Below w.heap.size w w'))
 case atStart =>
  refine ⟨0, _, rfl, ⟨by omega, by omega⟩, ⟨by simp [nv, nv_zeros], fun j hj => ?_, Rg.zeros _, by rw [List.length_replicate]⟩, ⟨B.out⟩, ⟨HB.out⟩⟩
  rw [List.getD_eq_getElem?_getD]
  rcases Nat.lt_or_ge j N1 with h | h
  ·
   rw [List.getElem?_replicate, if_pos h]; rfl
  ·
   rw [List.getElem?_eq_none (by rw [List.length_replicate]; exact h)]; rfl
 case round =>
  obtain ⟨i, zs0, rfl, HI, HN, HBk0, HBl0⟩ := hrel
  by_cases ci : i < (xs.length : Int)
  ·
   have d1 : decide (i < (xs.length : Int)) = true := decide_eq_true ci
   have p1 : 0 ≤ i := by have := HI.out; omega
   obtain ⟨g1, hk⟩ : ∃ g1, gk = g1 + 1 := ⟨gk - 1, by have := HI.out; omega⟩
   subst hk
   obtain ⟨ad1, ea, hx0⟩ := Kd.at_int H1.out i p1 ci
   cases ea
   obtain ⟨p, hpe⟩ : ∃ p, rd xs i = p := ⟨_, rfl⟩
   rw [hpe] at hx0
   have HX := Aside0.mk hx0
   have hp0 : 0 ≤ p ∧ p < 4294967296 := by rw [← hpe]; exact X.out.1.rd i
   have hw1 : IntKind.u64.wrap p = p := u64_small p hp0.1 (by omega)
   have P := Aside0.mk (show 0 ≤ i ∧ i < (xs.length : Int) ∧ 0 ≤ p ∧ p < 4294967296 ∧ p = xs.getD i.toNat 0 from ⟨p1, ci, hp0.1, hp0.2, hpe.symm⟩)
   clear hp0 hpe ci hx0
   have q1 := eq_true P.out.2.1
   replace p1 := eq_true p1
   go_wp2
   go_loopg [7, 8] ys.length (fun kq v7 v8 w' => ∃ (C k : Int) (zs : List Int), v7 = .int .u64 C ∧ v8 = .int .i64 k ∧ Aside0 (k + kq = (ys.length : Int) ∧ kq ≤ ys.length ∧ 0 ≤ C ∧ C < 4294967296) ∧ Aside0 (nv zs + pw (i.toNat + k.toNat) * C.toNat = nv (xs.take i.toNat) * nv ys + pw i.toNat * p.toNat * nv (ys.take k.toNat) ∧ (∀ j, i.toNat + ys.length ≤ j → zs.getD j 0 = 0) ∧ Rg zs ∧ zs.length = N1) ∧ Aside0 (Blk w' ad zs) ∧ Aside0 (Below w.heap.size w w'))
   case atStart =>
    refine ⟨0, 0, zs0, rfl, rfl, ⟨by omega, by omega, by omega, by omega⟩, ⟨by simp [nv, HN.out.1], HN.out.2⟩, ⟨HBk0.out⟩, ⟨HBl0.out⟩⟩
   case round =>
    obtain ⟨C, k, zs, rfl, rfl, HK, HZ, HBk, HBl⟩ := hrel
    by_cases ck : k < (ys.length : Int)
    ·
     have d2 : decide (k < (ys.length : Int)) = true := decide_eq_true ck
     have p2 : 0 ≤ k := by have := HK.out; omega
     obtain ⟨g2, hk2⟩ : ∃ g2, gk = g2 + 1 := ⟨gk - 1, by have := HK.out; omega⟩
     subst hk2
     obtain ⟨ad2, ea2, hy⟩ := Kd.at_int H2.out k p2 ck
     cases ea2
     replace hy := pw_cell_below HBl.out hy
     have hx := pw_cell_below HBl.out HX.out
     obtain ⟨q, hqe⟩ : ∃ q, rd ys k = q := ⟨_, rfl⟩
     rw [hqe] at hy
     have hq0 : 0 ≤ q ∧ q < 4294967296 := by rw [← hqe]; exact X.out.2.2.2.1.rd k
     have hw2 : IntKind.u64.wrap q = q := u64_small q hq0.1 (by omega)
     obtain ⟨ik, hik⟩ : ∃ ik, IntKind.i64.wrap (i + k) = ik := ⟨_, rfl⟩
     have eik : ik = i + k := by have := P.out; have := NN.out; rw [← hik, i64_w]; unfold wrap64; omega
     have hcl := HBk.out.cell ik (by have := P.out; omega) (by have := P.out; have := NN.out; have := HZ.out.2.2.2; omega)
     have hfz := HBk.out.frozen ik.toNat
     obtain ⟨z, hze⟩ : ∃ z, rd zs ik = z := ⟨_, rfl⟩
     rw [hze] at hcl
     have hz0 : 0 ≤ z ∧ z < 4294967296 := by rw [← hze]; exact HZ.out.2.2.1.rd ik
     have hw3 : IntKind.u64.wrap z = z := u64_small z hz0.1 (by omega)
     obtain ⟨pq, hpq⟩ : ∃ pq, IntKind.u64.wrap (p * q) = pq := ⟨_, rfl⟩
     obtain ⟨t, ht⟩ : ∃ t, IntKind.u64.wrap (z + pq) = t := ⟨_, rfl⟩
     obtain ⟨s, hs⟩ : ∃ s, IntKind.u64.wrap (t + C) = s := ⟨_, rfl⟩
     obtain ⟨k1, hk1⟩ : ∃ k1, IntKind.i64.wrap (k + 1) = k1 := ⟨_, rfl⟩
     have K := Aside0.mk (show 0 ≤ k ∧ k < (ys.length : Int) ∧ 0 ≤ q ∧ q < 4294967296 ∧ q = ys.getD k.toNat 0 ∧ 0 ≤ z ∧ z < 4294967296 ∧ z = zs.getD (i.toNat + k.toNat) 0 ∧ ik = i + k from ⟨p2, ck, hq0.1, hq0.2, hqe.symm, hz0.1, hz0.2, by rw [← hze, eik]; unfold rd; rw [show (i + k).toNat = i.toNat + k.toNat by have := P.out; omega], eik⟩)
     clear hq0 hqe hz0 hze eik ck
     have q2 := eq_true K.out.2.1
     replace p2 := eq_true p2
     have q3 : (ik < (N1 : Int)) = True := eq_true (by have := K.out; have := P.out; have := NN.out; omega)
     have q4 : (0 ≤ ik) = True := eq_true (by have := K.out; have := P.out; omega)
     go_wp2
     have HBk1 := Aside0.mk (show Blk wr.drew ad zs from HBk.out)
     have HBl1 := Aside0.mk (Below.drew HBl.out)
     clear hfz
     refine start_ (n := 22) (S := fun w' => w'.cell? (ad1.add i.toNat) = some (.int .u32 p) ∧ w'.cell? (ad2.add k.toNat) = some (.int .u32 q) ∧ w'.cell? (ad.add ik.toNat) = some (.int .u32 z)) (ds := []) (Bt 22 0) (by kernel_rfl) rfl (by kernel_rfl) ⟨hx, hy, hcl⟩ (fun hHeld => ?_)
     generalize wr.drew = wn at hHeld HBk1 HBl1 ⊢
     refine pure_ (i := 0) (N := some 28) (v := ?_) (a' := ?_) (Bt 22 1) rfl rfl (by kernel_rfl) (fun _ _ _ h => h) (Or.inl ⟨by rfl, ?_⟩) ?_ ?_
     rotate_left
     ·
      intro w'
      go_simp
      with_reducible rfl
     rotate_left
     ·
      simp only [Nrm, Option.some.injEq, List.setIfInBounds_toArray, List.set_cons_zero, List.set_cons_succ, i64_w, i32_w]
      rfl
     refine pure_ (i := 1) (N := some 29) (v := ?_) (a' := ?_) (Bt 22 3) rfl rfl (by kernel_rfl) (fun _ _ _ h => h) (Or.inl ⟨by rfl, ?_⟩) ?_ ?_
     rotate_left
     ·
      intro w'
      go_simp
      with_reducible rfl
     rotate_left
     ·
      simp only [Nrm, Option.some.injEq, List.setIfInBounds_toArray, List.set_cons_zero, List.set_cons_succ, i64_w, i32_w]
      rfl
     refine pure_ (i := 2) (N := some 30) (v := ?_) (a' := ?_) (Bt 22 7) rfl rfl (by kernel_rfl) (fun _ _ _ h => h) (Or.inl ⟨by rfl, ?_⟩) ?_ ?_
     rotate_left
     ·
      intro w'
      go_simp
      with_reducible rfl
     rotate_left
     ·
      simp only [Nrm, Option.some.injEq, List.setIfInBounds_toArray, List.set_cons_zero, List.set_cons_succ, i64_w, i32_w]
      rfl
     refine pure_ (i := 3) (N := some 31) (v := ?_) (a' := ?_) (Bt 22 15) rfl rfl (by kernel_rfl) (fun _ _ _ h => h) (Or.inl ⟨by rfl, ?_⟩) ?_ ?_
     rotate_left
     ·
      intro w'
      go_simp
      with_reducible rfl
     rotate_left
     ·
      simp only [Nrm, Option.some.injEq, List.setIfInBounds_toArray, List.set_cons_zero, List.set_cons_succ, i64_w, i32_w]
      rfl
     refine pure_ (i := 4) (N := some 32) (v := ?_) (a' := ?_) (Bt 22 31) rfl rfl (by kernel_rfl) (fun _ _ _ h => h) (Or.inl ⟨by rfl, ?_⟩) ?_ ?_
     rotate_left
     ·
      intro w'
      go_simp
      with_reducible rfl
     rotate_left
     ·
      simp only [Nrm, Option.some.injEq, List.setIfInBounds_toArray, List.set_cons_zero, List.set_cons_succ, i64_w, i32_w]
      rfl
     refine pure_ (i := 7) (N := some 35) (v := ?_) (a' := ?_) (Bt 22 159) rfl rfl (by kernel_rfl) (fun _ _ _ h => h) (Or.inl ⟨by rfl, ?_⟩) ?_ ?_
     rotate_left
     ·
      intro w'
      go_simp
      with_reducible rfl
     rotate_left
     ·
      simp only [Nrm, Option.some.injEq, List.setIfInBounds_toArray, List.set_cons_zero, List.set_cons_succ, i64_w, i32_w]
      rfl
     refine pure_ (i := 8) (N := some 36) (v := ?_) (a' := ?_) (Bt 22 415) rfl rfl (by kernel_rfl) (fun _ _ _ h => h) (Or.inl ⟨by rfl, ?_⟩) ?_ ?_
     rotate_left
     ·
      intro w'
      go_simp
      with_reducible rfl
     rotate_left
     ·
      simp only [Nrm, Option.some.injEq, List.setIfInBounds_toArray, List.set_cons_zero, List.set_cons_succ, i64_w, i32_w]
      rfl
     refine pure_ (i := 9) (N := some 37) (v := ?_) (a' := ?_) (Bt 22 927) rfl rfl (by kernel_rfl) (fun _ _ _ h => h) (Or.inl ⟨by rfl, ?_⟩) ?_ ?_
     rotate_left
     ·
      intro w'
      go_simp
      with_reducible rfl
     rotate_left
     ·
      simp only [Nrm, Option.some.injEq, List.setIfInBounds_toArray, List.set_cons_zero, List.set_cons_succ, i64_w, i32_w]
      rfl
     refine pure_ (i := 12) (N := some 40) (v := ?_) (a' := ?_) (Bt 22 5023) rfl rfl (by kernel_rfl) (fun _ _ _ h => h) (Or.inl ⟨by rfl, ?_⟩) ?_ ?_
     rotate_left
     ·
      intro w'
      go_simp
      with_reducible rfl
     rotate_left
     ·
      simp only [Nrm, Option.some.injEq, List.setIfInBounds_toArray, List.set_cons_zero, List.set_cons_succ, i64_w, i32_w]
      rfl
     refine pure_ (i := 13) (N := some 41) (v := ?_) (a' := ?_) (Bt 22 13215) rfl rfl (by kernel_rfl) (fun _ _ _ h => h) (Or.inl ⟨by rfl, ?_⟩) ?_ ?_
     rotate_left
     ·
      intro w'
      go_simp
      with_reducible rfl
     rotate_left
     ·
      simp only [Nrm, Option.some.injEq, List.setIfInBounds_toArray, List.set_cons_zero, List.set_cons_succ, i64_w, i32_w]
      rfl
     refine pure_ (i := 14) (N := some 42) (v := ?_) (a' := ?_) (Bt 22 29599) rfl rfl (by kernel_rfl) (fun _ _ _ h => h) (Or.inl ⟨by rfl, ?_⟩) ?_ ?_
     rotate_left
     ·
      intro w'
      go_simp
      with_reducible rfl
     rotate_left
     ·
      simp only [Nrm, Option.some.injEq, List.setIfInBounds_toArray, List.set_cons_zero, List.set_cons_succ, i64_w, i32_w]
      rfl
     refine pure_ (i := 19) (N := some 47) (v := ?_) (a' := ?_) (Bt 22 553887) rfl rfl (by kernel_rfl) (fun _ _ _ h => h) (Or.inl ⟨by rfl, ?_⟩) ?_ ?_
     rotate_left
     ·
      intro w'
      go_simp
      with_reducible rfl
     rotate_left
     ·
      simp only [Nrm, Option.some.injEq, List.setIfInBounds_toArray, List.set_cons_zero, List.set_cons_succ, i64_w, i32_w]
      rfl
     refine take_ (i := 5) (N := some 33) (v := ?_) (a' := ?_) (Bt 22 553919) rfl rfl (by kernel_rfl) (fun _ _ _ h => h) (Or.inl ⟨by rfl, ?_⟩) hHeld ?_ ?_
     rotate_left
     ·
      rintro w' ⟨s0, s1, s2⟩
      go_simp
      with_reducible rfl
     rotate_left
     ·
      simp only [Nrm, Option.some.injEq, List.setIfInBounds_toArray, List.set_cons_zero, List.set_cons_succ, i64_w, i32_w]
      rfl
     refine pure_ (i := 6) (N := some 34) (v := ?_) (a' := ?_) (Bt 22 553983) rfl rfl (by kernel_rfl) (fun _ _ _ h => h) (Or.inl ⟨by rfl, ?_⟩) ?_ ?_
     rotate_left
     ·
      intro w'
      go_simp
      with_reducible rfl
     rotate_left
     ·
      simp only [Nrm, Option.some.injEq, List.setIfInBounds_toArray, List.set_cons_zero, List.set_cons_succ, i64_w, i32_w]
      rfl
     refine take_ (i := 10) (N := some 38) (v := ?_) (a' := ?_) (Bt 22 555007) rfl rfl (by kernel_rfl) (fun _ _ _ h => h) (Or.inl ⟨by rfl, ?_⟩) hHeld ?_ ?_
     rotate_left
     ·
      rintro w' ⟨s0, s1, s2⟩
      go_simp
      with_reducible rfl
     rotate_left
     ·
      simp only [Nrm, Option.some.injEq, List.setIfInBounds_toArray, List.set_cons_zero, List.set_cons_succ, i64_w, i32_w]
      rfl
     refine pure_ (i := 11) (N := some 39) (v := ?_) (a' := ?_) (Bt 22 557055) rfl rfl (by kernel_rfl) (fun _ _ _ h => h) (Or.inl ⟨by rfl, ?_⟩) ?_ ?_
     rotate_left
     ·
      intro w'
      go_simp
      with_reducible rfl
     rotate_left
     ·
      simp only [Nrm, Option.some.injEq, List.setIfInBounds_toArray, List.set_cons_zero, List.set_cons_succ, i64_w, i32_w]
      rfl
     refine take_ (i := 15) (N := some 43) (v := ?_) (a' := ?_) (Bt 22 589823) rfl rfl (by kernel_rfl) (fun _ _ _ h => h) (Or.inl ⟨by rfl, ?_⟩) hHeld ?_ ?_
     rotate_left
     ·
      rintro w' ⟨s0, s1, s2⟩
      go_simp
      with_reducible rfl
     rotate_left
     ·
      simp only [Nrm, Option.some.injEq, List.setIfInBounds_toArray, List.set_cons_zero, List.set_cons_succ, i64_w, i32_w]
      rfl
     refine pure_ (i := 16) (N := some 44) (v := ?_) (a' := ?_) (Bt 22 655359) rfl rfl (by kernel_rfl) (fun _ _ _ h => h) (Or.inl ⟨by rfl, ?_⟩) ?_ ?_
     rotate_left
     ·
      intro w'
      go_simp
      with_reducible rfl
     rotate_left
     ·
      simp only [Nrm, Option.some.injEq, List.setIfInBounds_toArray, List.set_cons_zero, List.set_cons_succ, i64_w, i32_w]
      rfl
     refine pure_ (i := 17) (N := some 45) (v := ?_) (a' := ?_) (Bt 22 786431) rfl rfl (by kernel_rfl) (fun _ _ _ h => h) (Or.inl ⟨by rfl, ?_⟩) ?_ ?_
     rotate_left
     ·
      intro w'
      go_simp
      with_reducible rfl
     rotate_left
     ·
      simp only [Nrm, Option.some.injEq, List.setIfInBounds_toArray, List.set_cons_zero, List.set_cons_succ, i64_w, i32_w]
      rfl
     refine pure_ (i := 18) (N := some 46) (v := ?_) (a' := ?_) (Bt 22 1048575) rfl rfl (by kernel_rfl) (fun _ _ _ h => h) (Or.inl ⟨by rfl, ?_⟩) ?_ ?_
     rotate_left
     ·
      intro w'
      go_simp
      with_reducible rfl
     rotate_left
     ·
      simp only [Nrm, Option.some.injEq, List.setIfInBounds_toArray, List.set_cons_zero, List.set_cons_succ, i64_w, i32_w]
      rfl
     refine pure_ (i := 20) (N := some 48) (v := ?_) (a' := ?_) (Bt 22 2097151) rfl rfl (by kernel_rfl) (fun _ _ _ h => h) (Or.inl ⟨by rfl, ?_⟩) ?_ ?_
     rotate_left
     ·
      intro w'
      go_simp
      with_reducible rfl
     rotate_left
     ·
      simp only [Nrm, Option.some.injEq, List.setIfInBounds_toArray, List.set_cons_zero, List.set_cons_succ, i64_w, i32_w]
      rfl
     refine pure_ (i := 21) (N := some 9) (v := ?_) (a' := ?_) (Bt 22 4194303) rfl rfl (by kernel_rfl) (fun _ _ _ h => h) (Or.inl ⟨by rfl, ?_⟩) ?_ ?_
     rotate_left
     ·
      intro w'
      go_simp
      with_reducible rfl
     rotate_left
     ·
      simp only [Nrm, Option.some.injEq, List.setIfInBounds_toArray, List.set_cons_zero, List.set_cons_succ, i64_w, i32_w]
      rfl
     refine done_ (by kernel_rfl) ?_
     have hfz := HBk1.out.frozen ik.toNat
     go_wp2
     obtain ⟨k0, ck, hq0, hq1, hqe, hz0, hz1, hze, eik⟩ := K.out
     obtain ⟨i0, ci, hp0, hp1, hpe⟩ := P.out
     obtain ⟨hI, hzz, hzr, hzl⟩ := HZ.out
     obtain ⟨hk0, hk1', hC0, hC1⟩ := HK.out
     have hNN := NN.out
     have epn : p * q = ((p.toNat * q.toNat : Nat) : Int) := by rw [Int.natCast_mul, Int.toNat_of_nonneg hp0, Int.toNat_of_nonneg hq0]
     have hb : p.toNat * q.toNat ≤ 4294967295 * 4294967295 := Nat.mul_le_mul (by omega) (by omega)
     have epq : pq = ((p.toNat * q.toNat : Nat) : Int) := by rw [← hpq, epn]; exact u64_small _ (by omega) (by omega)
     have et : t = z + pq := by rw [← ht]; exact u64_small _ (by omega) (by omega)
     have es : s = t + C := by rw [← hs]; exact u64_small _ (by omega) (by omega)
     obtain ⟨S, hS⟩ : ∃ S, S = C.toNat + p.toNat * q.toNat + z.toNat := ⟨_, rfl⟩
     have esS : s = (S : Int) := by omega
     have hr2 : s % 4294967296 = ((S % 4294967296 : Nat) : Int) := by omega
     have hd : s / 4294967296 = ((S / 4294967296 : Nat) : Int) := by omega
     have eik2 : ik.toNat = i.toNat + k.toNat := by omega
     have ek1 : k1 = k + 1 := by rw [← hk1, i64_w]; unfold wrap64; omega
     have ek2 : k1.toNat = k.toNat + 1 := by omega
     have hst := mul_step zs ys i.toNat k.toNat p.toNat C.toNat _ (by omega) (by omega) hI S (by rw [← hqe, ← hze]; exact hS)
     rw [hr2, hd, eik2]
     go_roundg g2
     case measure => omega
     case rel =>
      refine ⟨_, k1, _, rfl, rfl, ⟨by omega, by omega, by omega, by omega⟩, ⟨?_, fun j hj => ?_, hzr.set _ (by omega) (by omega), by rw [List.length_set]; exact hzl⟩, ⟨HBk1.out.set _ _⟩, ⟨below_setA HBl1.out HA.out _ _⟩⟩
      ·
       rw [ek2]
       exact hst
      ·
       rw [List.getD_eq_getElem?_getD, List.getElem?_set_ne (by omega), ← List.getD_eq_getElem?_getD]
       exact hzz j hj
    ·
     have d2 : decide (k < (ys.length : Int)) = false := decide_eq_false ck
     have ek : k = (ys.length : Int) := by have := HK.out; omega
     obtain ⟨il, hil⟩ : ∃ il, IntKind.i64.wrap (i + (ys.length : Int)) = il := ⟨_, rfl⟩
     have eil : il = i + (ys.length : Int) := by have := P.out; have := NN.out; rw [← hil, i64_w]; unfold wrap64; omega
     have hcl := HBk.out.cell il (by have := P.out; omega) (by have := P.out; have := NN.out; have := HZ.out.2.2.2; omega)
     have hfz := HBk.out.frozen il.toNat
     obtain ⟨i1, hi1⟩ : ∃ i1, IntKind.i64.wrap (i + 1) = i1 := ⟨_, rfl⟩
     have K := Aside0.mk (And.intro ek eil)
     have q3 : (il < (N1 : Int)) = True := eq_true (by have := P.out; have := NN.out; omega)
     have q4 : (0 ≤ il) = True := eq_true (by have := P.out; omega)
     clear ck ek eil
     go_wp2
     obtain ⟨ek, eil⟩ := K.out
     obtain ⟨i0, ci, hp0, hp1, hpe⟩ := P.out
     obtain ⟨hI, hzz, hzr, hzl⟩ := HZ.out
     obtain ⟨hk0, hk1', hC0, hC1⟩ := HK.out
     have hNN := NN.out
     have e1 : C % 4294967296 = ((C.toNat : Nat) : Int) := by omega
     have e2 : il.toNat = i.toNat + ys.length := by omega
     have e3 : i1 = i + 1 := by rw [← hi1, i64_w]; unfold wrap64; omega
     have e4 : i1.toNat = i.toNat + 1 := by omega
     rw [e1, e2]
     rw [ek] at hI
     simp only [Int.toNat_natCast, List.take_length] at hI
     rw [hpe] at hI
     have hst := mul_end zs xs ys i.toNat C.toNat (by omega) (by omega) (hzz _ (Nat.le_refl _)) hI
     go_roundg g1
     case measure => omega
     case rel =>
      refine ⟨i1, _, rfl, ⟨by have := HI.out; omega, by have := HI.out; omega⟩, ⟨by rw [e4]; exact hst, fun j hj => ?_, hzr.set _ (by omega) (by omega), by rw [List.length_set]; exact hzl⟩, ⟨HBk.out.set _ _⟩, ⟨below_setA HBl.out HA.out _ _⟩⟩
      rw [List.getD_eq_getElem?_getD, List.getElem?_set_ne (by omega), ← List.getD_eq_getElem?_getD]
      exact hzz j (by omega)
  ·
   have d1 : decide (i < (xs.length : Int)) = false := decide_eq_false ci
   have ei : i = (xs.length : Int) := by have := HI.out; omega
   subst ei
   obtain ⟨hI, hzz, hzr, hzl⟩ := HN.out
   simp only [Int.toNat_natCast, List.take_length, X.out.2.1, X.out.2.2.2.2.1] at hI
   have Z := Aside0.mk (Blk.na HBk0.out hzr hI hzl (by have := NN.out; omega) (show N1 ≤ L1 + L2 by have := NN.out; have := X.out; omega))
   clear ci hI hzz hzr hzl
   go_wp2_with (first | (go_at_call 90; (with_reducible refine (ref_Norm.run _ (a * b) (L1 + L2) _ Z.out X.out.2.2.2.2.2.2).mono ?_); rintro e w9 ⟨r, rfl, hr, hb⟩; have RC := Aside0.mk hr; replace HBl0 := Ob HBl0 hb; clear hr hb))
   go_ret
   exact ⟨_, rfl, RC.out, HBl0.out⟩
end Go.Proofs.YtnmfmiemkcaocaaGreat.Hand
