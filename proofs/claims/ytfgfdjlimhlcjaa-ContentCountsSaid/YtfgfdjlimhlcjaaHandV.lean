/- content.segments and content.Valid, by hand. No condition. -/
import Derived.Test.YtfgfdjlimhlcjaaQCutAx1
namespace Go.Proofs.Ytfgfdjlimhlcjaa.Hand
open Go.RowKit Go.Proofs.YtfgfdjlimhlcjaaW.PrintWords Go.Proofs.YtfgfdjlimhlcjaaW.PrintLast Go.Proofs.YtfgfdjlimhlcjaaW.PrintMore Go.Proofs.Ytfgfdjlimhlcjaa.QCutA
set_option linter.unusedVariables false
set_option linter.unusedSimpArgs false

abbrev pt : ByteArray := ⟨#[46]⟩
def segments.l0 : Nat → Int → List ByteArray → ByteArray → Bool → Option (List ByteArray × Int)
  | 0, _, _, _, _ => none
  | k + 1, n, L, rest, more => if more = true then (if n = 5 then some (L, 0) else (strings_Cut.f rest pt).bind fun b => if 0 ≤ n then (if n < 5 then segments.l0 k (n + 1) (L.set n.toNat b.1) b.2.1 b.2.2 else none) else none) else some (L, n)
def noStr : ByteArray := ⟨#[]⟩
def segments.f (k : Nat) (s : ByteArray) : Option (List ByteArray × Int) := segments.l0 k 0 [noStr, noStr, noStr, noStr, noStr] s true

/-- Block g is an array of five strings. -/
def Arr (w : World) (g : Nat) (a0 a1 a2 a3 a4 : ByteArray) : Prop := w.heap[g]? = some (.cells #[.string a0, .string a1, .string a2, .string a3, .string a4] 47 (0, 0))
section
variable {w : World} {g : Nat} {a0 a1 a2 a3 a4 : ByteArray} (h : Arr w g a0 a1 a2 a3 a4)
include h
theorem Arr.c0 : w.cell? ⟨g, 0, none⟩ = some (.string a0) := by unfold Arr at h; simp [World.cell?, h]
theorem Arr.c1 : w.cell? ⟨g, 1, none⟩ = some (.string a1) := by unfold Arr at h; simp [World.cell?, h]
theorem Arr.c2 : w.cell? ⟨g, 2, none⟩ = some (.string a2) := by unfold Arr at h; simp [World.cell?, h]
theorem Arr.c3 : w.cell? ⟨g, 3, none⟩ = some (.string a3) := by unfold Arr at h; simp [World.cell?, h]
theorem Arr.c4 : w.cell? ⟨g, 4, none⟩ = some (.string a4) := by unfold Arr at h; simp [World.cell?, h]
theorem Arr.fz (j : Nat) : w.frozen? ⟨g, j, none⟩ = false := by unfold Arr at h; simp [World.frozen?, h]
theorem Arr.far (g' j : Nat) (v : Value) (hne : g' ≠ g) : Arr (w.setCell ⟨g', j, none⟩ v) g a0 a1 a2 a3 a4 := by
  unfold Arr at h ⊢
  rw [Below.heap_setCell _ _ _ _ (fun e => hne e.symm)]
  exact h
theorem Arr.at_ (j : Nat) (v : Value) : (w.setCell ⟨g, j, none⟩ v).heap[g]? = some (.cells (#[.string a0, .string a1, .string a2, .string a3, .string a4].setIfInBounds j v) 47 (0, 0)) := by
  unfold Arr at h
  simp only [World.setCell, Array.getElem?_modify, if_true, h]
  rfl
theorem Arr.s0 (v : ByteArray) : Arr (w.setCell ⟨g, 0, none⟩ (.string v)) g v a1 a2 a3 a4 := h.at_ 0 _
theorem Arr.s1 (v : ByteArray) : Arr (w.setCell ⟨g, 1, none⟩ (.string v)) g a0 v a2 a3 a4 := h.at_ 1 _
theorem Arr.s2 (v : ByteArray) : Arr (w.setCell ⟨g, 2, none⟩ (.string v)) g a0 a1 v a3 a4 := h.at_ 2 _
theorem Arr.s3 (v : ByteArray) : Arr (w.setCell ⟨g, 3, none⟩ (.string v)) g a0 a1 a2 v a4 := h.at_ 3 _
theorem Arr.s4 (v : ByteArray) : Arr (w.setCell ⟨g, 4, none⟩ (.string v)) g a0 a1 a2 a3 v := h.at_ 4 _
theorem Arr.alloc (o : Obj) : Arr (w.alloc o) g a0 a1 a2 a3 a4 := by
  have hlt : g < w.heap.size := (Array.getElem?_eq_some_iff.1 h).1
  unfold Arr at h ⊢
  rw [Below.heap_alloc _ _ _ hlt]
  exact h
theorem Arr.drewN (n : Nat) : Arr (w.drewN n) g a0 a1 a2 a3 a4 := h
end

theorem Arr.new (w : World) (a0 a1 a2 a3 a4 : ByteArray) : Arr (w.alloc (.cells #[.string a0, .string a1, .string a2, .string a3, .string a4] 47)) w.heap.size a0 a1 a2 a3 a4 := heap_alloc_new w _
theorem alloc_size (w : World) (o : Obj) : (w.alloc o).heap.size = w.heap.size + 1 := by simp [World.alloc, -World.alloc_eq]
theorem five_set (L : List ByteArray) (a0 a1 a2 a3 a4 b : ByteArray) (m : Int) (h0 : 0 ≤ m) (h5 : m < 5) (hL : L = [a0, a1, a2, a3, a4]) : (m = 0 ∧ L.set m.toNat b = [b, a1, a2, a3, a4]) ∨ (m = 1 ∧ L.set m.toNat b = [a0, b, a2, a3, a4]) ∨ (m = 2 ∧ L.set m.toNat b = [a0, a1, b, a3, a4]) ∨ (m = 3 ∧ L.set m.toNat b = [a0, a1, a2, b, a4]) ∨ (m = 4 ∧ L.set m.toNat b = [a0, a1, a2, a3, b]) := by
  subst hL
  have : m = 0 ∨ m = 1 ∨ m = 2 ∨ m = 3 ∨ m = 4 := by omega
  rcases this with rfl | rfl | rfl | rfl | rfl
  · exact Or.inl ⟨rfl, rfl⟩
  · exact Or.inr (Or.inl ⟨rfl, rfl⟩)
  · exact Or.inr (Or.inr (Or.inl ⟨rfl, rfl⟩))
  · exact Or.inr (Or.inr (Or.inr (Or.inl ⟨rfl, rfl⟩)))
  · exact Or.inr (Or.inr (Or.inr (Or.inr ⟨rfl, rfl⟩)))

set_option maxHeartbeats 8000000 in
set_option maxRecDepth 100000 in
theorem segments.calls (k : Nat) (s s0 s1 s2 s3 s4 : ByteArray) (n : Int) (w : World) (h : segments.f k s = some ([s0, s1, s2, s3, s4], n)) :
    Calls Try.prog 26 #[.string s] w fun e w' => e = .returned (.tuple #[.agg #[.string s0, .string s1, .string s2, .string s3, .string s4], .int .i64 n]) ∧ Below w.heap.size w w' := by
  unfold segments.f at h
  have H' := Aside0.mk h
  clear h
  have HB := Aside0.mk (Below.refl w.heap.size w)
  go_enter Try.func26, Try.ntmps26
  go_wp2
  have e0 : (⟨#[]⟩ : ByteArray) = noStr := rfl
  simp only [e0] at *
  clear e0
  go_loopg [5, 6, 7] k (fun kq v5 v6 v7 w' => ∃ (m : Int) (a0 a1 a2 a3 a4 rest : ByteArray) (more : Bool), v5 = .int .i64 m ∧ v6 = .string rest ∧ v7 = .bool more ∧ Aside0 (segments.l0 kq m [a0, a1, a2, a3, a4] rest more = some ([s0, s1, s2, s3, s4], n)) ∧ Aside0 (kq ≤ k) ∧
    Aside0 (Arr w' w.heap.size noStr noStr noStr noStr noStr) ∧ Aside0 (Arr w' (w.heap.size + 1) a0 a1 a2 a3 a4) ∧ Aside0 (Below w.heap.size w w'))
  case atStart =>
    refine ⟨0, noStr, noStr, noStr, noStr, noStr, s, true, rfl, rfl, rfl, H', ⟨Nat.le_refl _⟩, ⟨(Arr.new _ _ _ _ _ _).alloc _⟩, ⟨by rw [← alloc_size w (.cells #[.string noStr, .string noStr, .string noStr, .string noStr, .string noStr] 47)]; exact Arr.new _ _ _ _ _ _⟩, ⟨by repeat (first | exact HB.out | apply below_alloc)⟩⟩
  case round =>
    clear H' HB
    obtain ⟨m, a0, a1, a2, a3, a4, rest, more, rfl, rfl, rfl, HA, HK1, HC1, HC2, HB⟩ := hrel
    cases gk with
    | zero => exact absurd HA.out (by simp [segments.l0])
    | succ k1 =>
      have H := HA.out
      clear HA
      simp only [segments.l0] at H
      cases more with
      | false =>
        rw [if_neg (by decide)] at H
        simp only [Option.some.injEq, Prod.mk.injEq, List.cons.injEq, and_true] at H
        obtain ⟨⟨rfl, rfl, rfl, rfl, rfl⟩, rfl⟩ := H
        have x0 := HC2.out.c0
        have x1 := HC2.out.c1
        have x2 := HC2.out.c2
        have x3 := HC2.out.c3
        have x4 := HC2.out.c4
        have y0 := HC1.out.c0
        have y1 := HC1.out.c1
        have y2 := HC1.out.c2
        have y3 := HC1.out.c3
        have y4 := HC1.out.c4
        have z0 := HC1.out.fz 0
        have z1 := HC1.out.fz 1
        have z2 := HC1.out.fz 2
        have z3 := HC1.out.fz 3
        have z4 := HC1.out.fz 4
        go_wp2
        refine bodyPost_ret (results_ct rfl _ _ w.heap.size 47 #[.string a0, .string a1, .string a2, .string a3, .string a4] (0, 0) _ rfl (((((HC1.out.s0 a0).s1 a1).s2 a2).s3 a3).s4 a4) Try.underlying47 rfl (by kernel_rfl)) rfl ⟨rfl, ?_⟩
        exact below_set (below_set (below_set (below_set (below_set HB.out (Nat.le_refl _)) (Nat.le_refl _)) (Nat.le_refl _)) (Nat.le_refl _)) (Nat.le_refl _)
      | true =>
        rw [if_pos rfl] at H
        by_cases c5 : m = 5
        · rw [if_pos c5] at H
          have c5b : (m == 5) = true := by simpa using c5
          simp only [Option.some.injEq, Prod.mk.injEq, List.cons.injEq, and_true] at H
          obtain ⟨⟨rfl, rfl, rfl, rfl, rfl⟩, rfl⟩ := H
          clear c5
          have x0 := HC2.out.c0
          have x1 := HC2.out.c1
          have x2 := HC2.out.c2
          have x3 := HC2.out.c3
          have x4 := HC2.out.c4
          have y0 := HC1.out.c0
          have y1 := HC1.out.c1
          have y2 := HC1.out.c2
          have y3 := HC1.out.c3
          have y4 := HC1.out.c4
          have z0 := HC1.out.fz 0
          have z1 := HC1.out.fz 1
          have z2 := HC1.out.fz 2
          have z3 := HC1.out.fz 3
          have z4 := HC1.out.fz 4
          go_wp2
          refine bodyPost_ret (results_ct rfl _ _ w.heap.size 47 #[.string a0, .string a1, .string a2, .string a3, .string a4] (0, 0) _ rfl (((((HC1.out.s0 a0).s1 a1).s2 a2).s3 a3).s4 a4) Try.underlying47 rfl (by kernel_rfl)) rfl ⟨rfl, ?_⟩
          exact below_set (below_set (below_set (below_set (below_set HB.out (Nat.le_refl _)) (Nat.le_refl _)) (Nat.le_refl _)) (Nat.le_refl _)) (Nat.le_refl _)
        · rw [if_neg c5] at H
          have c5b : (m == 5) = false := by simpa using c5
          replace H := Option.bind_eq_some_iff.mp H
          obtain ⟨⟨b1, b2, b3⟩, hcut, H⟩ := H
          replace H : (if 0 ≤ m then (if m < 5 then segments.l0 k1 (m + 1) ([a0, a1, a2, a3, a4].set m.toNat b1) b2 b3 else none) else none) = some ([s0, s1, s2, s3, s4], n) := H
          have A3 := Aside0.mk hcut
          clear hcut
          by_cases h0 : 0 ≤ m
          · rw [if_pos h0] at H
            by_cases h5 : m < 5
            · rw [if_pos h5] at H
              rcases five_set _ a0 a1 a2 a3 a4 b1 m h0 h5 rfl with ⟨rfl, hs⟩ | ⟨rfl, hs⟩ | ⟨rfl, hs⟩ | ⟨rfl, hs⟩ | ⟨rfl, hs⟩
              · rw [hs] at H
                have H' := Aside0.mk H
                have x0 := HC2.out.c0
                have z0 := HC2.out.fz 0
                clear H hs h0 h5 c5 c5b
                go_wp2_with (first | ((with_reducible refine gate_callee (f := 32) rfl ?_); refine goesL_ (some 16) rfl rfl Try.func32 (by kernel_rfl) rfl #[.string rest, .string pt] rfl (by (try simp only [List.map_toArray, List.map_cons, List.map_nil]); first | done | rfl) ?_; (with_reducible refine (strings_Cut.calls rest pt b1 b2 b3 _ A3.out).mono ?_); rintro e w' ⟨rfl, ⟨nd, rfl⟩⟩; refine ⟨_, rfl, ?_⟩))
                go_roundg k1
                case measure => have := HK1.out; omega
                case rel => exact ⟨_, _, _, _, _, _, _, _, rfl, rfl, rfl, H', ⟨by have := HK1.out; omega⟩, ⟨((HC1.out.drewN _).far _ _ _ (by omega))⟩, ⟨(HC2.out.drewN _).s0 _⟩, ⟨below_set (by repeat (first | exact HB.out | apply pw_below_drewN)) (by omega)⟩⟩
              · rw [hs] at H
                have H' := Aside0.mk H
                have x0 := HC2.out.c1
                have z0 := HC2.out.fz 1
                clear H hs h0 h5 c5 c5b
                go_wp2_with (first | ((with_reducible refine gate_callee (f := 32) rfl ?_); refine goesL_ (some 16) rfl rfl Try.func32 (by kernel_rfl) rfl #[.string rest, .string pt] rfl (by (try simp only [List.map_toArray, List.map_cons, List.map_nil]); first | done | rfl) ?_; (with_reducible refine (strings_Cut.calls rest pt b1 b2 b3 _ A3.out).mono ?_); rintro e w' ⟨rfl, ⟨nd, rfl⟩⟩; refine ⟨_, rfl, ?_⟩))
                go_roundg k1
                case measure => have := HK1.out; omega
                case rel => exact ⟨_, _, _, _, _, _, _, _, rfl, rfl, rfl, H', ⟨by have := HK1.out; omega⟩, ⟨((HC1.out.drewN _).far _ _ _ (by omega))⟩, ⟨(HC2.out.drewN _).s1 _⟩, ⟨below_set (by repeat (first | exact HB.out | apply pw_below_drewN)) (by omega)⟩⟩
              · rw [hs] at H
                have H' := Aside0.mk H
                have x0 := HC2.out.c2
                have z0 := HC2.out.fz 2
                clear H hs h0 h5 c5 c5b
                go_wp2_with (first | ((with_reducible refine gate_callee (f := 32) rfl ?_); refine goesL_ (some 16) rfl rfl Try.func32 (by kernel_rfl) rfl #[.string rest, .string pt] rfl (by (try simp only [List.map_toArray, List.map_cons, List.map_nil]); first | done | rfl) ?_; (with_reducible refine (strings_Cut.calls rest pt b1 b2 b3 _ A3.out).mono ?_); rintro e w' ⟨rfl, ⟨nd, rfl⟩⟩; refine ⟨_, rfl, ?_⟩))
                go_roundg k1
                case measure => have := HK1.out; omega
                case rel => exact ⟨_, _, _, _, _, _, _, _, rfl, rfl, rfl, H', ⟨by have := HK1.out; omega⟩, ⟨((HC1.out.drewN _).far _ _ _ (by omega))⟩, ⟨(HC2.out.drewN _).s2 _⟩, ⟨below_set (by repeat (first | exact HB.out | apply pw_below_drewN)) (by omega)⟩⟩
              · rw [hs] at H
                have H' := Aside0.mk H
                have x0 := HC2.out.c3
                have z0 := HC2.out.fz 3
                clear H hs h0 h5 c5 c5b
                go_wp2_with (first | ((with_reducible refine gate_callee (f := 32) rfl ?_); refine goesL_ (some 16) rfl rfl Try.func32 (by kernel_rfl) rfl #[.string rest, .string pt] rfl (by (try simp only [List.map_toArray, List.map_cons, List.map_nil]); first | done | rfl) ?_; (with_reducible refine (strings_Cut.calls rest pt b1 b2 b3 _ A3.out).mono ?_); rintro e w' ⟨rfl, ⟨nd, rfl⟩⟩; refine ⟨_, rfl, ?_⟩))
                go_roundg k1
                case measure => have := HK1.out; omega
                case rel => exact ⟨_, _, _, _, _, _, _, _, rfl, rfl, rfl, H', ⟨by have := HK1.out; omega⟩, ⟨((HC1.out.drewN _).far _ _ _ (by omega))⟩, ⟨(HC2.out.drewN _).s3 _⟩, ⟨below_set (by repeat (first | exact HB.out | apply pw_below_drewN)) (by omega)⟩⟩
              · rw [hs] at H
                have H' := Aside0.mk H
                have x0 := HC2.out.c4
                have z0 := HC2.out.fz 4
                clear H hs h0 h5 c5 c5b
                go_wp2_with (first | ((with_reducible refine gate_callee (f := 32) rfl ?_); refine goesL_ (some 16) rfl rfl Try.func32 (by kernel_rfl) rfl #[.string rest, .string pt] rfl (by (try simp only [List.map_toArray, List.map_cons, List.map_nil]); first | done | rfl) ?_; (with_reducible refine (strings_Cut.calls rest pt b1 b2 b3 _ A3.out).mono ?_); rintro e w' ⟨rfl, ⟨nd, rfl⟩⟩; refine ⟨_, rfl, ?_⟩))
                go_roundg k1
                case measure => have := HK1.out; omega
                case rel => exact ⟨_, _, _, _, _, _, _, _, rfl, rfl, rfl, H', ⟨by have := HK1.out; omega⟩, ⟨((HC1.out.drewN _).far _ _ _ (by omega))⟩, ⟨(HC2.out.drewN _).s4 _⟩, ⟨below_set (by repeat (first | exact HB.out | apply pw_below_drewN)) (by omega)⟩⟩
            · rw [if_neg h5] at H
              cases H
          · rw [if_neg h0] at H
            cases H

def content_Valid.l0 : Nat → List ByteArray → Int → Int → Option Bool
  | 0, _, _, _ => none
  | k + 1, L, n, i => if i < n then (if 0 ≤ i then (if i < 5 then (content_word.f k (L.getD i.toNat noStr)).bind fun t => (if t = true then content_Valid.l0 k L n (i + 1) else some false) else none) else none) else some (decide (0 < n))
def five (L : List ByteArray) : Option (ByteArray × ByteArray × ByteArray × ByteArray × ByteArray) := match L with
  | [a0, a1, a2, a3, a4] => some (a0, a1, a2, a3, a4)
  | _ => none
def content_Valid.f (k : Nat) (s : ByteArray) : Option Bool := if (s.size : Int) > 24 then some false else (segments.f k s).bind fun b => (five b.1).bind fun _ => content_Valid.l0 k b.1 b.2 0
theorem five_some {L : List ByteArray} {x : ByteArray × ByteArray × ByteArray × ByteArray × ByteArray} (h : five L = some x) : L = [x.1, x.2.1, x.2.2.1, x.2.2.2.1, x.2.2.2.2] := by
  unfold five at h
  split at h
  · injection h with h
    subst h
    rfl
  · cases h
theorem segments.mono_l : ∀ k n L rest more, LeO (segments.l0 k n L rest more) (segments.l0 (k + 1) n L rest more)
  | 0, _, _, _, _ => fun r h => by simp [segments.l0] at h
  | k + 1, n, L, rest, more => by
    have ih := segments.mono_l k
    rw [segments.l0, segments.l0]
    refine LeO.ite (LeO.ite (LeO.refl _) (LeO.bind (LeO.refl _) (fun _ => LeO.ite (LeO.ite (ih _ _ _ _) (LeO.refl _)) (LeO.refl _)))) (LeO.refl _)
theorem content_Valid.mono_l : ∀ k L n i, LeO (content_Valid.l0 k L n i) (content_Valid.l0 (k + 1) L n i)
  | 0, _, _, _ => fun r h => by simp [content_Valid.l0] at h
  | k + 1, L, n, i => by
    have ih := content_Valid.mono_l k
    rw [content_Valid.l0, content_Valid.l0]
    refine LeO.ite (LeO.ite (LeO.ite (LeO.bind (content_word.mono _ _) (fun _ => LeO.ite (ih _ _ _) (LeO.refl _))) (LeO.refl _)) (LeO.refl _)) (LeO.refl _)
theorem content_Valid.mono : ∀ a0 k, LeO (content_Valid.f k a0) (content_Valid.f (k + 1) a0) := by
  intro a0 k
  unfold content_Valid.f segments.f
  exact LeO.ite (LeO.refl _) (LeO.bind (segments.mono_l _ _ _ _ _) (fun _ => LeO.bind (LeO.refl _) (fun _ => content_Valid.mono_l _ _ _ _)))

set_option maxHeartbeats 8000000 in
set_option maxRecDepth 100000 in
theorem content_Valid.calls (k : Nat) (a0 : ByteArray) (r : Bool) (w : World) (h : content_Valid.f k a0 = some r) :
    Calls Try.prog 10 #[.string a0] w fun e w' => e = .returned (.bool r) ∧ Below w.heap.size w w' := by
  have H : (if (a0.size : Int) > 24 then some false else (segments.f k a0).bind fun b => (five b.1).bind fun _ => content_Valid.l0 k b.1 b.2 0) = some r := h
  clear h
  have HB := Aside0.mk (Below.refl w.heap.size w)
  by_cases c3 : (a0.size : Int) > 24
  · rw [if_pos c3] at H
    have c3b0 : decide (24 < (a0.size : Int)) = true := decide_eq_true c3
    have c3b1 : decide (24 < a0.size) = true := decide_eq_true (by omega)
    clear c3
    obtain rfl := Option.some.inj H
    go_enter Try.func10, Try.ntmps10
    go_wp2
    go_ret
    exact ⟨rfl, HB.out⟩
  · rw [if_neg c3] at H
    have c3b0 : decide (24 < (a0.size : Int)) = false := decide_eq_false c3
    have c3b1 : decide (24 < a0.size) = false := decide_eq_false (by omega)
    clear c3
    replace H := Option.bind_eq_some_iff.mp H
    obtain ⟨⟨L, n⟩, A30, H⟩ := H
    replace H := Option.bind_eq_some_iff.mp H
    obtain ⟨⟨b0, b1, b2, b3, b4⟩, hf, H⟩ := H
    replace H : content_Valid.l0 k L n 0 = some r := H
    have hL := five_some hf
    simp only at hL A30
    clear hf
    subst hL
    have A3 := Aside0.mk A30
    have H' := Aside0.mk H
    clear A30 H
    go_enter Try.func10, Try.ntmps10
    go_wp2_with (first | ((with_reducible refine gate_callee (f := 26) rfl ?_); refine goesL_ (some 11) rfl rfl Try.func26 (by kernel_rfl) rfl #[.string a0] rfl (by (try simp only [List.map_toArray, List.map_cons, List.map_nil]); first | done | rfl) ?_; (with_reducible refine (segments.calls k a0 b0 b1 b2 b3 b4 n _ A3.out).mono ?_); rintro e w1 ⟨rfl, hb⟩; refine ⟨_, rfl, ?_⟩; have n0_ := Aside0.mk (below_step (by repeat (first | exact HB.out | apply below_alloc | apply pw_below_drewN | apply below_drew1)) hb); clear HB; have HB := n0_; clear n0_ hb))
    go_loopg [15] k (fun kq v15 w' => ∃ (i : Int), v15 = .int .i64 i ∧ Aside0 (content_Valid.l0 kq [b0, b1, b2, b3, b4] n i = some r) ∧ Aside0 (kq ≤ k) ∧ Aside0 (Arr w' w1.heap.size b0 b1 b2 b3 b4) ∧ Aside0 (Below w.heap.size w w') ∧ Aside0 (w.heap.size ≤ w1.heap.size))
    case atStart => exact ⟨0, rfl, H', ⟨Nat.le_refl _⟩, ⟨Arr.new _ _ _ _ _ _⟩, ⟨by repeat (first | exact HB.out | apply below_alloc)⟩, ⟨HB.out.size⟩⟩
    case round =>
      clear H' HB
      obtain ⟨i, rfl, HA, HK1, HC, HB, HW⟩ := hrel
      cases gk with
      | zero => exact absurd HA.out (by simp [content_Valid.l0])
      | succ k1 =>
        have H := HA.out
        clear HA
        simp only [content_Valid.l0] at H
        by_cases c1 : i < n
        · rw [if_pos c1] at H
          have c1b : decide (i < n) = true := decide_eq_true c1
          by_cases h0 : 0 ≤ i
          · rw [if_pos h0] at H
            by_cases h5 : i < 5
            · rw [if_pos h5] at H
              replace H := Option.bind_eq_some_iff.mp H
              obtain ⟨t, hw, H⟩ := H
              have hi : i = 0 ∨ i = 1 ∨ i = 2 ∨ i = 3 ∨ i = 4 := by omega
              clear c1 h0 h5
              rcases hi with rfl | rfl | rfl | rfl | rfl
              · replace hw : content_word.f k1 b0 = some t := hw
                have A5 := Aside0.mk hw
                have x0 := HC.out.c0
                clear hw
                cases t with
                | true =>
                  replace H : content_Valid.l0 k1 [b0, b1, b2, b3, b4] n 1 = some r := H
                  have H' := Aside0.mk H
                  clear H
                  go_wp2_with (first | ((with_reducible refine gate_callee (f := 27) rfl ?_); refine goesL_ (some 21) rfl rfl Try.func27 (by kernel_rfl) rfl #[.string b0] rfl (by (try simp only [List.map_toArray, List.map_cons, List.map_nil]); first | done | rfl) ?_; (with_reducible refine (content_word.calls k1 b0 true _ A5.out).mono ?_); rintro e w' ⟨rfl, ⟨nd, rfl⟩⟩; refine ⟨_, rfl, ?_⟩))
                  go_roundg k1
                  case measure => have := HK1.out; omega
                  case rel => exact ⟨_, rfl, H', ⟨by have := HK1.out; omega⟩, ⟨HC.out.drewN _⟩, ⟨by repeat (first | exact HB.out | apply pw_below_drewN)⟩, HW⟩
                | false =>
                  replace H : some false = some r := H
                  obtain rfl := Option.some.inj H
                  go_wp2_with (first | ((with_reducible refine gate_callee (f := 27) rfl ?_); refine goesL_ (some 21) rfl rfl Try.func27 (by kernel_rfl) rfl #[.string b0] rfl (by (try simp only [List.map_toArray, List.map_cons, List.map_nil]); first | done | rfl) ?_; (with_reducible refine (content_word.calls k1 b0 false _ A5.out).mono ?_); rintro e w' ⟨rfl, ⟨nd, rfl⟩⟩; refine ⟨_, rfl, ?_⟩))
                  go_ret
                  exact ⟨rfl, by repeat (first | exact HB.out | apply pw_below_drewN)⟩
              · replace hw : content_word.f k1 b1 = some t := hw
                have A5 := Aside0.mk hw
                have x0 := HC.out.c1
                clear hw
                cases t with
                | true =>
                  replace H : content_Valid.l0 k1 [b0, b1, b2, b3, b4] n 2 = some r := H
                  have H' := Aside0.mk H
                  clear H
                  go_wp2_with (first | ((with_reducible refine gate_callee (f := 27) rfl ?_); refine goesL_ (some 21) rfl rfl Try.func27 (by kernel_rfl) rfl #[.string b1] rfl (by (try simp only [List.map_toArray, List.map_cons, List.map_nil]); first | done | rfl) ?_; (with_reducible refine (content_word.calls k1 b1 true _ A5.out).mono ?_); rintro e w' ⟨rfl, ⟨nd, rfl⟩⟩; refine ⟨_, rfl, ?_⟩))
                  go_roundg k1
                  case measure => have := HK1.out; omega
                  case rel => exact ⟨_, rfl, H', ⟨by have := HK1.out; omega⟩, ⟨HC.out.drewN _⟩, ⟨by repeat (first | exact HB.out | apply pw_below_drewN)⟩, HW⟩
                | false =>
                  replace H : some false = some r := H
                  obtain rfl := Option.some.inj H
                  go_wp2_with (first | ((with_reducible refine gate_callee (f := 27) rfl ?_); refine goesL_ (some 21) rfl rfl Try.func27 (by kernel_rfl) rfl #[.string b1] rfl (by (try simp only [List.map_toArray, List.map_cons, List.map_nil]); first | done | rfl) ?_; (with_reducible refine (content_word.calls k1 b1 false _ A5.out).mono ?_); rintro e w' ⟨rfl, ⟨nd, rfl⟩⟩; refine ⟨_, rfl, ?_⟩))
                  go_ret
                  exact ⟨rfl, by repeat (first | exact HB.out | apply pw_below_drewN)⟩
              · replace hw : content_word.f k1 b2 = some t := hw
                have A5 := Aside0.mk hw
                have x0 := HC.out.c2
                clear hw
                cases t with
                | true =>
                  replace H : content_Valid.l0 k1 [b0, b1, b2, b3, b4] n 3 = some r := H
                  have H' := Aside0.mk H
                  clear H
                  go_wp2_with (first | ((with_reducible refine gate_callee (f := 27) rfl ?_); refine goesL_ (some 21) rfl rfl Try.func27 (by kernel_rfl) rfl #[.string b2] rfl (by (try simp only [List.map_toArray, List.map_cons, List.map_nil]); first | done | rfl) ?_; (with_reducible refine (content_word.calls k1 b2 true _ A5.out).mono ?_); rintro e w' ⟨rfl, ⟨nd, rfl⟩⟩; refine ⟨_, rfl, ?_⟩))
                  go_roundg k1
                  case measure => have := HK1.out; omega
                  case rel => exact ⟨_, rfl, H', ⟨by have := HK1.out; omega⟩, ⟨HC.out.drewN _⟩, ⟨by repeat (first | exact HB.out | apply pw_below_drewN)⟩, HW⟩
                | false =>
                  replace H : some false = some r := H
                  obtain rfl := Option.some.inj H
                  go_wp2_with (first | ((with_reducible refine gate_callee (f := 27) rfl ?_); refine goesL_ (some 21) rfl rfl Try.func27 (by kernel_rfl) rfl #[.string b2] rfl (by (try simp only [List.map_toArray, List.map_cons, List.map_nil]); first | done | rfl) ?_; (with_reducible refine (content_word.calls k1 b2 false _ A5.out).mono ?_); rintro e w' ⟨rfl, ⟨nd, rfl⟩⟩; refine ⟨_, rfl, ?_⟩))
                  go_ret
                  exact ⟨rfl, by repeat (first | exact HB.out | apply pw_below_drewN)⟩
              · replace hw : content_word.f k1 b3 = some t := hw
                have A5 := Aside0.mk hw
                have x0 := HC.out.c3
                clear hw
                cases t with
                | true =>
                  replace H : content_Valid.l0 k1 [b0, b1, b2, b3, b4] n 4 = some r := H
                  have H' := Aside0.mk H
                  clear H
                  go_wp2_with (first | ((with_reducible refine gate_callee (f := 27) rfl ?_); refine goesL_ (some 21) rfl rfl Try.func27 (by kernel_rfl) rfl #[.string b3] rfl (by (try simp only [List.map_toArray, List.map_cons, List.map_nil]); first | done | rfl) ?_; (with_reducible refine (content_word.calls k1 b3 true _ A5.out).mono ?_); rintro e w' ⟨rfl, ⟨nd, rfl⟩⟩; refine ⟨_, rfl, ?_⟩))
                  go_roundg k1
                  case measure => have := HK1.out; omega
                  case rel => exact ⟨_, rfl, H', ⟨by have := HK1.out; omega⟩, ⟨HC.out.drewN _⟩, ⟨by repeat (first | exact HB.out | apply pw_below_drewN)⟩, HW⟩
                | false =>
                  replace H : some false = some r := H
                  obtain rfl := Option.some.inj H
                  go_wp2_with (first | ((with_reducible refine gate_callee (f := 27) rfl ?_); refine goesL_ (some 21) rfl rfl Try.func27 (by kernel_rfl) rfl #[.string b3] rfl (by (try simp only [List.map_toArray, List.map_cons, List.map_nil]); first | done | rfl) ?_; (with_reducible refine (content_word.calls k1 b3 false _ A5.out).mono ?_); rintro e w' ⟨rfl, ⟨nd, rfl⟩⟩; refine ⟨_, rfl, ?_⟩))
                  go_ret
                  exact ⟨rfl, by repeat (first | exact HB.out | apply pw_below_drewN)⟩
              · replace hw : content_word.f k1 b4 = some t := hw
                have A5 := Aside0.mk hw
                have x0 := HC.out.c4
                clear hw
                cases t with
                | true =>
                  replace H : content_Valid.l0 k1 [b0, b1, b2, b3, b4] n 5 = some r := H
                  have H' := Aside0.mk H
                  clear H
                  go_wp2_with (first | ((with_reducible refine gate_callee (f := 27) rfl ?_); refine goesL_ (some 21) rfl rfl Try.func27 (by kernel_rfl) rfl #[.string b4] rfl (by (try simp only [List.map_toArray, List.map_cons, List.map_nil]); first | done | rfl) ?_; (with_reducible refine (content_word.calls k1 b4 true _ A5.out).mono ?_); rintro e w' ⟨rfl, ⟨nd, rfl⟩⟩; refine ⟨_, rfl, ?_⟩))
                  go_roundg k1
                  case measure => have := HK1.out; omega
                  case rel => exact ⟨_, rfl, H', ⟨by have := HK1.out; omega⟩, ⟨HC.out.drewN _⟩, ⟨by repeat (first | exact HB.out | apply pw_below_drewN)⟩, HW⟩
                | false =>
                  replace H : some false = some r := H
                  obtain rfl := Option.some.inj H
                  go_wp2_with (first | ((with_reducible refine gate_callee (f := 27) rfl ?_); refine goesL_ (some 21) rfl rfl Try.func27 (by kernel_rfl) rfl #[.string b4] rfl (by (try simp only [List.map_toArray, List.map_cons, List.map_nil]); first | done | rfl) ?_; (with_reducible refine (content_word.calls k1 b4 false _ A5.out).mono ?_); rintro e w' ⟨rfl, ⟨nd, rfl⟩⟩; refine ⟨_, rfl, ?_⟩))
                  go_ret
                  exact ⟨rfl, by repeat (first | exact HB.out | apply pw_below_drewN)⟩
            · rw [if_neg h5] at H
              cases H
          · rw [if_neg h0] at H
            cases H
        · rw [if_neg c1] at H
          have c1b : decide (i < n) = false := decide_eq_false c1
          clear c1
          obtain rfl := Option.some.inj H
          go_wp2
          go_ret
          exact ⟨by first | rfl | (simp; done), by repeat (first | exact HB.out | apply pw_below_drewN)⟩

/-! Strings' order, as the printed functions spell it. -/
theorem bytes_total : ∀ (x y : List UInt8), (Op.bytesLess x y || x == y) = !Op.bytesLess y x
  | [], [] => rfl
  | [], _ :: _ => rfl
  | _ :: _, [] => rfl
  | a :: x, b :: y => by
    have ih := bytes_total x y
    simp only [Op.bytesLess]
    by_cases h1 : a < b
    · have h2 : ¬ b < a := by rw [UInt8.lt_iff_toNat_lt] at h1 ⊢; omega
      have h3 : (b == a) = false := by rw [beq_eq_false_iff_ne]; intro h; rw [h, UInt8.lt_iff_toNat_lt] at h1; omega
      simp [h1, h2, h3]
    · by_cases h2 : b < a
      · have h3 : (a == b) = false := by rw [beq_eq_false_iff_ne]; intro h; rw [h, UInt8.lt_iff_toNat_lt] at h2; omega
        have h4 : (a :: x == b :: y) = false := by rw [beq_eq_false_iff_ne]; intro h; injection h with h _; rw [h] at h3; simp at h3
        simp [h1, h2, h3, h4]
      · have h3 : a = b := by
          rw [UInt8.lt_iff_toNat_lt] at h1 h2
          exact UInt8.toNat_inj.1 (by omega)
        subst h3
        have e : (a :: x == a :: y) = (x == y) := by simp
        rw [e]
        simp [h1]
        simpa using ih
@[go_sem] theorem string_leq (t : TypeId) (a b : ByteArray) : binOp .leq t (.string a) (.string b) = pure (.bool (!Op.bytesLess b.toList a.toList)) := by
  rw [← bytes_total]
  simp [binOp, Op.stringOp]
@[go_sem] theorem string_gtr (t : TypeId) (a b : ByteArray) : binOp .gtr t (.string a) (.string b) = pure (.bool (Op.bytesLess b.toList a.toList)) := by
  have h := bytes_total a.toList b.toList
  simp only [binOp, Op.stringOp, h, Bool.not_not]
@[go_sem] theorem string_geq (t : TypeId) (a b : ByteArray) : binOp .geq t (.string a) (.string b) = pure (.bool (!Op.bytesLess a.toList b.toList)) := by
  simp [binOp, Op.stringOp]
end Go.Proofs.Ytfgfdjlimhlcjaa.Hand
