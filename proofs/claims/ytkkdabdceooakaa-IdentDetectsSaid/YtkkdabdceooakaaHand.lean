import Derived.Test.YtkkdabdceooakaaProg
import Derived.Below
import Derived.Deep.Draws
import Derived.Deep.AppendLies
import Derived.Maps.AppendAt
import Derived.OwnWalk
import Derived.Laws.BytesArg
import Derived.Laws.MakeOwn
import Derived.Laws.OwnMore
import Derived.Deep.OwnRows
import Derived.Tactics
import Derived.Lib.ConvBytes
import Derived.Laws.Slices
import Derived.WalkKit
import Derived.KernelRfl
import Derived.RowKit3
import Derived.Deep.LoopGhost
import Derived.Deep.QuietTactic
import Derived.BigQuiet
import Derived.WideLaws
import Derived.Deep.DeepCutAuto
import Derived.Deep.CutBlock
import Derived.Deep.RegionHeld3
import Derived.Laws.Rows
import Derived.Lib.AppendStr
import Derived.ArgAppend
import Derived.Laws.IdiomCopy
import Derived.OrdersHeld
import Derived.Laws.BitsLemmas
import Derived.RowKit
import Derived.Test.YtkkdabdceooakaaWWords
import Derived.Test.YtkkdabdceooakaaWLast
import Derived.Test.YtkkdabdceooakaaWTab
import Derived.Test.YtkkdabdceooakaaWFour
import Derived.Test.YtkkdabdceooakaaWQPut
import Derived.Test.YtkkdabdceooakaaWApart
import Derived.Test.YtkkdabdceooakaaWArr
import Derived.Test.YtkkdabdceooakaaWZeros
import Derived.Test.YtkkdabdceooakaaWFoot
import Derived.Test.YtkkdabdceooakaaWKept
import Derived.Test.YtkkdabdceooakaaWShare
import Derived.Test.YtkkdabdceooakaaWN
import Derived.Test.YtkkdabdceooakaaWFootNe
import Derived.Test.YtkkdabdceooakaaWAt
import Derived.Test.YtkkdabdceooakaaWEqStruct
import Derived.Test.YtkkdabdceooakaaWRepsOne
import Derived.Test.YtkkdabdceooakaaWInv
import Derived.Test.YtkkdabdceooakaaWInvWords
import Derived.Test.YtkkdabdceooakaaWGuard
import Derived.Test.YtkkdabdceooakaaWNEv
import Derived.Test.YtkkdabdceooakaaWMore
import Derived.Test.YtkkdabdceooakaaConv
namespace Go.Proofs.Ytkkdabdceooakaa.Hand
open Go.RowKit Go.Proofs.YtkkdabdceooakaaW.PrintWords Go.Proofs.YtkkdabdceooakaaW.PrintLast Go.Proofs.YtkkdabdceooakaaW.PrintMore Go.Proofs.Ytkkdabdceooakaa.Conv
attribute [local go_sem] max2_int min2_int max_two min_two max_three min_three max_four min_four
set_option linter.unusedVariables false
set_option linter.unusedSimpArgs false

/-! ### ident_number: function 22 -/
def ident_number.l0 : Nat → ByteArray → Int → Int → Option (Int × Bool)
  | 0, _, _, _ => none
  | k + 1, x0, x4, x10 => if x10 < (x0.size : Int) then (if 0 ≤ x10 then (if (bt x0 x10) < 48 then (some (0, false)) else (if (bt x0 x10) > 57 then (some (0, false)) else (ident_number.l0 k x0 (wrap64 ((wrap64 (10 * x4)) + (((bt x0 x10) - 48) % 256))) (wrap64 (x10 + 1))))) else (none)) else (some (x4, true))
def ident_number.f (k : Nat) (a0 : ByteArray) : Option (Int × Bool) := if a0.size ≤ 9223372036854775807 then ident_number.l0 k a0 0 0 else none
theorem ident_number.mono_l : ∀ k, (∀ y0 y1 y2, LeO (ident_number.l0 k y0 y1 y2) (ident_number.l0 (k + 1) y0 y1 y2))
  | 0 => fun _ _ _ r h => by simp [ident_number.l0] at h
  | k + 1 => by
    have ih0 := ident_number.mono_l k
    · intro y0 y1 y2
      unfold ident_number.l0
      repeat' first
      | (with_reducible exact ih0 _ _ _)
      | (with_reducible exact LeO.refl _)
      | (with_reducible exact LeO.none _)
      | (with_reducible refine LeO.ite ?_ ?_)
      | exact ih0 _ _ _
theorem ident_number.mono : ∀ a0 k, LeO (ident_number.f k a0) (ident_number.f (k + 1) a0) := by
  intro a0 k
  unfold ident_number.f
  refine LeO.ite (ident_number.mono_l k _ _ _) (LeO.none _)

set_option maxHeartbeats 8000000 in
set_option maxRecDepth 100000 in
theorem ident_number.calls (k : Nat) (a0 : ByteArray) (r1 : Int) (r2 : Bool) (w : World) (h : ident_number.f k a0 = some (r1, r2)) :
    Calls Try.prog 22 #[.string a0] w fun e w' => e = .returned (.tuple #[.int .i64 r1, .bool r2]) ∧ Below w.heap.size w w' := by
  unfold ident_number.f at h
  by_cases hs : a0.size ≤ 9223372036854775807
  · rw [if_pos hs] at h
    have H' := Aside0.mk h
    have HS := Aside0.mk hs
    clear h hs
    go_enter Try.func22, Try.ntmps22
    go_wp2_with (first | ((with_reducible refine gate_dst (N := 8) rfl ?_); refine conv_event rfl rfl a0 rfl Try.underlying9 Try.underlying31 Try.underlying5 HS.out ?_; intro w1 c ad hr0 hc0 hb0; have HR0 := Aside0.mk hr0; have HC0 := Aside0.mk hc0; have HB := Aside0.mk hb0; have HL := Aside0.mk (nums8_length a0); clear hr0 hc0 hb0))
    go_loopg [4, 6, 10] k (fun kq v4 v6 v10 w' => ∃ (x4_1 : Int) (x10_1 : Int), v4 = .int .i64 x4_1 ∧ v10 = .int .i64 x10_1 ∧ Aside0 (ident_number.l0 kq a0 x4_1 x10_1 = some (r1, r2)) ∧ Aside0 (kq ≤ k) ∧ w' = w1)
    case atStart => exact ⟨(0), (0), (by first | rfl | (simp; done) | (simp [*]; done)), (by first | rfl | (simp; done) | (simp [*]; done)), H', ⟨Nat.le_refl _⟩, rfl⟩
    case round =>
      clear H'
      obtain ⟨x4_1, x10_1, rfl, rfl, HA, HK1, rfl⟩ := hrel
      cases gk with
      | zero => exact absurd HA.out (by simp [ident_number.l0])
      | succ k1 =>
        have H := HA.out
        clear HA
        simp only [ident_number.l0] at H
        by_cases c2 : x10_1 < (a0.size : Int)
        · rw [if_pos c2] at H
          have c2b0 : decide (x10_1 < ((nums8 a0).length : Int)) = true := decide_eq_true (by rw [HL.out]; exact c2)
          clear c2
          by_cases c3 : 0 ≤ x10_1
          · rw [if_pos c3] at H
            have c3b0 : decide (0 ≤ x10_1) = true := decide_eq_true c3
            clear c3
            have p4 : 0 ≤ (x10_1 : Int) := of_decide_eq_true (by first | (with_reducible assumption) | assumption)
            have q4 : x10_1 < ((nums8 a0).length : Int) := of_decide_eq_true (by first | (with_reducible assumption) | assumption)
            obtain ⟨ad4, e4, hx4⟩ := Kd.at_int HR0.out x10_1 p4 q4
            cases e4
            rw [rd_nums8] at hx4
            replace p4 := eq_true p4
            replace q4 := eq_true q4
            by_cases c5 : (bt a0 x10_1) < 48
            · rw [if_pos c5] at H
              have c5b0 : decide ((bt a0 x10_1) < 48) = true := decide_eq_true c5
              clear c5
              simp only [Option.some.injEq, Prod.mk.injEq] at H
              obtain ⟨rfl, rfl⟩ := H
              go_wp2
              go_ret2
              exact ⟨by first | rfl | (simp; done) | (simp [*]; done), by repeat (first | exact HB.out | apply pw_below_drewN)⟩
            · rw [if_neg c5] at H
              have c5b0 : decide ((bt a0 x10_1) < 48) = false := decide_eq_false c5
              clear c5
              by_cases c7 : (bt a0 x10_1) > 57
              · rw [if_pos c7] at H
                have c7b0 : decide (57 < (bt a0 x10_1)) = true := decide_eq_true c7
                clear c7
                simp only [Option.some.injEq, Prod.mk.injEq] at H
                obtain ⟨rfl, rfl⟩ := H
                go_wp2
                go_ret2
                exact ⟨by first | rfl | (simp; done) | (simp [*]; done), by repeat (first | exact HB.out | apply pw_below_drewN)⟩
              · rw [if_neg c7] at H
                have c7b0 : decide (57 < (bt a0 x10_1)) = false := decide_eq_false c7
                clear c7
                have H' := Aside0.mk H
                clear H
                go_wp2
                go_roundg k1
                case measure => have := HK1.out; omega
                case rel => exact ⟨_, _, rfl, rfl, H', ⟨by have := HK1.out; omega⟩, rfl⟩
          · rw [if_neg c3] at H
            exact absurd H (by simp)
        · rw [if_neg c2] at H
          have c2b0 : decide (x10_1 < ((nums8 a0).length : Int)) = false := decide_eq_false (by rw [HL.out]; exact c2)
          clear c2
          simp only [Option.some.injEq, Prod.mk.injEq] at H
          obtain ⟨rfl, rfl⟩ := H
          go_wp2
          go_ret2
          exact ⟨by first | rfl | (simp; done) | (simp [*]; done), by repeat (first | exact HB.out | apply pw_below_drewN)⟩
  · rw [if_neg hs] at h
    exact absurd h (by simp)
end Go.Proofs.Ytkkdabdceooakaa.Hand
