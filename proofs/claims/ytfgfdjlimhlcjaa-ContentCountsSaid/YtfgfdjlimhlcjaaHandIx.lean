/- strings: the index of a point in a string, by hand, over this program's own text. No condition. -/
import Derived.Test.YtfgfdjlimhlcjaaProg
import Derived.Below
import Derived.Deep.Draws
import Derived.Deep.AppendLies
import Derived.Maps.AppendAt
import Derived.OwnWalk
import Derived.Laws.BytesArg
import Derived.Laws.MakeOwn
import Derived.Laws.OwnMore
import Derived.Deep.OwnRows
import Derived.Tactics
import Derived.Lib.ConvBytes
import Derived.Laws.Slices
import Derived.WalkKit
import Derived.KernelRfl
import Derived.RowKit3
import Derived.Deep.LoopGhost
import Derived.Deep.QuietTactic
import Derived.BigQuiet
import Derived.WideLaws
import Derived.Deep.DeepCutAuto
import Derived.Deep.CutBlock
import Derived.Deep.RegionHeld3
import Derived.Laws.Rows
import Derived.Lib.AppendStr
import Derived.ArgAppend
import Derived.Laws.IdiomCopy
import Derived.OrdersHeld
import Derived.Laws.BitsLemmas
import Derived.RowKit
import Derived.Test.YtfgfdjlimhlcjaaWWords
import Derived.Test.YtfgfdjlimhlcjaaWLast
import Derived.Test.YtfgfdjlimhlcjaaWTab
import Derived.Test.YtfgfdjlimhlcjaaWFour
import Derived.Test.YtfgfdjlimhlcjaaWQPut
import Derived.Test.YtfgfdjlimhlcjaaWApart
import Derived.Test.YtfgfdjlimhlcjaaWArr
import Derived.Test.YtfgfdjlimhlcjaaWZeros
import Derived.Test.YtfgfdjlimhlcjaaWFoot
import Derived.Test.YtfgfdjlimhlcjaaWKept
import Derived.Test.YtfgfdjlimhlcjaaWShare
import Derived.Test.YtfgfdjlimhlcjaaWN
import Derived.Test.YtfgfdjlimhlcjaaWFootNe
import Derived.Test.YtfgfdjlimhlcjaaWAt
import Derived.Test.YtfgfdjlimhlcjaaWEqStruct
import Derived.Test.YtfgfdjlimhlcjaaWRepsOne
import Derived.Test.YtfgfdjlimhlcjaaWInv
import Derived.Test.YtfgfdjlimhlcjaaWInvWords
import Derived.Test.YtfgfdjlimhlcjaaWGuard
import Derived.Test.YtfgfdjlimhlcjaaWNEv
import Derived.Test.YtfgfdjlimhlcjaaWMore
import Derived.Lib.Bytealg
import Derived.Lib.Strings
namespace Go.Proofs.Ytfgfdjlimhlcjaa.Hand
open Go.RowKit Go.Proofs.YtfgfdjlimhlcjaaW.PrintWords Go.Proofs.YtfgfdjlimhlcjaaW.PrintLast Go.Proofs.YtfgfdjlimhlcjaaW.PrintMore
set_option linter.unusedVariables false
set_option linter.unusedSimpArgs false

set_option maxHeartbeats 1000000 in
set_option maxRecDepth 100000 in
theorem index_byte (s : ByteArray) (c : Int) (w : World) :
    Calls Try.prog 36 #[.string s, .int .u8 c] w fun e w' => e = .returned (.int .i64 (Lib.indexByte s.data.toList c.toNat.toUInt8)) ∧ w' = w := by
  go_enter Try.func36, Try.ntmps36
  go_wp2
  rw [run_callFunc_extern Try.func40 (by kernel_rfl) (by kernel_rfl) (by kernel_rfl) (e := Extern.BytealgIndexByte.indexByte) (by kernel_rfl), Lib.run_indexByteString]
  simp only [Result.andThen]
  rw [Oper.upon_value]
  go_wp2
  go_ret
  exact ⟨rfl, rfl⟩

/-- internal/stringslite.Index at a point. -/
def stringslite_Index.f (a0 : ByteArray) (a1 : ByteArray) : Option (Int) := if a1.toList = ([46] : List UInt8) then some (Lib.indexByte a0.data.toList 46) else none
set_option maxHeartbeats 1000000 in
set_option maxRecDepth 100000 in
theorem stringslite_Index.calls (a0 : ByteArray) (a1 : ByteArray) (r : Int) (w : World) (h : stringslite_Index.f a0 a1 = some r) :
    Calls Try.prog 35 #[.string a0, .string a1] w fun e w' => e = .returned (.int .i64 r) ∧ Drawn0 w w' := by
  unfold stringslite_Index.f at h
  split at h
  · rename_i h1
    obtain rfl : a1 = ⟨#[46]⟩ := by
      rw [Lib.toList_data] at h1
      exact ByteArray.ext (Array.toList_inj.1 h1)
    obtain rfl := Option.some.inj h
    clear h h1
    go_enter Try.func35, Try.ntmps35
    go_wp2_with (first | ((with_reducible refine gate_callee (f := 36) rfl ?_); refine goesL_ (some 30) rfl rfl Try.func36 (by kernel_rfl) rfl #[.string a0, .int .u8 46] rfl (by (try simp only [List.map_toArray, List.map_cons, List.map_nil]); first | done | rfl) ?_; (with_reducible refine (index_byte a0 46 _).mono ?_); rintro e w' ⟨rfl, rfl⟩; refine ⟨_, rfl, ?_⟩))
    · have h : ([(46 : UInt8)] == a0.toList) = true := by assumption
      go_ret
      refine ⟨?_, Drawn0.refl _⟩
      have e : a0.data.toList = [46] := by rw [← Lib.toList_data]; exact (beq_iff_eq.1 h).symm
      rw [e]
      simp [Lib.indexByte]
    · go_ret
      exact ⟨rfl, Drawn0.refl _⟩
  · cases h
end Go.Proofs.Ytfgfdjlimhlcjaa.Hand
