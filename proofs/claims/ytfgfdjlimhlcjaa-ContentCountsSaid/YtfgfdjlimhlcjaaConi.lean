/- The walks of ContentKin and ContentCounts with their plain laws. The condition: the row's own bounds. -/
import Derived.Test.YtfgfdjlimhlcjaaConh
import Derived.Test.YtfgfdjlimhlcjaaCone
namespace Go.Proofs.Ytfgfdjlimhlcjaa.Con
open Go.RowKit Go.Proofs.Ytfgfdjlimhlcjaa.QCon Go.Proofs.YtfgfdjlimhlcjaaW.PrintWords Go.Proofs.YtfgfdjlimhlcjaaW.PrintLast Go.Proofs.Ytfgfdjlimhlcjaa.Open
theorem kin_walk {W0 : World} (A0 : Option Addr) (c0 : Nat) (l0 : List S42) (hr0 : Kd.C k42 W0 A0 l0.length l0) (hc0 : l0.length ≤ c0) (b0 : l0.length * 32 ≤ reachBytes ∧ ∀ y ∈ l0, y.f0.size ≤ reachBytes ∧ y.f1.size ≤ reachBytes) :
    Calls Try.prog 7 #[.slice A0 l0.length c0] W0 fun e w' => e = .returned (.bool true) ∧ Below W0.heap.size W0 w' := by
  have hR := reach_le
  obtain ⟨k, hk⟩ := kin_law reachBytes (by omega) l0 b0.2
  exact examboardlaw13_ContentKin.calls k A0 c0 l0 true W0 hr0 hc0 hk
theorem counts_walk {W0 : World} (A0 : Option Addr) (c0 : Nat) (l0 : List S42) (hr0 : Kd.C k42 W0 A0 l0.length l0) (hc0 : l0.length ≤ c0) (b0 : l0.length * 32 ≤ reachBytes ∧ ∀ y ∈ l0, y.f0.size ≤ reachBytes ∧ y.f1.size ≤ reachBytes)
    (A1 : Option Addr) (c1 : Nat) (l1 : List ByteArray) (hr1 : Kd.C Kd.string W0 A1 l1.length l1) (hc1 : l1.length ≤ c1) (b1 : l1.length * 16 ≤ reachBytes ∧ ∀ y ∈ l1, y.size ≤ reachBytes) (a2 : Int) (w2 : (Lit.int .u8 a2).wf = true) :
    Calls Try.prog 5 #[.slice A0 l0.length c0, .slice A1 l1.length c1, .int .u8 a2] W0 fun e w' => e = .returned (.bool true) ∧ Below W0.heap.size W0 w' := by
  have hR := reach_le
  have ha : 0 ≤ a2 ∧ a2 ≤ 255 := by
    have h : IntKind.u8.min ≤ a2 ∧ a2 ≤ IntKind.u8.max := by simpa [Lit.wf] using w2
    exact h
  obtain ⟨k, hk⟩ := counts_law reachBytes (by omega) l0 b0.2 l1 (by omega) a2 ha
  exact examboardlaw13_ContentCounts.calls k A0 c0 l0 A1 c1 l1 a2 true W0 hr0 hc0 hr1 hc1 hk
end Go.Proofs.Ytfgfdjlimhlcjaa.Con
