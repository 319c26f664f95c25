/- The kinds of an outline's topics, of codes and of cells, opened; and the walk of ContentLists with its plain law. The condition: the row's own bounds. -/
import Derived.Test.YtfgfdjlimhlcjaaCond
import Derived.Test.YtfgfdjlimhlcjaaOpen
namespace Go.Proofs.Ytfgfdjlimhlcjaa.Con
open Go.RowKit Go.Proofs.Ytfgfdjlimhlcjaa.QCon Go.Proofs.YtfgfdjlimhlcjaaW.PrintWords Go.Proofs.YtfgfdjlimhlcjaaW.PrintLast Go.Proofs.Ytfgfdjlimhlcjaa.Open
section
variable {H : Type} {enc : TypeId × Value → H} {W : World}
theorem opens42 : Opens enc Try.prog W 42 k42 (fun x => x.f0.size ≤ reachBytes ∧ x.f1.size ≤ reachBytes) :=
  opens_struct Try.underlying42 (ts := [9, 9]) (by kernel_rfl) rfl (by kernel_rfl) (opensF_pair (opens_string Try.underlying9) (opensF_one (opens_string Try.underlying9))) (fun x : S42 => (x.f0, x.f1)) (fun y => ⟨y.1, y.2⟩) (fun _ => rfl)
theorem opens51 : Opens enc Try.prog W 51 k51 (fun x => x.f0.size ≤ reachBytes ∧ (Lit.int .i64 x.f1).wf = true ∧ (Lit.int .i64 x.f2).wf = true) :=
  opens_struct Try.underlying51 (ts := [9, 3, 3]) (by kernel_rfl) rfl (by kernel_rfl) (opensF_pair (opens_string Try.underlying9) (opensF_pair (opens_int Try.underlying3) (opensF_one (opens_int Try.underlying3)))) (fun x : S51 => (x.f0, x.f1, x.f2)) (fun y => ⟨y.1, y.2.1, y.2.2⟩) (fun _ => rfl)
theorem opens27 : Opens enc Try.prog W 27 (Kd.slice 42 k42) (fun ys => ys.length * 32 ≤ reachBytes ∧ ∀ y ∈ ys, y.f0.size ≤ reachBytes ∧ y.f1.size ≤ reachBytes) := opens_slice Try.underlying27 opens42 (by kernel_rfl) (by kernel_rfl)
theorem opens28 : Opens enc Try.prog W 28 (Kd.slice 9 Kd.string) (fun ys => ys.length * 16 ≤ reachBytes ∧ ∀ y ∈ ys, y.size ≤ reachBytes) := opens_slice Try.underlying28 (opens_string Try.underlying9) (by kernel_rfl) (by kernel_rfl)
theorem opens29 : Opens enc Try.prog W 29 (Kd.slice 51 k51) (fun ys => ys.length * 32 ≤ reachBytes ∧ ∀ y ∈ ys, y.f0.size ≤ reachBytes ∧ (Lit.int .i64 y.f1).wf = true ∧ (Lit.int .i64 y.f2).wf = true) := opens_slice Try.underlying29 opens51 (by kernel_rfl) (by kernel_rfl)
end
theorem reach_le : reachBytes ≤ 140737488355328 := by decide
theorem lists_walk {W0 : World} (A0 : Option Addr) (c0 : Nat) (l0 : List S42) (hr0 : Kd.C k42 W0 A0 l0.length l0) (hc0 : l0.length ≤ c0) (b0 : l0.length * 32 ≤ reachBytes ∧ ∀ y ∈ l0, y.f0.size ≤ reachBytes ∧ y.f1.size ≤ reachBytes) (a1 : ByteArray) (b1 : a1.size ≤ reachBytes)
    (A2 : Option Addr) (c2 : Nat) (l2 : List ByteArray) (hr2 : Kd.C Kd.string W0 A2 l2.length l2) (hc2 : l2.length ≤ c2) (b2 : l2.length * 16 ≤ reachBytes ∧ ∀ y ∈ l2, y.size ≤ reachBytes) (A3 : Option Addr) (c3 : Nat) (l3 : List S51) (hr3 : Kd.C k51 W0 A3 l3.length l3) (hc3 : l3.length ≤ c3)
    (b3 : l3.length * 32 ≤ reachBytes ∧ ∀ y ∈ l3, y.f0.size ≤ reachBytes ∧ (Lit.int .i64 y.f1).wf = true ∧ (Lit.int .i64 y.f2).wf = true) :
    Calls Try.prog 4 #[.slice A0 l0.length c0, .string a1, .slice A2 l2.length c2, .slice A3 l3.length c3] W0 fun e w' => e = .returned (.bool true) ∧ Below W0.heap.size W0 w' := by
  have hR := reach_le
  obtain ⟨k, hk⟩ := lists_law l0 a1 l2 l3 (by omega) (fun t ht => by have := (b0.2 t ht).1; omega) (by omega) (by omega) (by omega) (fun t ht => by have := (b3.2 t ht).1; omega)
  exact examboardlaw13_ContentLists.calls k A0 c0 l0 a1 A2 c2 l2 A3 c3 l3 true W0 hr0 hc0 hr2 hc2 hr3 hc3 hk
end Go.Proofs.Ytfgfdjlimhlcjaa.Con
