/-
  No cell of these rows narrows 'for every input' (looked for: loops, veiled, ifaces, maps, wideKeys, modest, calm, conditions, laid).
  DERIVED. THE GIVEN ROWS OF THIS SEAT. 6 by the template 'for every input the law returns true; each argument reads behind the call as it read before'; 0 by the template 'total and deterministic' (their statements: YtkkdabdceooakaaTotals.lean).
  GIVEN WITH THE SEED: the statements are not yours to turn. If you find one false, say at which input.
  Laid BY PROGRAM, IN A SANDBOX (cutbox-rows.mjs): the forced cells as the released guide's own fill.sh prints them over the translation 8cd1703ef9676f91… (all of the seat's roots in one cut). By AI agents, Wed Nov 11 2026. No macro, syntax, notation, axiom, sorry.
-/
import Derived.Test.YtkkdabdceooakaaChecked
import GoSem.Claim
import GoSem.ClaimJoined
import GoSem.ClaimMapViews
import Derived.JoinedTies
import Derived.KernelRfl
namespace Go.Proofs.Ytkkdabdceooakaa
/- THE CELL 'sum', in the pinned program and in every row, IS THE sha256 OF THE DUMP (.gsa) THAT YtkkdabdceooakaaProg.lean LOADS. Nothing in Lean hashes anything: it is a label: what it is worth is what the hold of that sum in a sandbox is worth. -/
noncomputable def Try.pinned : Pinned := { name := "ytkkdabdceooakaa", sum := "8cd1703ef9676f911c35b57df53ea01b395a892b90a4b1fe23211002ebc89584", checked := Try.checked }
namespace Rows
def none {H : Type} : Left H := { results := [], args := [] }

/-- 'examboardlaw09.IdentMod': WHATEVER THE INPUT: true; the input reads as it did. -/
def identModSpec : ChangeSpec := { name := "identMod", fn := fun _ => fun
  | [d1, d2] => { results := [.lit (.bool true)], args := [d1, d2] }
  | _ => none }
def identModRow : OpenClaim := { program := "ytkkdabdceooakaa", sum := "8cd1703ef9676f911c35b57df53ea01b395a892b90a4b1fe23211002ebc89584", func := "examboard/examboardlaw09.IdentMod", spec := "identMod", apart := false }
def IdentModSaid : Prop := identModRow.holds Try.pinned (OpenSpec.ofChange identModSpec)

/-- ITS FALSE NEIGHBOUR: 'it returns false'. Refute it at one input. -/
def identModWrong : ChangeSpec := { name := "identMod", fn := fun _ => fun
  | [d1, d2] => { results := [.lit (.bool false)], args := [d1, d2] }
  | _ => none }
def IdentModWrongFalsely : Prop := identModRow.holds Try.pinned (OpenSpec.ofChange identModWrong)

/-- 'examboardlaw09.IdentPrints': WHATEVER THE INPUT: true; the input reads as it did. -/
def identPrintsSpec : ChangeSpec := { name := "identPrints", fn := fun _ => fun
  | [d1, d2] => { results := [.lit (.bool true)], args := [d1, d2] }
  | _ => none }
def identPrintsRow : OpenClaim := { program := "ytkkdabdceooakaa", sum := "8cd1703ef9676f911c35b57df53ea01b395a892b90a4b1fe23211002ebc89584", func := "examboard/examboardlaw09.IdentPrints", spec := "identPrints", apart := false }
def IdentPrintsSaid : Prop := identPrintsRow.holds Try.pinned (OpenSpec.ofChange identPrintsSpec)

/-- ITS FALSE NEIGHBOUR: 'it returns false'. Refute it at one input. -/
def identPrintsWrong : ChangeSpec := { name := "identPrints", fn := fun _ => fun
  | [d1, d2] => { results := [.lit (.bool false)], args := [d1, d2] }
  | _ => none }
def IdentPrintsWrongFalsely : Prop := identPrintsRow.holds Try.pinned (OpenSpec.ofChange identPrintsWrong)

/-- 'examboardlaw09.IdentParses': WHATEVER THE INPUT: true; the input reads as it did. -/
def identParsesSpec : ChangeSpec := { name := "identParses", fn := fun _ => fun
  | [d] => { results := [.lit (.bool true)], args := [d] }
  | _ => none }
def identParsesRow : OpenClaim := { program := "ytkkdabdceooakaa", sum := "8cd1703ef9676f911c35b57df53ea01b395a892b90a4b1fe23211002ebc89584", func := "examboard/examboardlaw09.IdentParses", spec := "identParses", apart := false }
def IdentParsesSaid : Prop := identParsesRow.holds Try.pinned (OpenSpec.ofChange identParsesSpec)

/-- ITS FALSE NEIGHBOUR: 'it returns false'. Refute it at one input. -/
def identParsesWrong : ChangeSpec := { name := "identParses", fn := fun _ => fun
  | [d] => { results := [.lit (.bool false)], args := [d] }
  | _ => none }
def IdentParsesWrongFalsely : Prop := identParsesRow.holds Try.pinned (OpenSpec.ofChange identParsesWrong)

/-- 'examboardlaw09.IdentRoundTrip': WHATEVER THE INPUT: true; the input reads as it did. -/
def identRoundTripSpec : ChangeSpec := { name := "identRoundTrip", fn := fun _ => fun
  | [d1, d2] => { results := [.lit (.bool true)], args := [d1, d2] }
  | _ => none }
def identRoundTripRow : OpenClaim := { program := "ytkkdabdceooakaa", sum := "8cd1703ef9676f911c35b57df53ea01b395a892b90a4b1fe23211002ebc89584", func := "examboard/examboardlaw09.IdentRoundTrip", spec := "identRoundTrip", apart := false }
def IdentRoundTripSaid : Prop := identRoundTripRow.holds Try.pinned (OpenSpec.ofChange identRoundTripSpec)

/-- ITS FALSE NEIGHBOUR: 'it returns false'. Refute it at one input. -/
def identRoundTripWrong : ChangeSpec := { name := "identRoundTrip", fn := fun _ => fun
  | [d1, d2] => { results := [.lit (.bool false)], args := [d1, d2] }
  | _ => none }
def IdentRoundTripWrongFalsely : Prop := identRoundTripRow.holds Try.pinned (OpenSpec.ofChange identRoundTripWrong)

/-- 'examboardlaw09.IdentUnique': WHATEVER THE INPUT: true; the input reads as it did. -/
def identUniqueSpec : ChangeSpec := { name := "identUnique", fn := fun _ => fun
  | [d] => { results := [.lit (.bool true)], args := [d] }
  | _ => none }
def identUniqueRow : OpenClaim := { program := "ytkkdabdceooakaa", sum := "8cd1703ef9676f911c35b57df53ea01b395a892b90a4b1fe23211002ebc89584", func := "examboard/examboardlaw09.IdentUnique", spec := "identUnique", apart := false }
def IdentUniqueSaid : Prop := identUniqueRow.holds Try.pinned (OpenSpec.ofChange identUniqueSpec)

/-- ITS FALSE NEIGHBOUR: 'it returns false'. Refute it at one input. -/
def identUniqueWrong : ChangeSpec := { name := "identUnique", fn := fun _ => fun
  | [d] => { results := [.lit (.bool false)], args := [d] }
  | _ => none }
def IdentUniqueWrongFalsely : Prop := identUniqueRow.holds Try.pinned (OpenSpec.ofChange identUniqueWrong)

/-- 'examboardlaw09.IdentDetects': WHATEVER THE INPUT: true; the input reads as it did. -/
def identDetectsSpec : ChangeSpec := { name := "identDetects", fn := fun _ => fun
  | [d1, d2, d3, d4] => { results := [.lit (.bool true)], args := [d1, d2, d3, d4] }
  | _ => none }
def identDetectsRow : OpenClaim := { program := "ytkkdabdceooakaa", sum := "8cd1703ef9676f911c35b57df53ea01b395a892b90a4b1fe23211002ebc89584", func := "examboard/examboardlaw09.IdentDetects", spec := "identDetects", apart := false }
def IdentDetectsSaid : Prop := identDetectsRow.holds Try.pinned (OpenSpec.ofChange identDetectsSpec)

/-- ITS FALSE NEIGHBOUR: 'it returns false'. Refute it at one input. -/
def identDetectsWrong : ChangeSpec := { name := "identDetects", fn := fun _ => fun
  | [d1, d2, d3, d4] => { results := [.lit (.bool false)], args := [d1, d2, d3, d4] }
  | _ => none }
def IdentDetectsWrongFalsely : Prop := identDetectsRow.holds Try.pinned (OpenSpec.ofChange identDetectsWrong)

/- THE SECOND FORM. 'bulk': how many values and letters a reading holds, each counted each time it is reached (what is shared counts as often as it is met; a slice's spare places count too). A statement '..UptoSaid' is the law's where the arguments, and the package variables that the reading takes, are together of bulk at most 1048576: NARROWER than '..Said'. Prove '..Said' where nothing that the law and all that it calls make is longer than what came in: it says more and counts as full. Else prove '..UptoSaid'. A law counts once. -/
mutual
def uptoBulk {H : Type} : DataW H → Nat
  | .lit (.string bytes) => bytes.length + 1
  | .lit _ => 1
  | .nil => 1
  | .ptr d => uptoBulk d + 1
  | .slice elems spare => uptoBulkAll elems + uptoBulkAll spare + 1
  | .agg parts => uptoBulkAll parts + 1
  | .iface _ d => uptoBulk d + 1
  | .map entries => uptoBulkEntries entries + 1
  | .held _ => 1
def uptoBulkAll {H : Type} : List (DataW H) → Nat
  | [] => 0
  | d :: r => uptoBulk d + uptoBulkAll r
def uptoBulkEntries {H : Type} : List (Lit × DataW H) → Nat
  | [] => 0
  | x :: r => uptoBulkEntry x + uptoBulkEntries r
def uptoBulkEntry {H : Type} : Lit × DataW H → Nat
  | (.string bytes, d) => bytes.length + uptoBulk d + 1
  | (_, d) => uptoBulk d + 1
 end
def uptoSmall : (H : Type) → List (DataW H) → Bool := fun _ ds => decide (uptoBulkAll ds ≤ 1048576)
def OpenSpec.upto (s : _root_.Go.ChangeSpec) : _root_.Go.OpenSpec := { _root_.Go.OpenSpec.ofChange s with cond := some uptoSmall }

/-- 'examboardlaw09.IdentMod', WHERE WHAT IT READS IS OF BULK AT MOST 1048576: true; the input reads as it did. -/
def identModUptoRow : OpenClaim := { program := "ytkkdabdceooakaa", sum := "8cd1703ef9676f911c35b57df53ea01b395a892b90a4b1fe23211002ebc89584", func := "examboard/examboardlaw09.IdentMod", spec := "identMod", apart := false, narrowed := true }
def IdentModUptoSaid : Prop := identModUptoRow.holds Try.pinned (OpenSpec.upto identModSpec)

/-- 'examboardlaw09.IdentPrints', WHERE WHAT IT READS IS OF BULK AT MOST 1048576: true; the input reads as it did. -/
def identPrintsUptoRow : OpenClaim := { program := "ytkkdabdceooakaa", sum := "8cd1703ef9676f911c35b57df53ea01b395a892b90a4b1fe23211002ebc89584", func := "examboard/examboardlaw09.IdentPrints", spec := "identPrints", apart := false, narrowed := true }
def IdentPrintsUptoSaid : Prop := identPrintsUptoRow.holds Try.pinned (OpenSpec.upto identPrintsSpec)

/-- 'examboardlaw09.IdentParses', WHERE WHAT IT READS IS OF BULK AT MOST 1048576: true; the input reads as it did. -/
def identParsesUptoRow : OpenClaim := { program := "ytkkdabdceooakaa", sum := "8cd1703ef9676f911c35b57df53ea01b395a892b90a4b1fe23211002ebc89584", func := "examboard/examboardlaw09.IdentParses", spec := "identParses", apart := false, narrowed := true }
def IdentParsesUptoSaid : Prop := identParsesUptoRow.holds Try.pinned (OpenSpec.upto identParsesSpec)

/-- 'examboardlaw09.IdentRoundTrip', WHERE WHAT IT READS IS OF BULK AT MOST 1048576: true; the input reads as it did. -/
def identRoundTripUptoRow : OpenClaim := { program := "ytkkdabdceooakaa", sum := "8cd1703ef9676f911c35b57df53ea01b395a892b90a4b1fe23211002ebc89584", func := "examboard/examboardlaw09.IdentRoundTrip", spec := "identRoundTrip", apart := false, narrowed := true }
def IdentRoundTripUptoSaid : Prop := identRoundTripUptoRow.holds Try.pinned (OpenSpec.upto identRoundTripSpec)

/-- 'examboardlaw09.IdentUnique', WHERE WHAT IT READS IS OF BULK AT MOST 1048576: true; the input reads as it did. -/
def identUniqueUptoRow : OpenClaim := { program := "ytkkdabdceooakaa", sum := "8cd1703ef9676f911c35b57df53ea01b395a892b90a4b1fe23211002ebc89584", func := "examboard/examboardlaw09.IdentUnique", spec := "identUnique", apart := false, narrowed := true }
def IdentUniqueUptoSaid : Prop := identUniqueUptoRow.holds Try.pinned (OpenSpec.upto identUniqueSpec)

/-- 'examboardlaw09.IdentDetects', WHERE WHAT IT READS IS OF BULK AT MOST 1048576: true; the input reads as it did. -/
def identDetectsUptoRow : OpenClaim := { program := "ytkkdabdceooakaa", sum := "8cd1703ef9676f911c35b57df53ea01b395a892b90a4b1fe23211002ebc89584", func := "examboard/examboardlaw09.IdentDetects", spec := "identDetects", apart := false, narrowed := true }
def IdentDetectsUptoSaid : Prop := identDetectsUptoRow.holds Try.pinned (OpenSpec.upto identDetectsSpec)

end Rows
end Go.Proofs.Ytkkdabdceooakaa
