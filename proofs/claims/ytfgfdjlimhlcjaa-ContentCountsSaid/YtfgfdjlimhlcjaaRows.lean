/-
  No cell of these rows narrows 'for every input' (looked for: loops, veiled, ifaces, maps, wideKeys, modest, calm, conditions, laid).
  DERIVED. THE GIVEN ROWS OF THIS SEAT. 5 by the template 'for every input the law returns true; each argument reads behind the call as it read before'; 0 by the template 'total and deterministic' (their statements: YtfgfdjlimhlcjaaTotals.lean).
  GIVEN WITH THE SEED: the statements are not yours to turn. If you find one false, say at which input.
  Laid BY PROGRAM, IN A SANDBOX (cutbox-rows.mjs): the forced cells as the released guide's own fill.sh prints them over the translation 58529ef29c5f1a53… (all of the seat's roots in one cut). By AI agents, Wed Nov 11 2026. No macro, syntax, notation, axiom, sorry.
-/
import Derived.Test.YtfgfdjlimhlcjaaChecked
import GoSem.Claim
import GoSem.ClaimJoined
import GoSem.ClaimMapViews
import Derived.JoinedTies
import Derived.KernelRfl
namespace Go.Proofs.Ytfgfdjlimhlcjaa
/- THE CELL 'sum', in the pinned program and in every row, IS THE sha256 OF THE DUMP (.gsa) THAT YtfgfdjlimhlcjaaProg.lean LOADS. Nothing in Lean hashes anything: it is a label: what it is worth is what the hold of that sum in a sandbox is worth. -/
noncomputable def Try.pinned : Pinned := { name := "ytfgfdjlimhlcjaa", sum := "58529ef29c5f1a5303f95f2049a44161a83feada2e6184d54d096d89ba7bdd29", checked := Try.checked }
namespace Rows
def none {H : Type} : Left H := { results := [], args := [] }

/-- 'examboardlaw13.ContentCodes': WHATEVER THE INPUT: true; the input reads as it did. -/
def contentCodesSpec : ChangeSpec := { name := "contentCodes", fn := fun _ => fun
  | [d1, d2] => { results := [.lit (.bool true)], args := [d1, d2] }
  | _ => none }
def contentCodesRow : OpenClaim := { program := "ytfgfdjlimhlcjaa", sum := "58529ef29c5f1a5303f95f2049a44161a83feada2e6184d54d096d89ba7bdd29", func := "examboard/examboardlaw13.ContentCodes", spec := "contentCodes", inPlace := ["internal/bytealg.IndexByteString", "internal/bytealg.IndexString"], named := ["internal/bytealg.MaxLen"], apart := false }
def ContentCodesSaid : Prop := contentCodesRow.holds Try.pinned (OpenSpec.ofChange contentCodesSpec)

/-- ITS FALSE NEIGHBOUR: 'it returns false'. Refute it at one input. -/
def contentCodesWrong : ChangeSpec := { name := "contentCodes", fn := fun _ => fun
  | [d1, d2] => { results := [.lit (.bool false)], args := [d1, d2] }
  | _ => none }
def ContentCodesWrongFalsely : Prop := contentCodesRow.holds Try.pinned (OpenSpec.ofChange contentCodesWrong)

/-- 'examboardlaw13.ContentLists': WHATEVER THE INPUT: true; the input reads as it did. -/
def contentListsSpec : ChangeSpec := { name := "contentLists", fn := fun _ => fun
  | [d1, d2, d3, d4] => { results := [.lit (.bool true)], args := [d1, d2, d3, d4] }
  | _ => none }
def contentListsRow : OpenClaim := { program := "ytfgfdjlimhlcjaa", sum := "58529ef29c5f1a5303f95f2049a44161a83feada2e6184d54d096d89ba7bdd29", func := "examboard/examboardlaw13.ContentLists", spec := "contentLists", inPlace := ["internal/bytealg.IndexByteString", "internal/bytealg.IndexString"], named := ["internal/bytealg.MaxLen"], apart := false }
def ContentListsSaid : Prop := contentListsRow.holds Try.pinned (OpenSpec.ofChange contentListsSpec)

/-- ITS FALSE NEIGHBOUR: 'it returns false'. Refute it at one input. -/
def contentListsWrong : ChangeSpec := { name := "contentLists", fn := fun _ => fun
  | [d1, d2, d3, d4] => { results := [.lit (.bool false)], args := [d1, d2, d3, d4] }
  | _ => none }
def ContentListsWrongFalsely : Prop := contentListsRow.holds Try.pinned (OpenSpec.ofChange contentListsWrong)

/-- 'examboardlaw13.ContentCounts': WHATEVER THE INPUT: true; the input reads as it did. -/
def contentCountsSpec : ChangeSpec := { name := "contentCounts", fn := fun _ => fun
  | [d1, d2, d3] => { results := [.lit (.bool true)], args := [d1, d2, d3] }
  | _ => none }
def contentCountsRow : OpenClaim := { program := "ytfgfdjlimhlcjaa", sum := "58529ef29c5f1a5303f95f2049a44161a83feada2e6184d54d096d89ba7bdd29", func := "examboard/examboardlaw13.ContentCounts", spec := "contentCounts", inPlace := ["internal/bytealg.IndexByteString", "internal/bytealg.IndexString"], named := ["internal/bytealg.MaxLen"], apart := false }
def ContentCountsSaid : Prop := contentCountsRow.holds Try.pinned (OpenSpec.ofChange contentCountsSpec)

/-- ITS FALSE NEIGHBOUR: 'it returns false'. Refute it at one input. -/
def contentCountsWrong : ChangeSpec := { name := "contentCounts", fn := fun _ => fun
  | [d1, d2, d3] => { results := [.lit (.bool false)], args := [d1, d2, d3] }
  | _ => none }
def ContentCountsWrongFalsely : Prop := contentCountsRow.holds Try.pinned (OpenSpec.ofChange contentCountsWrong)

/-- 'examboardlaw13.ContentOrder': WHATEVER THE INPUT: true; the input reads as it did. -/
def contentOrderSpec : ChangeSpec := { name := "contentOrder", fn := fun _ => fun
  | [d1, d2, d3] => { results := [.lit (.bool true)], args := [d1, d2, d3] }
  | _ => none }
def contentOrderRow : OpenClaim := { program := "ytfgfdjlimhlcjaa", sum := "58529ef29c5f1a5303f95f2049a44161a83feada2e6184d54d096d89ba7bdd29", func := "examboard/examboardlaw13.ContentOrder", spec := "contentOrder", inPlace := ["internal/bytealg.IndexByteString", "internal/bytealg.IndexString"], named := ["internal/bytealg.MaxLen"], apart := false }
def ContentOrderSaid : Prop := contentOrderRow.holds Try.pinned (OpenSpec.ofChange contentOrderSpec)

/-- ITS FALSE NEIGHBOUR: 'it returns false'. Refute it at one input. -/
def contentOrderWrong : ChangeSpec := { name := "contentOrder", fn := fun _ => fun
  | [d1, d2, d3] => { results := [.lit (.bool false)], args := [d1, d2, d3] }
  | _ => none }
def ContentOrderWrongFalsely : Prop := contentOrderRow.holds Try.pinned (OpenSpec.ofChange contentOrderWrong)

/-- 'examboardlaw13.ContentKin': WHATEVER THE INPUT: true; the input reads as it did. -/
def contentKinSpec : ChangeSpec := { name := "contentKin", fn := fun _ => fun
  | [d] => { results := [.lit (.bool true)], args := [d] }
  | _ => none }
def contentKinRow : OpenClaim := { program := "ytfgfdjlimhlcjaa", sum := "58529ef29c5f1a5303f95f2049a44161a83feada2e6184d54d096d89ba7bdd29", func := "examboard/examboardlaw13.ContentKin", spec := "contentKin", inPlace := ["internal/bytealg.IndexByteString", "internal/bytealg.IndexString"], named := ["internal/bytealg.MaxLen"], apart := false }
def ContentKinSaid : Prop := contentKinRow.holds Try.pinned (OpenSpec.ofChange contentKinSpec)

/-- ITS FALSE NEIGHBOUR: 'it returns false'. Refute it at one input. -/
def contentKinWrong : ChangeSpec := { name := "contentKin", fn := fun _ => fun
  | [d] => { results := [.lit (.bool false)], args := [d] }
  | _ => none }
def ContentKinWrongFalsely : Prop := contentKinRow.holds Try.pinned (OpenSpec.ofChange contentKinWrong)

/- THE SECOND FORM. 'bulk': how many values and letters a reading holds, each counted each time it is reached (what is shared counts as often as it is met; a slice's spare places count too). A statement '..UptoSaid' is the law's where the arguments, and the package variables that the reading takes, are together of bulk at most 1048576: NARROWER than '..Said'. Prove '..Said' where nothing that the law and all that it calls make is longer than what came in: it says more and counts as full. Else prove '..UptoSaid'. A law counts once. -/
mutual
def uptoBulk {H : Type} : DataW H → Nat
  | .lit (.string bytes) => bytes.length + 1
  | .lit _ => 1
  | .nil => 1
  | .ptr d => uptoBulk d + 1
  | .slice elems spare => uptoBulkAll elems + uptoBulkAll spare + 1
  | .agg parts => uptoBulkAll parts + 1
  | .iface _ d => uptoBulk d + 1
  | .map entries => uptoBulkEntries entries + 1
  | .held _ => 1
def uptoBulkAll {H : Type} : List (DataW H) → Nat
  | [] => 0
  | d :: r => uptoBulk d + uptoBulkAll r
def uptoBulkEntries {H : Type} : List (Lit × DataW H) → Nat
  | [] => 0
  | x :: r => uptoBulkEntry x + uptoBulkEntries r
def uptoBulkEntry {H : Type} : Lit × DataW H → Nat
  | (.string bytes, d) => bytes.length + uptoBulk d + 1
  | (_, d) => uptoBulk d + 1
 end
def uptoSmall : (H : Type) → List (DataW H) → Bool := fun _ ds => decide (uptoBulkAll ds ≤ 1048576)
def OpenSpec.upto (s : _root_.Go.ChangeSpec) : _root_.Go.OpenSpec := { _root_.Go.OpenSpec.ofChange s with cond := some uptoSmall }

/-- 'examboardlaw13.ContentCodes', WHERE WHAT IT READS IS OF BULK AT MOST 1048576: true; the input reads as it did. -/
def contentCodesUptoRow : OpenClaim := { program := "ytfgfdjlimhlcjaa", sum := "58529ef29c5f1a5303f95f2049a44161a83feada2e6184d54d096d89ba7bdd29", func := "examboard/examboardlaw13.ContentCodes", spec := "contentCodes", inPlace := ["internal/bytealg.IndexByteString", "internal/bytealg.IndexString"], named := ["internal/bytealg.MaxLen"], apart := false, narrowed := true }
def ContentCodesUptoSaid : Prop := contentCodesUptoRow.holds Try.pinned (OpenSpec.upto contentCodesSpec)

/-- 'examboardlaw13.ContentLists', WHERE WHAT IT READS IS OF BULK AT MOST 1048576: true; the input reads as it did. -/
def contentListsUptoRow : OpenClaim := { program := "ytfgfdjlimhlcjaa", sum := "58529ef29c5f1a5303f95f2049a44161a83feada2e6184d54d096d89ba7bdd29", func := "examboard/examboardlaw13.ContentLists", spec := "contentLists", inPlace := ["internal/bytealg.IndexByteString", "internal/bytealg.IndexString"], named := ["internal/bytealg.MaxLen"], apart := false, narrowed := true }
def ContentListsUptoSaid : Prop := contentListsUptoRow.holds Try.pinned (OpenSpec.upto contentListsSpec)

/-- 'examboardlaw13.ContentCounts', WHERE WHAT IT READS IS OF BULK AT MOST 1048576: true; the input reads as it did. -/
def contentCountsUptoRow : OpenClaim := { program := "ytfgfdjlimhlcjaa", sum := "58529ef29c5f1a5303f95f2049a44161a83feada2e6184d54d096d89ba7bdd29", func := "examboard/examboardlaw13.ContentCounts", spec := "contentCounts", inPlace := ["internal/bytealg.IndexByteString", "internal/bytealg.IndexString"], named := ["internal/bytealg.MaxLen"], apart := false, narrowed := true }
def ContentCountsUptoSaid : Prop := contentCountsUptoRow.holds Try.pinned (OpenSpec.upto contentCountsSpec)

/-- 'examboardlaw13.ContentOrder', WHERE WHAT IT READS IS OF BULK AT MOST 1048576: true; the input reads as it did. -/
def contentOrderUptoRow : OpenClaim := { program := "ytfgfdjlimhlcjaa", sum := "58529ef29c5f1a5303f95f2049a44161a83feada2e6184d54d096d89ba7bdd29", func := "examboard/examboardlaw13.ContentOrder", spec := "contentOrder", inPlace := ["internal/bytealg.IndexByteString", "internal/bytealg.IndexString"], named := ["internal/bytealg.MaxLen"], apart := false, narrowed := true }
def ContentOrderUptoSaid : Prop := contentOrderUptoRow.holds Try.pinned (OpenSpec.upto contentOrderSpec)

/-- 'examboardlaw13.ContentKin', WHERE WHAT IT READS IS OF BULK AT MOST 1048576: true; the input reads as it did. -/
def contentKinUptoRow : OpenClaim := { program := "ytfgfdjlimhlcjaa", sum := "58529ef29c5f1a5303f95f2049a44161a83feada2e6184d54d096d89ba7bdd29", func := "examboard/examboardlaw13.ContentKin", spec := "contentKin", inPlace := ["internal/bytealg.IndexByteString", "internal/bytealg.IndexString"], named := ["internal/bytealg.MaxLen"], apart := false, narrowed := true }
def ContentKinUptoSaid : Prop := contentKinUptoRow.holds Try.pinned (OpenSpec.upto contentKinSpec)

end Rows
end Go.Proofs.Ytfgfdjlimhlcjaa
