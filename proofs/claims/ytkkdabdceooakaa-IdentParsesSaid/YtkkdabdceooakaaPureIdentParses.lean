/- For every string the kind, the number and the error that Parse returns are those of the reference. The one condition is the row's own bound on a string's size. -/
import Derived.Test.YtkkdabdceooakaaBase2
namespace Go.Proofs.Ytkkdabdceooakaa.Pure
open Go.RowKit Go.Proofs.Ytkkdabdceooakaa.QIdent Go.Proofs.Ytkkdabdceooakaa.Base

theorem IdentParses : examboardlaw09_IdentParses.Pure := by
  intro s _
  refine ⟨27, ?_⟩
  unfold examboardlaw09_IdentParses.f
  rw [Parse_tells 0 s, refParse_tells 0 s]
  simp only [Option.bind_some, if_true, beq_self_eq_true]

end Go.Proofs.Ytkkdabdceooakaa.Pure
