/- For every kind and every number (as int has them) the identifier that Print returns, and its error, and the check digits that Check returns, and its error, are those of the reference. No further condition. -/
import Derived.Test.YtkkdabdceooakaaBase
namespace Go.Proofs.Ytkkdabdceooakaa.Pure
open Go.RowKit Go.Proofs.Ytkkdabdceooakaa.QIdent Go.Proofs.Ytkkdabdceooakaa.Base

theorem IdentPrints : examboardlaw09_IdentPrints.Pure := by
  intro a b _ _
  refine ⟨10, ?_⟩
  unfold examboardlaw09_IdentPrints.f
  rw [Print_tells 2 a b, refPrint_tells 2 a b]
  simp only [Option.bind_some, if_true, bne_self_eq_false]
  simp only [examboardlaw09_IdentPrints.j0]
  rw [if_neg (by decide), Check_tells 8 a b, refCheck_tells a b]
  simp only [Option.bind_some, if_true, beq_self_eq_true]

end Go.Proofs.Ytkkdabdceooakaa.Pure
