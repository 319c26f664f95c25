/- For all strings Parent, Valid and Under return what the reference returns. The one condition is the row's own bound on a string's size. -/
import Derived.Test.YtfgfdjlimhlcjaaConb
namespace Go.Proofs.Ytfgfdjlimhlcjaa.Pure
open Go.RowKit Go.Proofs.Ytfgfdjlimhlcjaa.QCon Go.Proofs.Ytfgfdjlimhlcjaa.Con

theorem ContentCodes : examboardlaw13_ContentCodes.Pure := by
  intro s t hs ht
  refine ⟨s.size + 60, ?_⟩
  unfold examboardlaw13_ContentCodes.f
  have e1 : s = ba s.data.toList := rfl
  have e2 : t = ba t.data.toList := rfl
  rw [Parent_tells s (by omega) _ (by omega), refParent_tells s (by omega) _ (by omega), e1, Valid_tells _ _ (by omega), refValid_tells _ _ (by omega), e2, Under_tells _ _ (by rw [size_data]; omega), refUnder_tells, awake_tells _ (by omega)]
  simp only [Option.bind_some, if_true, beq_self_eq_true]

end Go.Proofs.Ytfgfdjlimhlcjaa.Pure
