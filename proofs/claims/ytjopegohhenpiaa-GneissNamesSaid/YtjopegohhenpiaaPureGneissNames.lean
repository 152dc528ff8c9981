/- Every error, limit and kind that the program names is the document's number, so the closed law answers true. No condition. -/
import Derived.Test.YtjopegohhenpiaaPGneissNamesx3
import Derived.KernelRfl
namespace Go.Proofs.Ytjopegohhenpiaa.Pure
open Go.RowKit Go.Proofs.Ytjopegohhenpiaa.PGneissNames Go.Proofs.YtjopegohhenpiaaW.PrintWords Go.Proofs.YtjopegohhenpiaaW.PrintLast

theorem GneissNames : gneisslaw0_GneissNames.Pure := by
  unfold gneisslaw0_GneissNames.Pure
  kernel_rfl

end Go.Proofs.Ytjopegohhenpiaa.Pure
