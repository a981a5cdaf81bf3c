/- Any bytes say of any key what the chapter says: for all arguments that the row lets in. -/
import Derived.Test.YtadfbclebdocnaaBloomLib
import Derived.Test.YtadfbclebdocnaaPrint2
namespace Go.Proofs.Ytadfbclebdocnaa.Pure
open Go.RowKit Go.Proofs.Ytadfbclebdocnaa.Print Go.Proofs.YtadfbclebdocnaaX Go.Proofs.YtadfbclebdocnaaW.PrintWords Go.Proofs.YtadfbclebdocnaaW.PrintLast
set_option linter.unusedVariables false
set_option linter.unusedSimpArgs false

theorem BloomAsks : palinodelaw11_BloomAsks.Pure := by
  refine ⟨examples_true, ?_⟩
  intro a b v1 v2
  refine ⟨b.size + 301, ?_⟩
  unfold palinodelaw11_BloomAsks.f
  rw [examples_ev, may_eq a b (by omega) (by omega), may_big a b (by omega) (by omega) _ (by omega)]
  simp
end Go.Proofs.Ytadfbclebdocnaa.Pure
