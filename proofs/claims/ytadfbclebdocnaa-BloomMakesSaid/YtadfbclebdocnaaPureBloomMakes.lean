/- Any keys make the filter that the chapter says, or are refused; of any key the Hash is the one: for all arguments that the row lets in. -/
import Derived.Test.YtadfbclebdocnaaBloomSet
import Derived.Test.YtadfbclebdocnaaPrint2
namespace Go.Proofs.Ytadfbclebdocnaa.Pure
open Go.RowKit Go.Proofs.Ytadfbclebdocnaa.Print Go.Proofs.YtadfbclebdocnaaX Go.Proofs.YtadfbclebdocnaaW.PrintWords Go.Proofs.YtadfbclebdocnaaW.PrintLast
set_option linter.unusedVariables false
set_option linter.unusedSimpArgs false

theorem BloomMakes : palinodelaw11_BloomMakes.Pure := by
  refine ⟨examples_true, ?_⟩
  intro l each key v1 v2 v3
  have hw := wf_i64 v2
  obtain ⟨K1, h1⟩ := refMake_ev l each hw 140737488351232 (by omega) v1.2.2
  refine ⟨max K1 (key.size + 1), ?_⟩
  unfold palinodelaw11_BloomMakes.f
  rw [examples_ev, make_eq' l each (fun x hx => by have := v1.2.2 x hx; omega), h1 _ (by omega)]
  simp only [Option.bind_some, if_true]
  rw [makeR_codes, hash_eq _ (by omega), refHash_big key (by omega) _ (by omega)]
  simp [codeR]
end Go.Proofs.Ytadfbclebdocnaa.Pure
