/-
  No cell of these rows narrows 'for every input' (looked for: loops, veiled, ifaces, maps, wideKeys, modest, calm, conditions, laid).
  DERIVED. THE GIVEN ROWS OF THIS SEAT. 7 by the template 'for every input the law returns true; each argument reads behind the call as it read before'; 0 by the template 'total and deterministic' (their statements: YteljlfodjbgejaaTotals.lean).
  GIVEN WITH THE SEED: the statements are not yours to turn. If you find one false, say at which input.
  Laid BY PROGRAM, IN A SANDBOX (cutbox-rows.mjs): the forced cells as the released guide's own fill.sh prints them over the translation 8f993d8c9a9a8e67… (all of the seat's roots in one cut). By AI agents, Wed Nov 11 2026. No macro, syntax, notation, axiom, sorry.
-/
import Derived.Test.YteljlfodjbgejaaChecked
import GoSem.Claim
import GoSem.ClaimJoined
import GoSem.ClaimMapViews
import Derived.JoinedTies
import Derived.KernelRfl
namespace Go.Proofs.Yteljlfodjbgejaa
/- THE CELL 'sum', in the pinned program and in every row, IS THE sha256 OF THE DUMP (.gsa) THAT YteljlfodjbgejaaProg.lean LOADS. Nothing in Lean hashes anything: it is a label: what it is worth is what the hold of that sum in a sandbox is worth. -/
noncomputable def Try.pinned : Pinned := { name := "yteljlfodjbgejaa", sum := "8f993d8c9a9a8e67cc4f4da8bbe98fee2c11437a81b8e3a6cb90501da8dacb6f", checked := Try.checked }
namespace Rows
def none {H : Type} : Left H := { results := [], args := [] }

/-- 'palinodelaw15.MergeMerges': WHATEVER THE INPUT: true; the input reads as it did. -/
def mergeMergesSpec : ChangeSpec := { name := "mergeMerges", fn := fun _ => fun
  | [d] => { results := [.lit (.bool true)], args := [d] }
  | _ => none }
def mergeMergesRow : OpenClaim := { program := "yteljlfodjbgejaa", sum := "8f993d8c9a9a8e67cc4f4da8bbe98fee2c11437a81b8e3a6cb90501da8dacb6f", func := "palinode/palinodelaw15.MergeMerges", spec := "mergeMerges", inPlace := ["internal/bytealg.abigen_runtime_cmpstring"], unfollowed := true, recurses := true, apart := false }
def MergeMergesSaid : Prop := mergeMergesRow.holds Try.pinned (OpenSpec.ofChange mergeMergesSpec)

/-- ITS FALSE NEIGHBOUR: 'it returns false'. Refute it at one input. -/
def mergeMergesWrong : ChangeSpec := { name := "mergeMerges", fn := fun _ => fun
  | [d] => { results := [.lit (.bool false)], args := [d] }
  | _ => none }
def MergeMergesWrongFalsely : Prop := mergeMergesRow.holds Try.pinned (OpenSpec.ofChange mergeMergesWrong)

/-- 'palinodelaw15.MergeFolds': WHATEVER THE INPUT: true; the input reads as it did. -/
def mergeFoldsSpec : ChangeSpec := { name := "mergeFolds", fn := fun _ => fun
  | [d1, d2, d3, d4] => { results := [.lit (.bool true)], args := [d1, d2, d3, d4] }
  | _ => none }
def mergeFoldsRow : OpenClaim := { program := "yteljlfodjbgejaa", sum := "8f993d8c9a9a8e67cc4f4da8bbe98fee2c11437a81b8e3a6cb90501da8dacb6f", func := "palinode/palinodelaw15.MergeFolds", spec := "mergeFolds", inPlace := ["internal/bytealg.abigen_runtime_cmpstring"], unfollowed := true, recurses := true, apart := false }
def MergeFoldsSaid : Prop := mergeFoldsRow.holds Try.pinned (OpenSpec.ofChange mergeFoldsSpec)

/-- ITS FALSE NEIGHBOUR: 'it returns false'. Refute it at one input. -/
def mergeFoldsWrong : ChangeSpec := { name := "mergeFolds", fn := fun _ => fun
  | [d1, d2, d3, d4] => { results := [.lit (.bool false)], args := [d1, d2, d3, d4] }
  | _ => none }
def MergeFoldsWrongFalsely : Prop := mergeFoldsRow.holds Try.pinned (OpenSpec.ofChange mergeFoldsWrong)

/-- 'palinodelaw15.MergeAll': WHATEVER THE INPUT: true; the input reads as it did. -/
def mergeAllSpec : ChangeSpec := { name := "mergeAll", fn := fun _ => fun
  | [d] => { results := [.lit (.bool true)], args := [d] }
  | _ => none }
def mergeAllRow : OpenClaim := { program := "yteljlfodjbgejaa", sum := "8f993d8c9a9a8e67cc4f4da8bbe98fee2c11437a81b8e3a6cb90501da8dacb6f", func := "palinode/palinodelaw15.MergeAll", spec := "mergeAll", inPlace := ["internal/bytealg.abigen_runtime_cmpstring"], unfollowed := true, recurses := true, apart := false }
def MergeAllSaid : Prop := mergeAllRow.holds Try.pinned (OpenSpec.ofChange mergeAllSpec)

/-- ITS FALSE NEIGHBOUR: 'it returns false'. Refute it at one input. -/
def mergeAllWrong : ChangeSpec := { name := "mergeAll", fn := fun _ => fun
  | [d] => { results := [.lit (.bool false)], args := [d] }
  | _ => none }
def MergeAllWrongFalsely : Prop := mergeAllRow.holds Try.pinned (OpenSpec.ofChange mergeAllWrong)

/-- 'palinodelaw15.MergeKept': WHATEVER THE INPUT: true; the input reads as it did. -/
def mergeKeptSpec : ChangeSpec := { name := "mergeKept", fn := fun _ => fun
  | [d1, d2, d3, d4] => { results := [.lit (.bool true)], args := [d1, d2, d3, d4] }
  | _ => none }
def mergeKeptRow : OpenClaim := { program := "yteljlfodjbgejaa", sum := "8f993d8c9a9a8e67cc4f4da8bbe98fee2c11437a81b8e3a6cb90501da8dacb6f", func := "palinode/palinodelaw15.MergeKept", spec := "mergeKept", inPlace := ["internal/bytealg.abigen_runtime_cmpstring"], unfollowed := true, recurses := true, apart := false }
def MergeKeptSaid : Prop := mergeKeptRow.holds Try.pinned (OpenSpec.ofChange mergeKeptSpec)

/-- ITS FALSE NEIGHBOUR: 'it returns false'. Refute it at one input. -/
def mergeKeptWrong : ChangeSpec := { name := "mergeKept", fn := fun _ => fun
  | [d1, d2, d3, d4] => { results := [.lit (.bool false)], args := [d1, d2, d3, d4] }
  | _ => none }
def MergeKeptWrongFalsely : Prop := mergeKeptRow.holds Try.pinned (OpenSpec.ofChange mergeKeptWrong)

/-- 'palinodelaw15.MergeAgain': WHATEVER THE INPUT: true; the input reads as it did. -/
def mergeAgainSpec : ChangeSpec := { name := "mergeAgain", fn := fun _ => fun
  | [d1, d2, d3] => { results := [.lit (.bool true)], args := [d1, d2, d3] }
  | _ => none }
def mergeAgainRow : OpenClaim := { program := "yteljlfodjbgejaa", sum := "8f993d8c9a9a8e67cc4f4da8bbe98fee2c11437a81b8e3a6cb90501da8dacb6f", func := "palinode/palinodelaw15.MergeAgain", spec := "mergeAgain", inPlace := ["internal/bytealg.abigen_runtime_cmpstring"], unfollowed := true, recurses := true, apart := false }
def MergeAgainSaid : Prop := mergeAgainRow.holds Try.pinned (OpenSpec.ofChange mergeAgainSpec)

/-- ITS FALSE NEIGHBOUR: 'it returns false'. Refute it at one input. -/
def mergeAgainWrong : ChangeSpec := { name := "mergeAgain", fn := fun _ => fun
  | [d1, d2, d3] => { results := [.lit (.bool false)], args := [d1, d2, d3] }
  | _ => none }
def MergeAgainWrongFalsely : Prop := mergeAgainRow.holds Try.pinned (OpenSpec.ofChange mergeAgainWrong)

/-- 'palinodelaw15.MergeSees': WHATEVER THE INPUT: true; the input reads as it did. -/
def mergeSeesSpec : ChangeSpec := { name := "mergeSees", fn := fun _ => fun
  | [d1, d2] => { results := [.lit (.bool true)], args := [d1, d2] }
  | _ => none }
def mergeSeesRow : OpenClaim := { program := "yteljlfodjbgejaa", sum := "8f993d8c9a9a8e67cc4f4da8bbe98fee2c11437a81b8e3a6cb90501da8dacb6f", func := "palinode/palinodelaw15.MergeSees", spec := "mergeSees", inPlace := ["internal/bytealg.abigen_runtime_cmpstring"], unfollowed := true, recurses := true, apart := false }
def MergeSeesSaid : Prop := mergeSeesRow.holds Try.pinned (OpenSpec.ofChange mergeSeesSpec)

/-- ITS FALSE NEIGHBOUR: 'it returns false'. Refute it at one input. -/
def mergeSeesWrong : ChangeSpec := { name := "mergeSees", fn := fun _ => fun
  | [d1, d2] => { results := [.lit (.bool false)], args := [d1, d2] }
  | _ => none }
def MergeSeesWrongFalsely : Prop := mergeSeesRow.holds Try.pinned (OpenSpec.ofChange mergeSeesWrong)

/-- 'palinodelaw15.MergeTurned': WHATEVER THE INPUT: true; the input reads as it did. -/
def mergeTurnedSpec : ChangeSpec := { name := "mergeTurned", fn := fun _ => fun
  | [d] => { results := [.lit (.bool true)], args := [d] }
  | _ => none }
def mergeTurnedRow : OpenClaim := { program := "yteljlfodjbgejaa", sum := "8f993d8c9a9a8e67cc4f4da8bbe98fee2c11437a81b8e3a6cb90501da8dacb6f", func := "palinode/palinodelaw15.MergeTurned", spec := "mergeTurned", inPlace := ["internal/bytealg.abigen_runtime_cmpstring"], unfollowed := true, recurses := true, apart := false }
def MergeTurnedSaid : Prop := mergeTurnedRow.holds Try.pinned (OpenSpec.ofChange mergeTurnedSpec)

/-- ITS FALSE NEIGHBOUR: 'it returns false'. Refute it at one input. -/
def mergeTurnedWrong : ChangeSpec := { name := "mergeTurned", fn := fun _ => fun
  | [d] => { results := [.lit (.bool false)], args := [d] }
  | _ => none }
def MergeTurnedWrongFalsely : Prop := mergeTurnedRow.holds Try.pinned (OpenSpec.ofChange mergeTurnedWrong)

/- THE SECOND FORM. 'bulk': how many values and letters a reading holds, each counted each time it is reached (what is shared counts as often as it is met; a slice's spare places count too). A statement '..UptoSaid' is the law's where the arguments, and the package variables that the reading takes, are together of bulk at most 1048576: NARROWER than '..Said'. Prove '..Said' where nothing that the law and all that it calls make is longer than what came in: it says more and counts as full. Else prove '..UptoSaid'. A law counts once. -/
mutual
def uptoBulk {H : Type} : DataW H → Nat
  | .lit (.string bytes) => bytes.length + 1
  | .lit _ => 1
  | .nil => 1
  | .ptr d => uptoBulk d + 1
  | .slice elems spare => uptoBulkAll elems + uptoBulkAll spare + 1
  | .agg parts => uptoBulkAll parts + 1
  | .iface _ d => uptoBulk d + 1
  | .map entries => uptoBulkEntries entries + 1
  | .held _ => 1
def uptoBulkAll {H : Type} : List (DataW H) → Nat
  | [] => 0
  | d :: r => uptoBulk d + uptoBulkAll r
def uptoBulkEntries {H : Type} : List (Lit × DataW H) → Nat
  | [] => 0
  | x :: r => uptoBulkEntry x + uptoBulkEntries r
def uptoBulkEntry {H : Type} : Lit × DataW H → Nat
  | (.string bytes, d) => bytes.length + uptoBulk d + 1
  | (_, d) => uptoBulk d + 1
 end
def uptoSmall : (H : Type) → List (DataW H) → Bool := fun _ ds => decide (uptoBulkAll ds ≤ 1048576)
def OpenSpec.upto (s : _root_.Go.ChangeSpec) : _root_.Go.OpenSpec := { _root_.Go.OpenSpec.ofChange s with cond := some uptoSmall }

/-- 'palinodelaw15.MergeMerges', WHERE WHAT IT READS IS OF BULK AT MOST 1048576: true; the input reads as it did. -/
def mergeMergesUptoRow : OpenClaim := { program := "yteljlfodjbgejaa", sum := "8f993d8c9a9a8e67cc4f4da8bbe98fee2c11437a81b8e3a6cb90501da8dacb6f", func := "palinode/palinodelaw15.MergeMerges", spec := "mergeMerges", inPlace := ["internal/bytealg.abigen_runtime_cmpstring"], unfollowed := true, recurses := true, apart := false, narrowed := true }
def MergeMergesUptoSaid : Prop := mergeMergesUptoRow.holds Try.pinned (OpenSpec.upto mergeMergesSpec)

/-- 'palinodelaw15.MergeFolds', WHERE WHAT IT READS IS OF BULK AT MOST 1048576: true; the input reads as it did. -/
def mergeFoldsUptoRow : OpenClaim := { program := "yteljlfodjbgejaa", sum := "8f993d8c9a9a8e67cc4f4da8bbe98fee2c11437a81b8e3a6cb90501da8dacb6f", func := "palinode/palinodelaw15.MergeFolds", spec := "mergeFolds", inPlace := ["internal/bytealg.abigen_runtime_cmpstring"], unfollowed := true, recurses := true, apart := false, narrowed := true }
def MergeFoldsUptoSaid : Prop := mergeFoldsUptoRow.holds Try.pinned (OpenSpec.upto mergeFoldsSpec)

/-- 'palinodelaw15.MergeAll', WHERE WHAT IT READS IS OF BULK AT MOST 1048576: true; the input reads as it did. -/
def mergeAllUptoRow : OpenClaim := { program := "yteljlfodjbgejaa", sum := "8f993d8c9a9a8e67cc4f4da8bbe98fee2c11437a81b8e3a6cb90501da8dacb6f", func := "palinode/palinodelaw15.MergeAll", spec := "mergeAll", inPlace := ["internal/bytealg.abigen_runtime_cmpstring"], unfollowed := true, recurses := true, apart := false, narrowed := true }
def MergeAllUptoSaid : Prop := mergeAllUptoRow.holds Try.pinned (OpenSpec.upto mergeAllSpec)

/-- 'palinodelaw15.MergeKept', WHERE WHAT IT READS IS OF BULK AT MOST 1048576: true; the input reads as it did. -/
def mergeKeptUptoRow : OpenClaim := { program := "yteljlfodjbgejaa", sum := "8f993d8c9a9a8e67cc4f4da8bbe98fee2c11437a81b8e3a6cb90501da8dacb6f", func := "palinode/palinodelaw15.MergeKept", spec := "mergeKept", inPlace := ["internal/bytealg.abigen_runtime_cmpstring"], unfollowed := true, recurses := true, apart := false, narrowed := true }
def MergeKeptUptoSaid : Prop := mergeKeptUptoRow.holds Try.pinned (OpenSpec.upto mergeKeptSpec)

/-- 'palinodelaw15.MergeAgain', WHERE WHAT IT READS IS OF BULK AT MOST 1048576: true; the input reads as it did. -/
def mergeAgainUptoRow : OpenClaim := { program := "yteljlfodjbgejaa", sum := "8f993d8c9a9a8e67cc4f4da8bbe98fee2c11437a81b8e3a6cb90501da8dacb6f", func := "palinode/palinodelaw15.MergeAgain", spec := "mergeAgain", inPlace := ["internal/bytealg.abigen_runtime_cmpstring"], unfollowed := true, recurses := true, apart := false, narrowed := true }
def MergeAgainUptoSaid : Prop := mergeAgainUptoRow.holds Try.pinned (OpenSpec.upto mergeAgainSpec)

/-- 'palinodelaw15.MergeSees', WHERE WHAT IT READS IS OF BULK AT MOST 1048576: true; the input reads as it did. -/
def mergeSeesUptoRow : OpenClaim := { program := "yteljlfodjbgejaa", sum := "8f993d8c9a9a8e67cc4f4da8bbe98fee2c11437a81b8e3a6cb90501da8dacb6f", func := "palinode/palinodelaw15.MergeSees", spec := "mergeSees", inPlace := ["internal/bytealg.abigen_runtime_cmpstring"], unfollowed := true, recurses := true, apart := false, narrowed := true }
def MergeSeesUptoSaid : Prop := mergeSeesUptoRow.holds Try.pinned (OpenSpec.upto mergeSeesSpec)

/-- 'palinodelaw15.MergeTurned', WHERE WHAT IT READS IS OF BULK AT MOST 1048576: true; the input reads as it did. -/
def mergeTurnedUptoRow : OpenClaim := { program := "yteljlfodjbgejaa", sum := "8f993d8c9a9a8e67cc4f4da8bbe98fee2c11437a81b8e3a6cb90501da8dacb6f", func := "palinode/palinodelaw15.MergeTurned", spec := "mergeTurned", inPlace := ["internal/bytealg.abigen_runtime_cmpstring"], unfollowed := true, recurses := true, apart := false, narrowed := true }
def MergeTurnedUptoSaid : Prop := mergeTurnedUptoRow.holds Try.pinned (OpenSpec.upto mergeTurnedSpec)

end Rows
end Go.Proofs.Yteljlfodjbgejaa
