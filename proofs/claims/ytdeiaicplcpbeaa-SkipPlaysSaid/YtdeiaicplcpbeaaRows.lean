/-
  No cell of these rows narrows 'for every input' (looked for: loops, veiled, ifaces, maps, wideKeys, modest, calm, conditions, laid).
  DERIVED. THE GIVEN ROWS OF THIS SEAT. 4 by the template 'for every input the law returns true; each argument reads behind the call as it read before'; 0 by the template 'total and deterministic' (their statements: YtdeiaicplcpbeaaTotals.lean).
  GIVEN WITH THE SEED: the statements are not yours to turn. If you find one false, say at which input.
  Laid BY PROGRAM, IN A SANDBOX (cutbox-rows.mjs): the forced cells as the released guide's own fill.sh prints them over the translation 7e3e1822c72f5b91… (all of the seat's roots in one cut). By AI agents, Wed Nov 11 2026. No macro, syntax, notation, axiom, sorry.
-/
import Derived.Test.YtdeiaicplcpbeaaChecked
import GoSem.Claim
import GoSem.ClaimJoined
import GoSem.ClaimMapViews
import Derived.JoinedTies
import Derived.KernelRfl
namespace Go.Proofs.Ytdeiaicplcpbeaa
/- THE CELL 'sum', in the pinned program and in every row, IS THE sha256 OF THE DUMP (.gsa) THAT YtdeiaicplcpbeaaProg.lean LOADS. Nothing in Lean hashes anything: it is a label: what it is worth is what the hold of that sum in a sandbox is worth. -/
noncomputable def Try.pinned : Pinned := { name := "ytdeiaicplcpbeaa", sum := "7e3e1822c72f5b91d4960731000a6416b44935e002fa5f2b0424f543520820fd", checked := Try.checked }
namespace Rows
def none {H : Type} : Left H := { results := [], args := [] }

/-- 'palinodelaw09.SkipPlays': WHATEVER THE INPUT: true; the input reads as it did. -/
def skipPlaysSpec : ChangeSpec := { name := "skipPlays", fn := fun _ => fun
  | [d1, d2, d3] => { results := [.lit (.bool true)], args := [d1, d2, d3] }
  | _ => none }
def skipPlaysRow : OpenClaim := { program := "ytdeiaicplcpbeaa", sum := "7e3e1822c72f5b91d4960731000a6416b44935e002fa5f2b0424f543520820fd", func := "palinode/palinodelaw09.SkipPlays", spec := "skipPlays", apart := false }
def SkipPlaysSaid : Prop := skipPlaysRow.holds Try.pinned (OpenSpec.ofChange skipPlaysSpec)

/-- ITS FALSE NEIGHBOUR: 'it returns false'. Refute it at one input. -/
def skipPlaysWrong : ChangeSpec := { name := "skipPlays", fn := fun _ => fun
  | [d1, d2, d3] => { results := [.lit (.bool false)], args := [d1, d2, d3] }
  | _ => none }
def SkipPlaysWrongFalsely : Prop := skipPlaysRow.holds Try.pinned (OpenSpec.ofChange skipPlaysWrong)

/-- 'palinodelaw09.SkipSorts': WHATEVER THE INPUT: true; the input reads as it did. -/
def skipSortsSpec : ChangeSpec := { name := "skipSorts", fn := fun _ => fun
  | [d] => { results := [.lit (.bool true)], args := [d] }
  | _ => none }
def skipSortsRow : OpenClaim := { program := "ytdeiaicplcpbeaa", sum := "7e3e1822c72f5b91d4960731000a6416b44935e002fa5f2b0424f543520820fd", func := "palinode/palinodelaw09.SkipSorts", spec := "skipSorts", apart := false }
def SkipSortsSaid : Prop := skipSortsRow.holds Try.pinned (OpenSpec.ofChange skipSortsSpec)

/-- ITS FALSE NEIGHBOUR: 'it returns false'. Refute it at one input. -/
def skipSortsWrong : ChangeSpec := { name := "skipSorts", fn := fun _ => fun
  | [d] => { results := [.lit (.bool false)], args := [d] }
  | _ => none }
def SkipSortsWrongFalsely : Prop := skipSortsRow.holds Try.pinned (OpenSpec.ofChange skipSortsWrong)

/-- 'palinodelaw09.SkipHeights': WHATEVER THE INPUT: true; the input reads as it did. -/
def skipHeightsSpec : ChangeSpec := { name := "skipHeights", fn := fun _ => fun
  | [d1, d2, d3] => { results := [.lit (.bool true)], args := [d1, d2, d3] }
  | _ => none }
def skipHeightsRow : OpenClaim := { program := "ytdeiaicplcpbeaa", sum := "7e3e1822c72f5b91d4960731000a6416b44935e002fa5f2b0424f543520820fd", func := "palinode/palinodelaw09.SkipHeights", spec := "skipHeights", apart := false }
def SkipHeightsSaid : Prop := skipHeightsRow.holds Try.pinned (OpenSpec.ofChange skipHeightsSpec)

/-- ITS FALSE NEIGHBOUR: 'it returns false'. Refute it at one input. -/
def skipHeightsWrong : ChangeSpec := { name := "skipHeights", fn := fun _ => fun
  | [d1, d2, d3] => { results := [.lit (.bool false)], args := [d1, d2, d3] }
  | _ => none }
def SkipHeightsWrongFalsely : Prop := skipHeightsRow.holds Try.pinned (OpenSpec.ofChange skipHeightsWrong)

/-- 'palinodelaw09.SkipSeeks': WHATEVER THE INPUT: true; the input reads as it did. -/
def skipSeeksSpec : ChangeSpec := { name := "skipSeeks", fn := fun _ => fun
  | [d] => { results := [.lit (.bool true)], args := [d] }
  | _ => none }
def skipSeeksRow : OpenClaim := { program := "ytdeiaicplcpbeaa", sum := "7e3e1822c72f5b91d4960731000a6416b44935e002fa5f2b0424f543520820fd", func := "palinode/palinodelaw09.SkipSeeks", spec := "skipSeeks", apart := false }
def SkipSeeksSaid : Prop := skipSeeksRow.holds Try.pinned (OpenSpec.ofChange skipSeeksSpec)

/-- ITS FALSE NEIGHBOUR: 'it returns false'. Refute it at one input. -/
def skipSeeksWrong : ChangeSpec := { name := "skipSeeks", fn := fun _ => fun
  | [d] => { results := [.lit (.bool false)], args := [d] }
  | _ => none }
def SkipSeeksWrongFalsely : Prop := skipSeeksRow.holds Try.pinned (OpenSpec.ofChange skipSeeksWrong)

/- THE SECOND FORM. 'bulk': how many values and letters a reading holds, each counted each time it is reached (what is shared counts as often as it is met; a slice's spare places count too). A statement '..UptoSaid' is the law's where the arguments, and the package variables that the reading takes, are together of bulk at most 1048576: NARROWER than '..Said'. Prove '..Said' where nothing that the law and all that it calls make is longer than what came in: it says more and counts as full. Else prove '..UptoSaid'. A law counts once. -/
mutual
def uptoBulk {H : Type} : DataW H → Nat
  | .lit (.string bytes) => bytes.length + 1
  | .lit _ => 1
  | .nil => 1
  | .ptr d => uptoBulk d + 1
  | .slice elems spare => uptoBulkAll elems + uptoBulkAll spare + 1
  | .agg parts => uptoBulkAll parts + 1
  | .iface _ d => uptoBulk d + 1
  | .map entries => uptoBulkEntries entries + 1
  | .held _ => 1
def uptoBulkAll {H : Type} : List (DataW H) → Nat
  | [] => 0
  | d :: r => uptoBulk d + uptoBulkAll r
def uptoBulkEntries {H : Type} : List (Lit × DataW H) → Nat
  | [] => 0
  | x :: r => uptoBulkEntry x + uptoBulkEntries r
def uptoBulkEntry {H : Type} : Lit × DataW H → Nat
  | (.string bytes, d) => bytes.length + uptoBulk d + 1
  | (_, d) => uptoBulk d + 1
 end
def uptoSmall : (H : Type) → List (DataW H) → Bool := fun _ ds => decide (uptoBulkAll ds ≤ 1048576)
def OpenSpec.upto (s : _root_.Go.ChangeSpec) : _root_.Go.OpenSpec := { _root_.Go.OpenSpec.ofChange s with cond := some uptoSmall }

/-- 'palinodelaw09.SkipPlays', WHERE WHAT IT READS IS OF BULK AT MOST 1048576: true; the input reads as it did. -/
def skipPlaysUptoRow : OpenClaim := { program := "ytdeiaicplcpbeaa", sum := "7e3e1822c72f5b91d4960731000a6416b44935e002fa5f2b0424f543520820fd", func := "palinode/palinodelaw09.SkipPlays", spec := "skipPlays", apart := false, narrowed := true }
def SkipPlaysUptoSaid : Prop := skipPlaysUptoRow.holds Try.pinned (OpenSpec.upto skipPlaysSpec)

/-- 'palinodelaw09.SkipSorts', WHERE WHAT IT READS IS OF BULK AT MOST 1048576: true; the input reads as it did. -/
def skipSortsUptoRow : OpenClaim := { program := "ytdeiaicplcpbeaa", sum := "7e3e1822c72f5b91d4960731000a6416b44935e002fa5f2b0424f543520820fd", func := "palinode/palinodelaw09.SkipSorts", spec := "skipSorts", apart := false, narrowed := true }
def SkipSortsUptoSaid : Prop := skipSortsUptoRow.holds Try.pinned (OpenSpec.upto skipSortsSpec)

/-- 'palinodelaw09.SkipHeights', WHERE WHAT IT READS IS OF BULK AT MOST 1048576: true; the input reads as it did. -/
def skipHeightsUptoRow : OpenClaim := { program := "ytdeiaicplcpbeaa", sum := "7e3e1822c72f5b91d4960731000a6416b44935e002fa5f2b0424f543520820fd", func := "palinode/palinodelaw09.SkipHeights", spec := "skipHeights", apart := false, narrowed := true }
def SkipHeightsUptoSaid : Prop := skipHeightsUptoRow.holds Try.pinned (OpenSpec.upto skipHeightsSpec)

/-- 'palinodelaw09.SkipSeeks', WHERE WHAT IT READS IS OF BULK AT MOST 1048576: true; the input reads as it did. -/
def skipSeeksUptoRow : OpenClaim := { program := "ytdeiaicplcpbeaa", sum := "7e3e1822c72f5b91d4960731000a6416b44935e002fa5f2b0424f543520820fd", func := "palinode/palinodelaw09.SkipSeeks", spec := "skipSeeks", apart := false, narrowed := true }
def SkipSeeksUptoSaid : Prop := skipSeeksUptoRow.holds Try.pinned (OpenSpec.upto skipSeeksSpec)

end Rows
end Go.Proofs.Ytdeiaicplcpbeaa
