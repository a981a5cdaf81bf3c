/-
  No cell of these rows narrows 'for every input' (looked for: loops, veiled, ifaces, maps, wideKeys, modest, calm, conditions, laid).
  DERIVED. THE GIVEN ROWS OF THIS SEAT. 5 by the template 'for every input the law returns true; each argument reads behind the call as it read before'; 0 by the template 'total and deterministic' (their statements: YtadfbclebdocnaaTotals.lean).
  GIVEN WITH THE SEED: the statements are not yours to turn. If you find one false, say at which input.
  Laid BY PROGRAM, IN A SANDBOX (cutbox-rows.mjs): the forced cells as the released guide's own fill.sh prints them over the translation cf31d9bce4be53f0… (all of the seat's roots in one cut). By AI agents, Wed Nov 11 2026. No macro, syntax, notation, axiom, sorry.
-/
import Derived.Test.YtadfbclebdocnaaChecked
import GoSem.Claim
import GoSem.ClaimJoined
import GoSem.ClaimMapViews
import Derived.JoinedTies
import Derived.KernelRfl
namespace Go.Proofs.Ytadfbclebdocnaa
/- THE CELL 'sum', in the pinned program and in every row, IS THE sha256 OF THE DUMP (.gsa) THAT YtadfbclebdocnaaProg.lean LOADS. Nothing in Lean hashes anything: it is a label: what it is worth is what the hold of that sum in a sandbox is worth. -/
noncomputable def Try.pinned : Pinned := { name := "ytadfbclebdocnaa", sum := "cf31d9bce4be53f0421b6a3ebc699d50e2f4a63969abc0eb076fdd36cd193fab", checked := Try.checked }
namespace Rows
def none {H : Type} : Left H := { results := [], args := [] }

/-- 'palinodelaw11.BloomMakes': WHATEVER THE INPUT: true; the input reads as it did. -/
def bloomMakesSpec : ChangeSpec := { name := "bloomMakes", fn := fun _ => fun
  | [d1, d2, d3] => { results := [.lit (.bool true)], args := [d1, d2, d3] }
  | _ => none }
def bloomMakesRow : OpenClaim := { program := "ytadfbclebdocnaa", sum := "cf31d9bce4be53f0421b6a3ebc699d50e2f4a63969abc0eb076fdd36cd193fab", func := "palinode/palinodelaw11.BloomMakes", spec := "bloomMakes", unfollowed := true, recurses := true, apart := false }
def BloomMakesSaid : Prop := bloomMakesRow.holds Try.pinned (OpenSpec.ofChange bloomMakesSpec)

/-- ITS FALSE NEIGHBOUR: 'it returns false'. Refute it at one input. -/
def bloomMakesWrong : ChangeSpec := { name := "bloomMakes", fn := fun _ => fun
  | [d1, d2, d3] => { results := [.lit (.bool false)], args := [d1, d2, d3] }
  | _ => none }
def BloomMakesWrongFalsely : Prop := bloomMakesRow.holds Try.pinned (OpenSpec.ofChange bloomMakesWrong)

/-- 'palinodelaw11.BloomAsks': WHATEVER THE INPUT: true; the input reads as it did. -/
def bloomAsksSpec : ChangeSpec := { name := "bloomAsks", fn := fun _ => fun
  | [d1, d2] => { results := [.lit (.bool true)], args := [d1, d2] }
  | _ => none }
def bloomAsksRow : OpenClaim := { program := "ytadfbclebdocnaa", sum := "cf31d9bce4be53f0421b6a3ebc699d50e2f4a63969abc0eb076fdd36cd193fab", func := "palinode/palinodelaw11.BloomAsks", spec := "bloomAsks", unfollowed := true, recurses := true, apart := false }
def BloomAsksSaid : Prop := bloomAsksRow.holds Try.pinned (OpenSpec.ofChange bloomAsksSpec)

/-- ITS FALSE NEIGHBOUR: 'it returns false'. Refute it at one input. -/
def bloomAsksWrong : ChangeSpec := { name := "bloomAsks", fn := fun _ => fun
  | [d1, d2] => { results := [.lit (.bool false)], args := [d1, d2] }
  | _ => none }
def BloomAsksWrongFalsely : Prop := bloomAsksRow.holds Try.pinned (OpenSpec.ofChange bloomAsksWrong)

/-- 'palinodelaw11.BloomYes': WHATEVER THE INPUT: true; the input reads as it did. -/
def bloomYesSpec : ChangeSpec := { name := "bloomYes", fn := fun _ => fun
  | [d1, d2, d3] => { results := [.lit (.bool true)], args := [d1, d2, d3] }
  | _ => none }
def bloomYesRow : OpenClaim := { program := "ytadfbclebdocnaa", sum := "cf31d9bce4be53f0421b6a3ebc699d50e2f4a63969abc0eb076fdd36cd193fab", func := "palinode/palinodelaw11.BloomYes", spec := "bloomYes", unfollowed := true, recurses := true, apart := false }
def BloomYesSaid : Prop := bloomYesRow.holds Try.pinned (OpenSpec.ofChange bloomYesSpec)

/-- ITS FALSE NEIGHBOUR: 'it returns false'. Refute it at one input. -/
def bloomYesWrong : ChangeSpec := { name := "bloomYes", fn := fun _ => fun
  | [d1, d2, d3] => { results := [.lit (.bool false)], args := [d1, d2, d3] }
  | _ => none }
def BloomYesWrongFalsely : Prop := bloomYesRow.holds Try.pinned (OpenSpec.ofChange bloomYesWrong)

/-- 'palinodelaw11.BloomOrder': WHATEVER THE INPUT: true; the input reads as it did. -/
def bloomOrderSpec : ChangeSpec := { name := "bloomOrder", fn := fun _ => fun
  | [d1, d2] => { results := [.lit (.bool true)], args := [d1, d2] }
  | _ => none }
def bloomOrderRow : OpenClaim := { program := "ytadfbclebdocnaa", sum := "cf31d9bce4be53f0421b6a3ebc699d50e2f4a63969abc0eb076fdd36cd193fab", func := "palinode/palinodelaw11.BloomOrder", spec := "bloomOrder", unfollowed := true, recurses := true, apart := false }
def BloomOrderSaid : Prop := bloomOrderRow.holds Try.pinned (OpenSpec.ofChange bloomOrderSpec)

/-- ITS FALSE NEIGHBOUR: 'it returns false'. Refute it at one input. -/
def bloomOrderWrong : ChangeSpec := { name := "bloomOrder", fn := fun _ => fun
  | [d1, d2] => { results := [.lit (.bool false)], args := [d1, d2] }
  | _ => none }
def BloomOrderWrongFalsely : Prop := bloomOrderRow.holds Try.pinned (OpenSpec.ofChange bloomOrderWrong)

/-- 'palinodelaw11.BloomMore': WHATEVER THE INPUT: true; the input reads as it did. -/
def bloomMoreSpec : ChangeSpec := { name := "bloomMore", fn := fun _ => fun
  | [d1, d2, d3] => { results := [.lit (.bool true)], args := [d1, d2, d3] }
  | _ => none }
def bloomMoreRow : OpenClaim := { program := "ytadfbclebdocnaa", sum := "cf31d9bce4be53f0421b6a3ebc699d50e2f4a63969abc0eb076fdd36cd193fab", func := "palinode/palinodelaw11.BloomMore", spec := "bloomMore", unfollowed := true, recurses := true, apart := false }
def BloomMoreSaid : Prop := bloomMoreRow.holds Try.pinned (OpenSpec.ofChange bloomMoreSpec)

/-- ITS FALSE NEIGHBOUR: 'it returns false'. Refute it at one input. -/
def bloomMoreWrong : ChangeSpec := { name := "bloomMore", fn := fun _ => fun
  | [d1, d2, d3] => { results := [.lit (.bool false)], args := [d1, d2, d3] }
  | _ => none }
def BloomMoreWrongFalsely : Prop := bloomMoreRow.holds Try.pinned (OpenSpec.ofChange bloomMoreWrong)

/- THE SECOND FORM. 'bulk': how many values and letters a reading holds, each counted each time it is reached (what is shared counts as often as it is met; a slice's spare places count too). A statement '..UptoSaid' is the law's where the arguments, and the package variables that the reading takes, are together of bulk at most 1048576: NARROWER than '..Said'. Prove '..Said' where nothing that the law and all that it calls make is longer than what came in: it says more and counts as full. Else prove '..UptoSaid'. A law counts once. -/
mutual
def uptoBulk {H : Type} : DataW H → Nat
  | .lit (.string bytes) => bytes.length + 1
  | .lit _ => 1
  | .nil => 1
  | .ptr d => uptoBulk d + 1
  | .slice elems spare => uptoBulkAll elems + uptoBulkAll spare + 1
  | .agg parts => uptoBulkAll parts + 1
  | .iface _ d => uptoBulk d + 1
  | .map entries => uptoBulkEntries entries + 1
  | .held _ => 1
def uptoBulkAll {H : Type} : List (DataW H) → Nat
  | [] => 0
  | d :: r => uptoBulk d + uptoBulkAll r
def uptoBulkEntries {H : Type} : List (Lit × DataW H) → Nat
  | [] => 0
  | x :: r => uptoBulkEntry x + uptoBulkEntries r
def uptoBulkEntry {H : Type} : Lit × DataW H → Nat
  | (.string bytes, d) => bytes.length + uptoBulk d + 1
  | (_, d) => uptoBulk d + 1
 end
def uptoSmall : (H : Type) → List (DataW H) → Bool := fun _ ds => decide (uptoBulkAll ds ≤ 1048576)
def OpenSpec.upto (s : _root_.Go.ChangeSpec) : _root_.Go.OpenSpec := { _root_.Go.OpenSpec.ofChange s with cond := some uptoSmall }

/-- 'palinodelaw11.BloomMakes', WHERE WHAT IT READS IS OF BULK AT MOST 1048576: true; the input reads as it did. -/
def bloomMakesUptoRow : OpenClaim := { program := "ytadfbclebdocnaa", sum := "cf31d9bce4be53f0421b6a3ebc699d50e2f4a63969abc0eb076fdd36cd193fab", func := "palinode/palinodelaw11.BloomMakes", spec := "bloomMakes", unfollowed := true, recurses := true, apart := false, narrowed := true }
def BloomMakesUptoSaid : Prop := bloomMakesUptoRow.holds Try.pinned (OpenSpec.upto bloomMakesSpec)

/-- 'palinodelaw11.BloomAsks', WHERE WHAT IT READS IS OF BULK AT MOST 1048576: true; the input reads as it did. -/
def bloomAsksUptoRow : OpenClaim := { program := "ytadfbclebdocnaa", sum := "cf31d9bce4be53f0421b6a3ebc699d50e2f4a63969abc0eb076fdd36cd193fab", func := "palinode/palinodelaw11.BloomAsks", spec := "bloomAsks", unfollowed := true, recurses := true, apart := false, narrowed := true }
def BloomAsksUptoSaid : Prop := bloomAsksUptoRow.holds Try.pinned (OpenSpec.upto bloomAsksSpec)

/-- 'palinodelaw11.BloomYes', WHERE WHAT IT READS IS OF BULK AT MOST 1048576: true; the input reads as it did. -/
def bloomYesUptoRow : OpenClaim := { program := "ytadfbclebdocnaa", sum := "cf31d9bce4be53f0421b6a3ebc699d50e2f4a63969abc0eb076fdd36cd193fab", func := "palinode/palinodelaw11.BloomYes", spec := "bloomYes", unfollowed := true, recurses := true, apart := false, narrowed := true }
def BloomYesUptoSaid : Prop := bloomYesUptoRow.holds Try.pinned (OpenSpec.upto bloomYesSpec)

/-- 'palinodelaw11.BloomOrder', WHERE WHAT IT READS IS OF BULK AT MOST 1048576: true; the input reads as it did. -/
def bloomOrderUptoRow : OpenClaim := { program := "ytadfbclebdocnaa", sum := "cf31d9bce4be53f0421b6a3ebc699d50e2f4a63969abc0eb076fdd36cd193fab", func := "palinode/palinodelaw11.BloomOrder", spec := "bloomOrder", unfollowed := true, recurses := true, apart := false, narrowed := true }
def BloomOrderUptoSaid : Prop := bloomOrderUptoRow.holds Try.pinned (OpenSpec.upto bloomOrderSpec)

/-- 'palinodelaw11.BloomMore', WHERE WHAT IT READS IS OF BULK AT MOST 1048576: true; the input reads as it did. -/
def bloomMoreUptoRow : OpenClaim := { program := "ytadfbclebdocnaa", sum := "cf31d9bce4be53f0421b6a3ebc699d50e2f4a63969abc0eb076fdd36cd193fab", func := "palinode/palinodelaw11.BloomMore", spec := "bloomMore", unfollowed := true, recurses := true, apart := false, narrowed := true }
def BloomMoreUptoSaid : Prop := bloomMoreUptoRow.holds Try.pinned (OpenSpec.upto bloomMoreSpec)

end Rows
end Go.Proofs.Ytadfbclebdocnaa
