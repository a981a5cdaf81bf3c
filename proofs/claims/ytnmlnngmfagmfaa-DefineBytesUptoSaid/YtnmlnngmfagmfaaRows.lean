/-
  No cell of these rows narrows 'for every input' (looked for: loops, veiled, ifaces, maps, wideKeys, modest, calm, conditions, laid).
  DERIVED. THE GIVEN ROWS OF THIS SEAT. 5 by the template 'for every input the law returns true; each argument reads behind the call as it read before'; 0 by the template 'total and deterministic' (their statements: YtnmlnngmfagmfaaTotals.lean).
  GIVEN WITH THE SEED: the statements are not yours to turn. If you find one false, say at which input.
  Laid BY PROGRAM, IN A SANDBOX (cutbox-rows.mjs): the forced cells as the released guide's own fill.sh prints them over the translation 6ca652c4dc37a379… (all of the seat's roots in one cut). By AI agents, Wed Nov 11 2026. No macro, syntax, notation, axiom, sorry.
-/
import Derived.Test.YtnmlnngmfagmfaaChecked
import GoSem.Claim
import GoSem.ClaimJoined
import GoSem.ClaimMapViews
import Derived.JoinedTies
import Derived.KernelRfl
namespace Go.Proofs.Ytnmlnngmfagmfaa
/- THE CELL 'sum', in the pinned program and in every row, IS THE sha256 OF THE DUMP (.gsa) THAT YtnmlnngmfagmfaaProg.lean LOADS. Nothing in Lean hashes anything: it is a label: what it is worth is what the hold of that sum in a sandbox is worth. -/
noncomputable def Try.pinned : Pinned := { name := "ytnmlnngmfagmfaa", sum := "6ca652c4dc37a379bbe6e553329e7858ad093667a027c5eb5b90e40ec0ee8d2f", checked := Try.checked }
namespace Rows
def none {H : Type} : Left H := { results := [], args := [] }

/-- 'palinodelaw18.DefineTells': WHATEVER THE INPUT: true; the input reads as it did. -/
def defineTellsSpec : ChangeSpec := { name := "defineTells", fn := fun _ => fun
  | [d1, d2] => { results := [.lit (.bool true)], args := [d1, d2] }
  | _ => none }
def defineTellsRow : OpenClaim := { program := "ytnmlnngmfagmfaa", sum := "6ca652c4dc37a379bbe6e553329e7858ad093667a027c5eb5b90e40ec0ee8d2f", func := "palinode/palinodelaw18.DefineTells", spec := "defineTells", unfollowed := true, recurses := true, apart := false }
def DefineTellsSaid : Prop := defineTellsRow.holds Try.pinned (OpenSpec.ofChange defineTellsSpec)

/-- ITS FALSE NEIGHBOUR: 'it returns false'. Refute it at one input. -/
def defineTellsWrong : ChangeSpec := { name := "defineTells", fn := fun _ => fun
  | [d1, d2] => { results := [.lit (.bool false)], args := [d1, d2] }
  | _ => none }
def DefineTellsWrongFalsely : Prop := defineTellsRow.holds Try.pinned (OpenSpec.ofChange defineTellsWrong)

/-- 'palinodelaw18.DefineBytes': WHATEVER THE INPUT: true; the input reads as it did. -/
def defineBytesSpec : ChangeSpec := { name := "defineBytes", fn := fun _ => fun
  | [d1, d2] => { results := [.lit (.bool true)], args := [d1, d2] }
  | _ => none }
def defineBytesRow : OpenClaim := { program := "ytnmlnngmfagmfaa", sum := "6ca652c4dc37a379bbe6e553329e7858ad093667a027c5eb5b90e40ec0ee8d2f", func := "palinode/palinodelaw18.DefineBytes", spec := "defineBytes", unfollowed := true, recurses := true, apart := false }
def DefineBytesSaid : Prop := defineBytesRow.holds Try.pinned (OpenSpec.ofChange defineBytesSpec)

/-- ITS FALSE NEIGHBOUR: 'it returns false'. Refute it at one input. -/
def defineBytesWrong : ChangeSpec := { name := "defineBytes", fn := fun _ => fun
  | [d1, d2] => { results := [.lit (.bool false)], args := [d1, d2] }
  | _ => none }
def DefineBytesWrongFalsely : Prop := defineBytesRow.holds Try.pinned (OpenSpec.ofChange defineBytesWrong)

/-- 'palinodelaw18.DefineBack': WHATEVER THE INPUT: true; the input reads as it did. -/
def defineBackSpec : ChangeSpec := { name := "defineBack", fn := fun _ => fun
  | [d1, d2, d3, d4] => { results := [.lit (.bool true)], args := [d1, d2, d3, d4] }
  | _ => none }
def defineBackRow : OpenClaim := { program := "ytnmlnngmfagmfaa", sum := "6ca652c4dc37a379bbe6e553329e7858ad093667a027c5eb5b90e40ec0ee8d2f", func := "palinode/palinodelaw18.DefineBack", spec := "defineBack", unfollowed := true, recurses := true, apart := false }
def DefineBackSaid : Prop := defineBackRow.holds Try.pinned (OpenSpec.ofChange defineBackSpec)

/-- ITS FALSE NEIGHBOUR: 'it returns false'. Refute it at one input. -/
def defineBackWrong : ChangeSpec := { name := "defineBack", fn := fun _ => fun
  | [d1, d2, d3, d4] => { results := [.lit (.bool false)], args := [d1, d2, d3, d4] }
  | _ => none }
def DefineBackWrongFalsely : Prop := defineBackRow.holds Try.pinned (OpenSpec.ofChange defineBackWrong)

/-- 'palinodelaw18.DefineSpoils': WHATEVER THE INPUT: true; the input reads as it did. -/
def defineSpoilsSpec : ChangeSpec := { name := "defineSpoils", fn := fun _ => fun
  | [d1, d2, d3] => { results := [.lit (.bool true)], args := [d1, d2, d3] }
  | _ => none }
def defineSpoilsRow : OpenClaim := { program := "ytnmlnngmfagmfaa", sum := "6ca652c4dc37a379bbe6e553329e7858ad093667a027c5eb5b90e40ec0ee8d2f", func := "palinode/palinodelaw18.DefineSpoils", spec := "defineSpoils", unfollowed := true, recurses := true, apart := false }
def DefineSpoilsSaid : Prop := defineSpoilsRow.holds Try.pinned (OpenSpec.ofChange defineSpoilsSpec)

/-- ITS FALSE NEIGHBOUR: 'it returns false'. Refute it at one input. -/
def defineSpoilsWrong : ChangeSpec := { name := "defineSpoils", fn := fun _ => fun
  | [d1, d2, d3] => { results := [.lit (.bool false)], args := [d1, d2, d3] }
  | _ => none }
def DefineSpoilsWrongFalsely : Prop := defineSpoilsRow.holds Try.pinned (OpenSpec.ofChange defineSpoilsWrong)

/-- 'palinodelaw18.DefineTries': WHATEVER THE INPUT: true; the input reads as it did. -/
def defineTriesSpec : ChangeSpec := { name := "defineTries", fn := fun _ => fun
  | [d1, d2, d3] => { results := [.lit (.bool true)], args := [d1, d2, d3] }
  | _ => none }
def defineTriesRow : OpenClaim := { program := "ytnmlnngmfagmfaa", sum := "6ca652c4dc37a379bbe6e553329e7858ad093667a027c5eb5b90e40ec0ee8d2f", func := "palinode/palinodelaw18.DefineTries", spec := "defineTries", unfollowed := true, recurses := true, apart := false }
def DefineTriesSaid : Prop := defineTriesRow.holds Try.pinned (OpenSpec.ofChange defineTriesSpec)

/-- ITS FALSE NEIGHBOUR: 'it returns false'. Refute it at one input. -/
def defineTriesWrong : ChangeSpec := { name := "defineTries", fn := fun _ => fun
  | [d1, d2, d3] => { results := [.lit (.bool false)], args := [d1, d2, d3] }
  | _ => none }
def DefineTriesWrongFalsely : Prop := defineTriesRow.holds Try.pinned (OpenSpec.ofChange defineTriesWrong)

/- THE SECOND FORM. 'bulk': how many values and letters a reading holds, each counted each time it is reached (what is shared counts as often as it is met; a slice's spare places count too). A statement '..UptoSaid' is the law's where the arguments, and the package variables that the reading takes, are together of bulk at most 1048576: NARROWER than '..Said'. Prove '..Said' where nothing that the law and all that it calls make is longer than what came in: it says more and counts as full. Else prove '..UptoSaid'. A law counts once. -/
mutual
def uptoBulk {H : Type} : DataW H → Nat
  | .lit (.string bytes) => bytes.length + 1
  | .lit _ => 1
  | .nil => 1
  | .ptr d => uptoBulk d + 1
  | .slice elems spare => uptoBulkAll elems + uptoBulkAll spare + 1
  | .agg parts => uptoBulkAll parts + 1
  | .iface _ d => uptoBulk d + 1
  | .map entries => uptoBulkEntries entries + 1
  | .held _ => 1
def uptoBulkAll {H : Type} : List (DataW H) → Nat
  | [] => 0
  | d :: r => uptoBulk d + uptoBulkAll r
def uptoBulkEntries {H : Type} : List (Lit × DataW H) → Nat
  | [] => 0
  | x :: r => uptoBulkEntry x + uptoBulkEntries r
def uptoBulkEntry {H : Type} : Lit × DataW H → Nat
  | (.string bytes, d) => bytes.length + uptoBulk d + 1
  | (_, d) => uptoBulk d + 1
 end
def uptoSmall : (H : Type) → List (DataW H) → Bool := fun _ ds => decide (uptoBulkAll ds ≤ 1048576)
def OpenSpec.upto (s : _root_.Go.ChangeSpec) : _root_.Go.OpenSpec := { _root_.Go.OpenSpec.ofChange s with cond := some uptoSmall }

/-- 'palinodelaw18.DefineTells', WHERE WHAT IT READS IS OF BULK AT MOST 1048576: true; the input reads as it did. -/
def defineTellsUptoRow : OpenClaim := { program := "ytnmlnngmfagmfaa", sum := "6ca652c4dc37a379bbe6e553329e7858ad093667a027c5eb5b90e40ec0ee8d2f", func := "palinode/palinodelaw18.DefineTells", spec := "defineTells", unfollowed := true, recurses := true, apart := false, narrowed := true }
def DefineTellsUptoSaid : Prop := defineTellsUptoRow.holds Try.pinned (OpenSpec.upto defineTellsSpec)

/-- 'palinodelaw18.DefineBytes', WHERE WHAT IT READS IS OF BULK AT MOST 1048576: true; the input reads as it did. -/
def defineBytesUptoRow : OpenClaim := { program := "ytnmlnngmfagmfaa", sum := "6ca652c4dc37a379bbe6e553329e7858ad093667a027c5eb5b90e40ec0ee8d2f", func := "palinode/palinodelaw18.DefineBytes", spec := "defineBytes", unfollowed := true, recurses := true, apart := false, narrowed := true }
def DefineBytesUptoSaid : Prop := defineBytesUptoRow.holds Try.pinned (OpenSpec.upto defineBytesSpec)

/-- 'palinodelaw18.DefineBack', WHERE WHAT IT READS IS OF BULK AT MOST 1048576: true; the input reads as it did. -/
def defineBackUptoRow : OpenClaim := { program := "ytnmlnngmfagmfaa", sum := "6ca652c4dc37a379bbe6e553329e7858ad093667a027c5eb5b90e40ec0ee8d2f", func := "palinode/palinodelaw18.DefineBack", spec := "defineBack", unfollowed := true, recurses := true, apart := false, narrowed := true }
def DefineBackUptoSaid : Prop := defineBackUptoRow.holds Try.pinned (OpenSpec.upto defineBackSpec)

/-- 'palinodelaw18.DefineSpoils', WHERE WHAT IT READS IS OF BULK AT MOST 1048576: true; the input reads as it did. -/
def defineSpoilsUptoRow : OpenClaim := { program := "ytnmlnngmfagmfaa", sum := "6ca652c4dc37a379bbe6e553329e7858ad093667a027c5eb5b90e40ec0ee8d2f", func := "palinode/palinodelaw18.DefineSpoils", spec := "defineSpoils", unfollowed := true, recurses := true, apart := false, narrowed := true }
def DefineSpoilsUptoSaid : Prop := defineSpoilsUptoRow.holds Try.pinned (OpenSpec.upto defineSpoilsSpec)

/-- 'palinodelaw18.DefineTries', WHERE WHAT IT READS IS OF BULK AT MOST 1048576: true; the input reads as it did. -/
def defineTriesUptoRow : OpenClaim := { program := "ytnmlnngmfagmfaa", sum := "6ca652c4dc37a379bbe6e553329e7858ad093667a027c5eb5b90e40ec0ee8d2f", func := "palinode/palinodelaw18.DefineTries", spec := "defineTries", unfollowed := true, recurses := true, apart := false, narrowed := true }
def DefineTriesUptoSaid : Prop := defineTriesUptoRow.holds Try.pinned (OpenSpec.upto defineTriesSpec)

end Rows
end Go.Proofs.Ytnmlnngmfagmfaa
