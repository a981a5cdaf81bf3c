/-
  No cell of these rows narrows 'for every input' (looked for: loops, veiled, ifaces, maps, wideKeys, modest, calm, conditions, laid).
  DERIVED. THE GIVEN ROWS OF THIS SEAT. 10 by the template 'for every input the law returns true; each argument reads behind the call as it read before'; 0 by the template 'total and deterministic' (their statements: YtfhlpkcapohnoaaTotals.lean).
  GIVEN WITH THE SEED: the statements are not yours to turn. If you find one false, say at which input.
  Laid BY PROGRAM, IN A SANDBOX (cutbox-rows.mjs): the forced cells as the released guide's own fill.sh prints them over the translation be398e38592da762… (all of the seat's roots in one cut). By AI agents, Wed Nov 11 2026. No macro, syntax, notation, axiom, sorry.
-/
import Derived.Test.YtfhlpkcapohnoaaChecked
import GoSem.Claim
import GoSem.ClaimJoined
import GoSem.ClaimMapViews
import Derived.JoinedTies
import Derived.KernelRfl
namespace Go.Proofs.Ytfhlpkcapohnoaa
/- THE CELL 'sum', in the pinned program and in every row, IS THE sha256 OF THE DUMP (.gsa) THAT YtfhlpkcapohnoaaProg.lean LOADS. Nothing in Lean hashes anything: it is a label: what it is worth is what the hold of that sum in a sandbox is worth. -/
noncomputable def Try.pinned : Pinned := { name := "ytfhlpkcapohnoaa", sum := "be398e38592da762000957fe0172a1b523c6b9dafb9084c15bc032c05d0c8411", checked := Try.checked }
namespace Rows
def none {H : Type} : Left H := { results := [], args := [] }

/-- 'palinodelaw19.SagaTells': WHATEVER THE INPUT: true; the input reads as it did. -/
def sagaTellsSpec : ChangeSpec := { name := "sagaTells", fn := fun _ => fun
  | [d1, d2, d3, d4] => { results := [.lit (.bool true)], args := [d1, d2, d3, d4] }
  | _ => none }
def sagaTellsRow : OpenClaim := { program := "ytfhlpkcapohnoaa", sum := "be398e38592da762000957fe0172a1b523c6b9dafb9084c15bc032c05d0c8411", func := "palinode/palinodelaw19.SagaTells", spec := "sagaTells", apart := false }
def SagaTellsSaid : Prop := sagaTellsRow.holds Try.pinned (OpenSpec.ofChange sagaTellsSpec)

/-- ITS FALSE NEIGHBOUR: 'it returns false'. Refute it at one input. -/
def sagaTellsWrong : ChangeSpec := { name := "sagaTells", fn := fun _ => fun
  | [d1, d2, d3, d4] => { results := [.lit (.bool false)], args := [d1, d2, d3, d4] }
  | _ => none }
def SagaTellsWrongFalsely : Prop := sagaTellsRow.holds Try.pinned (OpenSpec.ofChange sagaTellsWrong)

/-- 'palinodelaw19.SagaReplies': WHATEVER THE INPUT: true; the input reads as it did. -/
def sagaRepliesSpec : ChangeSpec := { name := "sagaReplies", fn := fun _ => fun
  | [d1, d2, d3, d4, d5, d6] => { results := [.lit (.bool true)], args := [d1, d2, d3, d4, d5, d6] }
  | _ => none }
def sagaRepliesRow : OpenClaim := { program := "ytfhlpkcapohnoaa", sum := "be398e38592da762000957fe0172a1b523c6b9dafb9084c15bc032c05d0c8411", func := "palinode/palinodelaw19.SagaReplies", spec := "sagaReplies", apart := false }
def SagaRepliesSaid : Prop := sagaRepliesRow.holds Try.pinned (OpenSpec.ofChange sagaRepliesSpec)

/-- ITS FALSE NEIGHBOUR: 'it returns false'. Refute it at one input. -/
def sagaRepliesWrong : ChangeSpec := { name := "sagaReplies", fn := fun _ => fun
  | [d1, d2, d3, d4, d5, d6] => { results := [.lit (.bool false)], args := [d1, d2, d3, d4, d5, d6] }
  | _ => none }
def SagaRepliesWrongFalsely : Prop := sagaRepliesRow.holds Try.pinned (OpenSpec.ofChange sagaRepliesWrong)

/-- 'palinodelaw19.SagaOrder': WHATEVER THE INPUT: true; the input reads as it did. -/
def sagaOrderSpec : ChangeSpec := { name := "sagaOrder", fn := fun _ => fun
  | [d1, d2, d3] => { results := [.lit (.bool true)], args := [d1, d2, d3] }
  | _ => none }
def sagaOrderRow : OpenClaim := { program := "ytfhlpkcapohnoaa", sum := "be398e38592da762000957fe0172a1b523c6b9dafb9084c15bc032c05d0c8411", func := "palinode/palinodelaw19.SagaOrder", spec := "sagaOrder", apart := false }
def SagaOrderSaid : Prop := sagaOrderRow.holds Try.pinned (OpenSpec.ofChange sagaOrderSpec)

/-- ITS FALSE NEIGHBOUR: 'it returns false'. Refute it at one input. -/
def sagaOrderWrong : ChangeSpec := { name := "sagaOrder", fn := fun _ => fun
  | [d1, d2, d3] => { results := [.lit (.bool false)], args := [d1, d2, d3] }
  | _ => none }
def SagaOrderWrongFalsely : Prop := sagaOrderRow.holds Try.pinned (OpenSpec.ofChange sagaOrderWrong)

/-- 'palinodelaw19.SagaTwice': WHATEVER THE INPUT: true; the input reads as it did. -/
def sagaTwiceSpec : ChangeSpec := { name := "sagaTwice", fn := fun _ => fun
  | [d1, d2, d3, d4] => { results := [.lit (.bool true)], args := [d1, d2, d3, d4] }
  | _ => none }
def sagaTwiceRow : OpenClaim := { program := "ytfhlpkcapohnoaa", sum := "be398e38592da762000957fe0172a1b523c6b9dafb9084c15bc032c05d0c8411", func := "palinode/palinodelaw19.SagaTwice", spec := "sagaTwice", apart := false }
def SagaTwiceSaid : Prop := sagaTwiceRow.holds Try.pinned (OpenSpec.ofChange sagaTwiceSpec)

/-- ITS FALSE NEIGHBOUR: 'it returns false'. Refute it at one input. -/
def sagaTwiceWrong : ChangeSpec := { name := "sagaTwice", fn := fun _ => fun
  | [d1, d2, d3, d4] => { results := [.lit (.bool false)], args := [d1, d2, d3, d4] }
  | _ => none }
def SagaTwiceWrongFalsely : Prop := sagaTwiceRow.holds Try.pinned (OpenSpec.ofChange sagaTwiceWrong)

/-- 'palinodelaw19.SagaSteps': WHATEVER THE INPUT: true; the input reads as it did. -/
def sagaStepsSpec : ChangeSpec := { name := "sagaSteps", fn := fun _ => fun
  | [d1, d2, d3, d4] => { results := [.lit (.bool true)], args := [d1, d2, d3, d4] }
  | _ => none }
def sagaStepsRow : OpenClaim := { program := "ytfhlpkcapohnoaa", sum := "be398e38592da762000957fe0172a1b523c6b9dafb9084c15bc032c05d0c8411", func := "palinode/palinodelaw19.SagaSteps", spec := "sagaSteps", apart := false }
def SagaStepsSaid : Prop := sagaStepsRow.holds Try.pinned (OpenSpec.ofChange sagaStepsSpec)

/-- ITS FALSE NEIGHBOUR: 'it returns false'. Refute it at one input. -/
def sagaStepsWrong : ChangeSpec := { name := "sagaSteps", fn := fun _ => fun
  | [d1, d2, d3, d4] => { results := [.lit (.bool false)], args := [d1, d2, d3, d4] }
  | _ => none }
def SagaStepsWrongFalsely : Prop := sagaStepsRow.holds Try.pinned (OpenSpec.ofChange sagaStepsWrong)

/-- 'palinodelaw19.SagaDue': WHATEVER THE INPUT: true; the input reads as it did. -/
def sagaDueSpec : ChangeSpec := { name := "sagaDue", fn := fun _ => fun
  | [d1, d2, d3, d4, d5] => { results := [.lit (.bool true)], args := [d1, d2, d3, d4, d5] }
  | _ => none }
def sagaDueRow : OpenClaim := { program := "ytfhlpkcapohnoaa", sum := "be398e38592da762000957fe0172a1b523c6b9dafb9084c15bc032c05d0c8411", func := "palinode/palinodelaw19.SagaDue", spec := "sagaDue", apart := false }
def SagaDueSaid : Prop := sagaDueRow.holds Try.pinned (OpenSpec.ofChange sagaDueSpec)

/-- ITS FALSE NEIGHBOUR: 'it returns false'. Refute it at one input. -/
def sagaDueWrong : ChangeSpec := { name := "sagaDue", fn := fun _ => fun
  | [d1, d2, d3, d4, d5] => { results := [.lit (.bool false)], args := [d1, d2, d3, d4, d5] }
  | _ => none }
def SagaDueWrongFalsely : Prop := sagaDueRow.holds Try.pinned (OpenSpec.ofChange sagaDueWrong)

/-- 'palinodelaw19.SagaAck': WHATEVER THE INPUT: true; the input reads as it did. -/
def sagaAckSpec : ChangeSpec := { name := "sagaAck", fn := fun _ => fun
  | [d1, d2, d3, d4] => { results := [.lit (.bool true)], args := [d1, d2, d3, d4] }
  | _ => none }
def sagaAckRow : OpenClaim := { program := "ytfhlpkcapohnoaa", sum := "be398e38592da762000957fe0172a1b523c6b9dafb9084c15bc032c05d0c8411", func := "palinode/palinodelaw19.SagaAck", spec := "sagaAck", apart := false }
def SagaAckSaid : Prop := sagaAckRow.holds Try.pinned (OpenSpec.ofChange sagaAckSpec)

/-- ITS FALSE NEIGHBOUR: 'it returns false'. Refute it at one input. -/
def sagaAckWrong : ChangeSpec := { name := "sagaAck", fn := fun _ => fun
  | [d1, d2, d3, d4] => { results := [.lit (.bool false)], args := [d1, d2, d3, d4] }
  | _ => none }
def SagaAckWrongFalsely : Prop := sagaAckRow.holds Try.pinned (OpenSpec.ofChange sagaAckWrong)

/-- 'palinodelaw19.SagaEnds': WHATEVER THE INPUT: true; the input reads as it did. -/
def sagaEndsSpec : ChangeSpec := { name := "sagaEnds", fn := fun _ => fun
  | [d1, d2, d3] => { results := [.lit (.bool true)], args := [d1, d2, d3] }
  | _ => none }
def sagaEndsRow : OpenClaim := { program := "ytfhlpkcapohnoaa", sum := "be398e38592da762000957fe0172a1b523c6b9dafb9084c15bc032c05d0c8411", func := "palinode/palinodelaw19.SagaEnds", spec := "sagaEnds", apart := false }
def SagaEndsSaid : Prop := sagaEndsRow.holds Try.pinned (OpenSpec.ofChange sagaEndsSpec)

/-- ITS FALSE NEIGHBOUR: 'it returns false'. Refute it at one input. -/
def sagaEndsWrong : ChangeSpec := { name := "sagaEnds", fn := fun _ => fun
  | [d1, d2, d3] => { results := [.lit (.bool false)], args := [d1, d2, d3] }
  | _ => none }
def SagaEndsWrongFalsely : Prop := sagaEndsRow.holds Try.pinned (OpenSpec.ofChange sagaEndsWrong)

/-- 'palinodelaw19.SagaExpires': WHATEVER THE INPUT: true; the input reads as it did. -/
def sagaExpiresSpec : ChangeSpec := { name := "sagaExpires", fn := fun _ => fun
  | [d1, d2, d3, d4, d5] => { results := [.lit (.bool true)], args := [d1, d2, d3, d4, d5] }
  | _ => none }
def sagaExpiresRow : OpenClaim := { program := "ytfhlpkcapohnoaa", sum := "be398e38592da762000957fe0172a1b523c6b9dafb9084c15bc032c05d0c8411", func := "palinode/palinodelaw19.SagaExpires", spec := "sagaExpires", apart := false }
def SagaExpiresSaid : Prop := sagaExpiresRow.holds Try.pinned (OpenSpec.ofChange sagaExpiresSpec)

/-- ITS FALSE NEIGHBOUR: 'it returns false'. Refute it at one input. -/
def sagaExpiresWrong : ChangeSpec := { name := "sagaExpires", fn := fun _ => fun
  | [d1, d2, d3, d4, d5] => { results := [.lit (.bool false)], args := [d1, d2, d3, d4, d5] }
  | _ => none }
def SagaExpiresWrongFalsely : Prop := sagaExpiresRow.holds Try.pinned (OpenSpec.ofChange sagaExpiresWrong)

/-- 'palinodelaw19.SagaRight': WHATEVER THE INPUT: true; the input reads as it did. -/
def sagaRightSpec : ChangeSpec := { name := "sagaRight", fn := fun _ => fun
  | [d1, d2, d3, d4, d5, d6] => { results := [.lit (.bool true)], args := [d1, d2, d3, d4, d5, d6] }
  | _ => none }
def sagaRightRow : OpenClaim := { program := "ytfhlpkcapohnoaa", sum := "be398e38592da762000957fe0172a1b523c6b9dafb9084c15bc032c05d0c8411", func := "palinode/palinodelaw19.SagaRight", spec := "sagaRight", apart := false }
def SagaRightSaid : Prop := sagaRightRow.holds Try.pinned (OpenSpec.ofChange sagaRightSpec)

/-- ITS FALSE NEIGHBOUR: 'it returns false'. Refute it at one input. -/
def sagaRightWrong : ChangeSpec := { name := "sagaRight", fn := fun _ => fun
  | [d1, d2, d3, d4, d5, d6] => { results := [.lit (.bool false)], args := [d1, d2, d3, d4, d5, d6] }
  | _ => none }
def SagaRightWrongFalsely : Prop := sagaRightRow.holds Try.pinned (OpenSpec.ofChange sagaRightWrong)

/- THE SECOND FORM. 'bulk': how many values and letters a reading holds, each counted each time it is reached (what is shared counts as often as it is met; a slice's spare places count too). A statement '..UptoSaid' is the law's where the arguments, and the package variables that the reading takes, are together of bulk at most 1048576: NARROWER than '..Said'. Prove '..Said' where nothing that the law and all that it calls make is longer than what came in: it says more and counts as full. Else prove '..UptoSaid'. A law counts once. -/
mutual
def uptoBulk {H : Type} : DataW H → Nat
  | .lit (.string bytes) => bytes.length + 1
  | .lit _ => 1
  | .nil => 1
  | .ptr d => uptoBulk d + 1
  | .slice elems spare => uptoBulkAll elems + uptoBulkAll spare + 1
  | .agg parts => uptoBulkAll parts + 1
  | .iface _ d => uptoBulk d + 1
  | .map entries => uptoBulkEntries entries + 1
  | .held _ => 1
def uptoBulkAll {H : Type} : List (DataW H) → Nat
  | [] => 0
  | d :: r => uptoBulk d + uptoBulkAll r
def uptoBulkEntries {H : Type} : List (Lit × DataW H) → Nat
  | [] => 0
  | x :: r => uptoBulkEntry x + uptoBulkEntries r
def uptoBulkEntry {H : Type} : Lit × DataW H → Nat
  | (.string bytes, d) => bytes.length + uptoBulk d + 1
  | (_, d) => uptoBulk d + 1
 end
def uptoSmall : (H : Type) → List (DataW H) → Bool := fun _ ds => decide (uptoBulkAll ds ≤ 1048576)
def OpenSpec.upto (s : _root_.Go.ChangeSpec) : _root_.Go.OpenSpec := { _root_.Go.OpenSpec.ofChange s with cond := some uptoSmall }

/-- 'palinodelaw19.SagaTells', WHERE WHAT IT READS IS OF BULK AT MOST 1048576: true; the input reads as it did. -/
def sagaTellsUptoRow : OpenClaim := { program := "ytfhlpkcapohnoaa", sum := "be398e38592da762000957fe0172a1b523c6b9dafb9084c15bc032c05d0c8411", func := "palinode/palinodelaw19.SagaTells", spec := "sagaTells", apart := false, narrowed := true }
def SagaTellsUptoSaid : Prop := sagaTellsUptoRow.holds Try.pinned (OpenSpec.upto sagaTellsSpec)

/-- 'palinodelaw19.SagaReplies', WHERE WHAT IT READS IS OF BULK AT MOST 1048576: true; the input reads as it did. -/
def sagaRepliesUptoRow : OpenClaim := { program := "ytfhlpkcapohnoaa", sum := "be398e38592da762000957fe0172a1b523c6b9dafb9084c15bc032c05d0c8411", func := "palinode/palinodelaw19.SagaReplies", spec := "sagaReplies", apart := false, narrowed := true }
def SagaRepliesUptoSaid : Prop := sagaRepliesUptoRow.holds Try.pinned (OpenSpec.upto sagaRepliesSpec)

/-- 'palinodelaw19.SagaOrder', WHERE WHAT IT READS IS OF BULK AT MOST 1048576: true; the input reads as it did. -/
def sagaOrderUptoRow : OpenClaim := { program := "ytfhlpkcapohnoaa", sum := "be398e38592da762000957fe0172a1b523c6b9dafb9084c15bc032c05d0c8411", func := "palinode/palinodelaw19.SagaOrder", spec := "sagaOrder", apart := false, narrowed := true }
def SagaOrderUptoSaid : Prop := sagaOrderUptoRow.holds Try.pinned (OpenSpec.upto sagaOrderSpec)

/-- 'palinodelaw19.SagaTwice', WHERE WHAT IT READS IS OF BULK AT MOST 1048576: true; the input reads as it did. -/
def sagaTwiceUptoRow : OpenClaim := { program := "ytfhlpkcapohnoaa", sum := "be398e38592da762000957fe0172a1b523c6b9dafb9084c15bc032c05d0c8411", func := "palinode/palinodelaw19.SagaTwice", spec := "sagaTwice", apart := false, narrowed := true }
def SagaTwiceUptoSaid : Prop := sagaTwiceUptoRow.holds Try.pinned (OpenSpec.upto sagaTwiceSpec)

/-- 'palinodelaw19.SagaSteps', WHERE WHAT IT READS IS OF BULK AT MOST 1048576: true; the input reads as it did. -/
def sagaStepsUptoRow : OpenClaim := { program := "ytfhlpkcapohnoaa", sum := "be398e38592da762000957fe0172a1b523c6b9dafb9084c15bc032c05d0c8411", func := "palinode/palinodelaw19.SagaSteps", spec := "sagaSteps", apart := false, narrowed := true }
def SagaStepsUptoSaid : Prop := sagaStepsUptoRow.holds Try.pinned (OpenSpec.upto sagaStepsSpec)

/-- 'palinodelaw19.SagaDue', WHERE WHAT IT READS IS OF BULK AT MOST 1048576: true; the input reads as it did. -/
def sagaDueUptoRow : OpenClaim := { program := "ytfhlpkcapohnoaa", sum := "be398e38592da762000957fe0172a1b523c6b9dafb9084c15bc032c05d0c8411", func := "palinode/palinodelaw19.SagaDue", spec := "sagaDue", apart := false, narrowed := true }
def SagaDueUptoSaid : Prop := sagaDueUptoRow.holds Try.pinned (OpenSpec.upto sagaDueSpec)

/-- 'palinodelaw19.SagaAck', WHERE WHAT IT READS IS OF BULK AT MOST 1048576: true; the input reads as it did. -/
def sagaAckUptoRow : OpenClaim := { program := "ytfhlpkcapohnoaa", sum := "be398e38592da762000957fe0172a1b523c6b9dafb9084c15bc032c05d0c8411", func := "palinode/palinodelaw19.SagaAck", spec := "sagaAck", apart := false, narrowed := true }
def SagaAckUptoSaid : Prop := sagaAckUptoRow.holds Try.pinned (OpenSpec.upto sagaAckSpec)

/-- 'palinodelaw19.SagaEnds', WHERE WHAT IT READS IS OF BULK AT MOST 1048576: true; the input reads as it did. -/
def sagaEndsUptoRow : OpenClaim := { program := "ytfhlpkcapohnoaa", sum := "be398e38592da762000957fe0172a1b523c6b9dafb9084c15bc032c05d0c8411", func := "palinode/palinodelaw19.SagaEnds", spec := "sagaEnds", apart := false, narrowed := true }
def SagaEndsUptoSaid : Prop := sagaEndsUptoRow.holds Try.pinned (OpenSpec.upto sagaEndsSpec)

/-- 'palinodelaw19.SagaExpires', WHERE WHAT IT READS IS OF BULK AT MOST 1048576: true; the input reads as it did. -/
def sagaExpiresUptoRow : OpenClaim := { program := "ytfhlpkcapohnoaa", sum := "be398e38592da762000957fe0172a1b523c6b9dafb9084c15bc032c05d0c8411", func := "palinode/palinodelaw19.SagaExpires", spec := "sagaExpires", apart := false, narrowed := true }
def SagaExpiresUptoSaid : Prop := sagaExpiresUptoRow.holds Try.pinned (OpenSpec.upto sagaExpiresSpec)

/-- 'palinodelaw19.SagaRight', WHERE WHAT IT READS IS OF BULK AT MOST 1048576: true; the input reads as it did. -/
def sagaRightUptoRow : OpenClaim := { program := "ytfhlpkcapohnoaa", sum := "be398e38592da762000957fe0172a1b523c6b9dafb9084c15bc032c05d0c8411", func := "palinode/palinodelaw19.SagaRight", spec := "sagaRight", apart := false, narrowed := true }
def SagaRightUptoSaid : Prop := sagaRightUptoRow.holds Try.pinned (OpenSpec.upto sagaRightSpec)

end Rows
end Go.Proofs.Ytfhlpkcapohnoaa
