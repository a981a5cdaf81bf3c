-- Printed out of the translation by a program of this session's own. Not trusted: Lean checks it.
import Derived.Test.YthdjeekfnlagmaaProg
import Derived.Below
import Derived.Deep.Draws
import Derived.Deep.AppendLies
import Derived.Maps.AppendAt
import Derived.OwnWalk
import Derived.Laws.BytesArg
import Derived.Laws.MakeOwn
import Derived.Laws.OwnMore
import Derived.Deep.OwnRows
import Derived.Tactics
import Derived.Lib.ConvBytes
import Derived.Laws.Slices
import Derived.WalkKit
import Derived.KernelRfl
import Derived.RowKit3
import Derived.Deep.LoopGhost
import Derived.Deep.QuietTactic
import Derived.BigQuiet
import Derived.WideLaws
import Derived.Deep.DeepCutAuto
import Derived.Deep.CutBlock
import Derived.Deep.RegionHeld3
import Derived.Laws.Rows
import Derived.Lib.AppendStr
import Derived.ArgAppend
import Derived.Laws.IdiomCopy
import Derived.OrdersHeld
import Derived.Laws.BitsLemmas
import Derived.RowKit
import Derived.Test.YthdjeekfnlagmaaXMake
import Derived.Test.YthdjeekfnlagmaaXRead
import Derived.Test.YthdjeekfnlagmaaWWords
import Derived.Test.YthdjeekfnlagmaaWLast
import Derived.Test.YthdjeekfnlagmaaWTab
import Derived.Test.YthdjeekfnlagmaaWFour
import Derived.Test.YthdjeekfnlagmaaWQPut
import Derived.Test.YthdjeekfnlagmaaWApart
import Derived.Test.YthdjeekfnlagmaaWArr
import Derived.Test.YthdjeekfnlagmaaWZeros
import Derived.Test.YthdjeekfnlagmaaWFoot
import Derived.Test.YthdjeekfnlagmaaWKept
import Derived.Test.YthdjeekfnlagmaaWShare
import Derived.Test.YthdjeekfnlagmaaWN
import Derived.Test.YthdjeekfnlagmaaWFootNe
import Derived.Test.YthdjeekfnlagmaaWAt
import Derived.Test.YthdjeekfnlagmaaWEqStruct
import Derived.Test.YthdjeekfnlagmaaWRepsOne
import Derived.Test.YthdjeekfnlagmaaWInv
import Derived.Test.YthdjeekfnlagmaaWInvWords
import Derived.Test.YthdjeekfnlagmaaWGuard
import Derived.Test.YthdjeekfnlagmaaWNEv
import Derived.Test.YthdjeekfnlagmaaWMore
namespace Go.Proofs.Ythdjeekfnlagmaa.Print
open Go.RowKit Go.Proofs.YthdjeekfnlagmaaW.PrintWords Go.Proofs.YthdjeekfnlagmaaW.PrintLast Go.Proofs.YthdjeekfnlagmaaW.PrintMore
attribute [local go_sem] max2_int min2_int max_two min_two max_three min_three max_four min_four   -- for this text's walks alone
set_option linter.unusedVariables false
set_option linter.unusedSimpArgs false



def errW : Option Int → Value
  | none => .nilIface
  | some c => .iface 54 (.int .i64 c)
theorem errW_none : errW none = .nilIface := rfl
theorem errW_some (c : Int) : errW (some c) = .iface 54 (.int .i64 c) := rfl

theorem info5 : (Try.prog.info? 5).map (fun i => (i.zero, i.size, i.bytes)) = some (some (.int .u8 0), 1, 1) := by kernel_rfl
theorem info9 : (Try.prog.info? 9).map (fun i => (i.zero, i.size, i.bytes)) = some (some (.string ⟨#[]⟩), 1, 16) := by kernel_rfl
-- the values' own types

end Go.Proofs.Ythdjeekfnlagmaa.Print
