/- Contracts proved by hand: see the theorems' own lines. -/
import Derived.Defers
import Derived.Recover
import Derived.Test.YtbdkfmhkgeoeaaaHBlockReader
import Derived.Test.YtbdkfmhkgeoeaaaPrint0
import Derived.WalkLawsBesides
namespace Go.Proofs.Ytbdkfmhkgeoeaaa.Print
open Go.RowKit Go.Proofs.YtbdkfmhkgeoeaaaW.PrintWords Go.Proofs.YtbdkfmhkgeoeaaaW.PrintLast Go.Proofs.YtbdkfmhkgeoeaaaW.PrintMore Go.Proofs.YtbdkfmhkgeoeaaaX
set_option linter.unusedVariables false
set_option linter.unusedSimpArgs false

set_option maxHeartbeats 2000000 in
set_option maxRecDepth 100000 in
/-- The deferred closure of a frame that returns: it turns nothing. -/
theorem decode_idle (gl ge : Nat) (w : World) :
    CallsD Try.prog 63 #[.pointer (some ⟨gl, 0, none⟩), .pointer (some ⟨ge, 0, none⟩)] .returning w fun e u' w' => e = .returned (.tuple #[]) ∧ u' = .returning ∧ w' = w := by
  refine callsD_of_wpS Try.func63 rfl fun c₀ cs hu => ?_
  apply wpS_seq
  apply wpS_region
  simp [wpOpsS, go_sem, recoverD, hu, Try.ntmps63, Exit.thenS]
  refine wpS_of_wp ?_
  simp only [Array.replicate_succ, Array.replicate_zero, List.push_toArray, List.nil_append, List.cons_append, List.setIfInBounds_toArray, List.set_cons_zero, List.set_cons_succ, List.append_toArray]
  go_wp2
  cases c₀
  simp_all [bodyPostS, results, Try.results63]
set_option maxHeartbeats 2000000 in
set_option maxRecDepth 100000 in
/-- The deferred closure of a frame that a reader's panic goes through. -/
theorem decode_catch (gl ge : Nat) (v u : Value) (older : List PanicEntry) (w : World) (hl : w.heap[gl]? = some (.cells #[v] 22 (0, 0))) (he : w.heap[ge]? = some (.cells #[u] 25 (0, 0))) (hv : ∃ A m c, v = .slice A m c) (hne : gl ≠ ge) :
    CallsD Try.prog 63 #[.pointer (some ⟨gl, 0, none⟩), .pointer (some ⟨ge, 0, none⟩)] (.panicking ({ v := .iface 99 (.agg #[]), recovered := false } :: older)) w fun e u' w' => e = .returned (.tuple #[]) ∧ u' = .panicking ({ v := .iface 99 (.agg #[]), recovered := true } :: older) ∧
      w' = ((w.alloc (.cells #[] 99)).setCell ⟨gl, 0, none⟩ (.slice none 0 0)).setCell ⟨ge, 0, none⟩ (.iface 48 (.int .i64 3)) := by
  obtain ⟨A, m, c, rfl⟩ := hv
  have BL := Aside0.mk (blk_alloc hl (.cells #[] 99))
  have BE := Aside0.mk (blk_alloc he (.cells #[] 99))
  obtain ⟨hcl, hfl⟩ := Zk1 BL
  obtain ⟨hce, hfe⟩ := Zk1 BE
  have hne2 := hne.symm
  have hta : ∀ W : World, (Instr.typeAssert (.iface 99 (.agg #[])) 20 99 true).run Try.prog W = .ok (.tuple #[.agg #[], .bool true]) W := fun W => by rfl
  refine callsD_of_wpS Try.func63 rfl fun c₀ cs hu => ?_
  apply wpS_seq
  apply wpS_region
  simp [wpOpsS, go_sem, recoverD, hu, Try.ntmps63, Exit.thenS]
  refine wpS_of_wp ?_
  simp only [Array.replicate_succ, Array.replicate_zero, List.push_toArray, List.nil_append, List.cons_append, List.setIfInBounds_toArray, List.set_cons_zero, List.set_cons_succ, List.append_toArray]
  go_wp2
  cases c₀
  simp_all [bodyPostS, results, Try.results63]
end Go.Proofs.Ytbdkfmhkgeoeaaa.Print
