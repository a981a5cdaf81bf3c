/- Contracts proved by hand: see the theorems' own lines. -/
import Derived.LaidEql
import Derived.Lib.IfaceEq
import Derived.RowKitTokens
import Derived.Stop.Asserts
import Derived.Test.YtbdkfmhkgeoeaaaPrint0
namespace Go.Proofs.Ytbdkfmhkgeoeaaa.Print
open Go.RowKit Go.Proofs.YtbdkfmhkgeoeaaaW.PrintWords Go.Proofs.YtbdkfmhkgeoeaaaW.PrintLast Go.Proofs.YtbdkfmhkgeoeaaaX Go.Extern.Stop Go.Stop Go.Extern
set_option linter.unusedVariables false
set_option linter.unusedSimpArgs false

/-- Is an error of the program's own (nil, or a number) that one (which is not nil)? -/
def errors_Is.f (a0 a1 : Option Int) : Option Bool := match a1 with | none => none | some _ => some (a0 == a1)

theorem isTypeOf_ (v : Value) (w : World) : (Extern.ReflectliteType.typeOf #[.iface 48 v]).run Try.prog w = .ok (.iface 123 (.agg #[.pointer (some ⟨1, 48, none⟩)])) w := by kernel_rfl
theorem isMethodComparable_ (v : Value) (w : World) : (Go.method 264 123 v "Comparable").run Try.prog w = .ok (105, v) w := by kernel_rfl
theorem comparable_ (w : World) : (callFunc 105 #[.agg #[.pointer (some ⟨1, 48, none⟩)]]).run Try.prog w = .ok (.value (.bool true)) w := by
  rw [@run_callFunc_extern Try.prog 105 _ (Extern.ReflectliteType.method fun t => do Rtype.noPackHeld "Comparable" t; pure (.bool (← typeInfo t).comparable)) Try.func105 (by kernel_rfl) (by kernel_rfl) (by kernel_rfl) (by kernel_rfl)]
  kernel_rfl
theorem noIs_ (v : Value) (xT : TypeId) (w : World) : (Instr.typeAssert (.iface 48 v) xT 125 true).run Try.prog w = .ok (.tuple #[.nilIface, .bool false]) w := run_typeAssert_lacksB Try.underlying125 (by kernel_rfl) (by kernel_rfl) v xT w
theorem noUnwrap_ (v : Value) (xT : TypeId) (w : World) : (Instr.typeAssert (.iface 48 v) xT 128 true).run Try.prog w = .ok (.tuple #[.nilIface, .bool false]) w := run_typeAssert_lacksB Try.underlying128 (by kernel_rfl) (by kernel_rfl) v xT w
theorem noUnwraps_ (v : Value) (xT : TypeId) (w : World) : (Instr.typeAssert (.iface 48 v) xT 130 true).run Try.prog w = .ok (.tuple #[.nilIface, .bool false]) w := run_typeAssert_lacksB Try.underlying130 (by kernel_rfl) (by kernel_rfl) v xT w

set_option maxHeartbeats 4000000 in
set_option maxRecDepth 100000 in
theorem errors_is_calls (x y : Int) (w : World) :
    Calls Try.prog 79 #[.iface 48 (.int .i64 x), .iface 48 (.int .i64 y), .bool true] w fun e w' => e = .returned (.bool (x == y)) ∧ Drawn0 w w' := by
  have nE := noIs_
  have uE := noUnwrap_
  have vE := noUnwraps_
  have heq := fun (w : World) => Lib.run_eql_iface_int (P := Try.prog) w (k := .i64) (q := .i64) x y Try.underlying25 (by kernel_rfl : (Try.prog.info? 48).map (·.comparable) = some true) Try.underlying48
  by_cases c : x = y
  · have c1 : (x == y) = true := beq_iff_eq.2 c
    clear c
    go_enter Try.func79, Try.ntmps79
    go_wp2
    refine wp_loop_rounds 1 ?_
    rw [rounds_succ]
    go_wp2
    go_ret
    exact ⟨by rw [c1]; rfl, by repeat (first | exact Drawn0.refl _ | apply Drawn0.step)⟩
  · have c1 : (x == y) = false := beq_eq_false_iff_ne.2 c
    clear c
    go_enter Try.func79, Try.ntmps79
    go_wp2
    refine wp_loop_rounds 1 ?_
    rw [rounds_succ]
    go_wp2
    go_ret
    exact ⟨by rw [c1]; rfl, by repeat (first | exact Drawn0.refl _ | apply Drawn0.step)⟩

set_option maxHeartbeats 4000000 in
set_option maxRecDepth 100000 in
theorem errors_Is.calls (a0 a1 : Option Int) (r : Bool) (w : World) (h : errors_Is.f a0 a1 = some r) :
    Calls Try.prog 62 #[errW a0, errW a1] w fun e w' => e = .returned (.bool r) ∧ Drawn0 w w' := by
  rcases a1 with _ | y
  · cases h
  obtain rfl := Option.some.inj h
  have hn := fun (v : Value) (w : World) => run_eql_iface_nil_left (P := Try.prog) w 48 v Try.underlying25
  rcases a0 with _ | x
  · simp only [errW_none, errW_some]
    go_enter Try.func62, Try.ntmps62
    go_wp2
    go_ret
    exact ⟨rfl, by repeat (first | exact Drawn0.refl _ | apply Drawn0.step)⟩
  · have h8 := @run_callFunc_extern Try.prog 78 _ Extern.ReflectliteType.typeOf Try.func78 (by kernel_rfl) (by kernel_rfl) (by kernel_rfl) (by kernel_rfl)
    have h32 := fun (w : World) => comparable_ w
    have tT := isTypeOf_
    have mR := isMethodComparable_
    simp only [errW_some]
    go_enter Try.func62, Try.ntmps62
    go_wp2_with (go_at_call 79; (with_reducible refine (errors_is_calls x y _).mono ?_); rintro e w1 ⟨rfl, ⟨nd, rfl⟩⟩)
    go_ret
    exact ⟨rfl, by repeat (first | exact Drawn0.refl _ | apply Drawn0.step)⟩
end Go.Proofs.Ytbdkfmhkgeoeaaa.Print
