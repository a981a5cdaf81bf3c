-- Printed out of the translation by a program of this session's own. Not trusted: Lean checks it.
import Derived.Test.YtbdkfmhkgeoeaaaPrint0
import Derived.Test.YtbdkfmhkgeoeaaaPrint6
namespace Go.Proofs.Ytbdkfmhkgeoeaaa.Print
open Go.RowKit Go.Proofs.YtbdkfmhkgeoeaaaW.PrintWords Go.Proofs.YtbdkfmhkgeoeaaaW.PrintLast Go.Proofs.YtbdkfmhkgeoeaaaW.PrintMore Go.Proofs.YtbdkfmhkgeoeaaaX
attribute [local go_sem] max2_int min2_int max_two min_two max_three min_three max_four min_four   -- for this text's walks alone
set_option linter.unusedVariables false
set_option linter.unusedSimpArgs false

/-! ### pack_Text: function 43 -/
def pack_Text.f (k : Nat) (a0 : ByteArray) : Option (ByteArray × Option Int) := if (a0.size : Int) > 1048576 then (some ((⟨#[]⟩ : ByteArray), some 5)) else ((pack_Num.f k (a0.size : Int)).bind fun bt199 => (if bt199.1.size + a0.size ≤ 9223372036854775807 then (some (bt199.1 ++ a0, bt199.2)) else (none)))
set_option maxHeartbeats 8000000 in
set_option maxRecDepth 100000 in
theorem pack_Text.calls (k : Nat) (a0 : ByteArray) (r1 : ByteArray) (r2 : Option Int) (w : World) (h : pack_Text.f k a0 = some (r1, r2)) :
  Calls Try.prog 43 #[.string a0] w fun e w' => e = .returned (.tuple #[.string r1, errW r2]) ∧ Below w.heap.size w w' := by
 have hu25 := Try.underlying25
 have hu48 := Try.underlying48
 have HB := Aside0.mk (Below.refl w.heap.size w)
 have H : (if (a0.size : Int) > 1048576 then (some ((⟨#[]⟩ : ByteArray), some 5)) else ((pack_Num.f k (a0.size : Int)).bind fun bt199 => (if bt199.1.size + a0.size ≤ 9223372036854775807 then (some (bt199.1 ++ a0, bt199.2)) else (none)))) = some (r1, r2) := h
 clear h
 by_cases c2 : (a0.size : Int) > 1048576
 ·
  rw [if_pos c2] at H
  have c2b0 : decide (1048576 < (a0.size : Int)) = true := decide_eq_true c2
  have c2b1 : decide (1048576 < a0.size) = true := decide_eq_true (by omega)
  clear c2
  simp only [Option.some.injEq, Prod.mk.injEq] at H
  obtain ⟨rfl, rfl⟩ := H
  go_enter Try.func43, Try.ntmps43
  go_wp2
  go_ret2
  exact ⟨by first | rfl | (simp [errW_none, errW_some] <;> rfl) | (simp [*, errW_none, errW_some] <;> rfl), Yr HB⟩
 ·
  rw [if_neg c2] at H
  have c2b0 : decide (1048576 < (a0.size : Int)) = false := decide_eq_false c2
  have c2b1 : decide (1048576 < a0.size) = false := decide_eq_false (by omega)
  clear c2
  replace H := Option.bind_eq_some_iff.mp H
  obtain ⟨⟨t199, t200⟩, A30, H⟩ := H
  replace H : (if t199.size + a0.size ≤ 9223372036854775807 then (some (t199 ++ a0, t200)) else (none)) = some (r1, r2) := H
  have A3 := Aside0.mk A30
  clear A30
  by_cases c4 : t199.size + a0.size ≤ 9223372036854775807
  ·
   rw [if_pos c4] at H
   have c4b0 := eq_true c4
   have c4b1 : decide (t199.size + a0.size ≤ 9223372036854775807) = true := decide_eq_true c4
   try have c4b2 : (9223372036854775807 < t199.size + a0.size) = False := eq_false (Nat.not_lt.2 c4)
   simp only [Option.some.injEq, Prod.mk.injEq] at H
   obtain ⟨rfl, rfl⟩ := H
   go_enter Try.func43, Try.ntmps43
   go_wp2_with (first | ((with_reducible refine gate_callee (f := 50) rfl ?_); refine goesL_ (some 13) rfl rfl Try.func50 (by kernel_rfl) rfl #[.int .i64 (a0.size : Int)] rfl (by (try simp only [List.map_toArray, List.map_cons, List.map_nil]); first | done | rfl | (simp only [List.length_drop, List.length_take]; rfl)) ?_; (with_reducible refine (pack_Num.calls k (a0.size : Int) t199 t200 _ A3.out).mono ?_); rintro e w5 ⟨rfl, hb⟩; refine ⟨_, rfl, ?_⟩; have n0_ := Aside0.mk (Yv HB hb); clear HB; have HB := n0_; clear n0_; (try clear hb); (try clear hb2); (try clear hk); (try clear hi); (try simp only [errW_none, errW_some])))
   go_ret2
   exact ⟨by first | rfl | (simp [errW_none, errW_some] <;> rfl) | (simp [*, errW_none, errW_some] <;> rfl), Yr HB⟩
  ·
   rw [if_neg c4] at H
   exact absurd H (by simp)

end Go.Proofs.Ytbdkfmhkgeoeaaa.Print
