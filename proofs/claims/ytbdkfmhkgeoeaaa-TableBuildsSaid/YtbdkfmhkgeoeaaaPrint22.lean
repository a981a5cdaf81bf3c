-- Printed out of the translation by a program of this session's own. Not trusted: Lean checks it.
import Derived.Test.YtbdkfmhkgeoeaaaPrint0
import Derived.Test.YtbdkfmhkgeoeaaaPrint8
import Derived.Test.YtbdkfmhkgeoeaaaHFrameFour
import Derived.Test.YtbdkfmhkgeoeaaaHFrameSum
namespace Go.Proofs.Ytbdkfmhkgeoeaaa.Print
open Go.RowKit Go.Proofs.YtbdkfmhkgeoeaaaW.PrintWords Go.Proofs.YtbdkfmhkgeoeaaaW.PrintLast Go.Proofs.YtbdkfmhkgeoeaaaW.PrintMore Go.Proofs.YtbdkfmhkgeoeaaaX
attribute [local go_sem] max2_int min2_int max_two min_two max_three min_three max_four min_four   -- for this text's walks alone
set_option linter.unusedVariables false
set_option linter.unusedSimpArgs false

-- NOT PRINTED: function 3 (palinodelaw13_TableBuilds)

/-! ### frame_Put: function 23 -/
def frame_Put.f (k : Nat) (a0 : ByteArray) : Option (ByteArray × Option Int) := (pack_Text.f k a0).bind fun bt346 => (if bt346.2.isNone = true then ((frame_Sum.f a0).bind fun t349 => ((frame_four.f t349).bind fun t350 => (if bt346.1.size + t350.size ≤ 9223372036854775807 then (some (bt346.1 ++ t350, none)) else (none)))) else (some ((⟨#[]⟩ : ByteArray), some (bt346.2.getD 0))))
set_option maxHeartbeats 8000000 in
set_option maxRecDepth 100000 in
theorem frame_Put.calls (k : Nat) (a0 : ByteArray) (r1 : ByteArray) (r2 : Option Int) (w : World) (h : frame_Put.f k a0 = some (r1, r2)) :
  Calls Try.prog 23 #[.string a0] w fun e w' => e = .returned (.tuple #[.string r1, errW r2]) ∧ Below w.heap.size w w' := by
 have hu25 := Try.underlying25
 have hu48 := Try.underlying48
 have HB := Aside0.mk (Below.refl w.heap.size w)
 have H : ((pack_Text.f k a0).bind fun bt346 => (if bt346.2.isNone = true then ((frame_Sum.f a0).bind fun t349 => ((frame_four.f t349).bind fun t350 => (if bt346.1.size + t350.size ≤ 9223372036854775807 then (some (bt346.1 ++ t350, none)) else (none)))) else (some ((⟨#[]⟩ : ByteArray), some (bt346.2.getD 0))))) = some (r1, r2) := h
 clear h
 replace H := Option.bind_eq_some_iff.mp H
 obtain ⟨⟨t346, t347⟩, A20, H⟩ := H
 replace H : (if t347.isNone = true then ((frame_Sum.f a0).bind fun t349 => ((frame_four.f t349).bind fun t350 => (if t346.size + t350.size ≤ 9223372036854775807 then (some (t346 ++ t350, none)) else (none)))) else (some ((⟨#[]⟩ : ByteArray), some (t347.getD 0)))) = some (r1, r2) := H
 have A2 := Aside0.mk A20
 clear A20
 rcases t347 with _ | q348
 ·
  have H1 : ((frame_Sum.f a0).bind fun t349 => ((frame_four.f t349).bind fun t350 => (if t346.size + t350.size ≤ 9223372036854775807 then (some (t346 ++ t350, none)) else (none)))) = some (r1, r2) := by rw [if_pos (show (none : Option Int).isNone = true by rfl)] at H; exact H
  clear H
  have H := H1
  clear H1
  try simp only [errW_none, errW_some]
  replace H := Option.bind_eq_some_iff.mp H
  obtain ⟨t349, A30, H⟩ := H
  replace H : ((frame_four.f t349).bind fun t350 => (if t346.size + t350.size ≤ 9223372036854775807 then (some (t346 ++ t350, none)) else (none))) = some (r1, r2) := H
  have A3 := Aside0.mk A30
  clear A30
  replace H := Option.bind_eq_some_iff.mp H
  obtain ⟨t350, A40, H⟩ := H
  replace H : (if t346.size + t350.size ≤ 9223372036854775807 then (some (t346 ++ t350, none)) else (none)) = some (r1, r2) := H
  have A4 := Aside0.mk A40
  clear A40
  by_cases c5 : t346.size + t350.size ≤ 9223372036854775807
  ·
   rw [if_pos c5] at H
   have c5b0 := eq_true c5
   have c5b1 : decide (t346.size + t350.size ≤ 9223372036854775807) = true := decide_eq_true c5
   try have c5b2 : (9223372036854775807 < t346.size + t350.size) = False := eq_false (Nat.not_lt.2 c5)
   simp only [Option.some.injEq, Prod.mk.injEq] at H
   obtain ⟨rfl, rfl⟩ := H
   go_enter Try.func23, Try.ntmps23
   go_wp2_with (first | ((with_reducible refine gate_callee (f := 43) rfl ?_); refine goesL_ (some 8) rfl rfl Try.func43 (by kernel_rfl) rfl #[.string a0] rfl (by (try simp only [List.map_toArray, List.map_cons, List.map_nil]); first | done | rfl | (simp only [List.length_drop, List.length_take]; rfl)) ?_; (with_reducible refine (pack_Text.calls k a0 t346 none _ A2.out).mono ?_); rintro e w6 ⟨rfl, hb⟩; refine ⟨_, rfl, ?_⟩; have n0_ := Aside0.mk (Yv HB hb); clear HB; have HB := n0_; clear n0_; (try clear hb); (try clear hb2); (try clear hk); (try clear hi); (try simp only [errW_none, errW_some])) | ((with_reducible refine gate_callee (f := 45) rfl ?_); refine goesL_ (some 16) rfl rfl Try.func45 (by kernel_rfl) rfl #[.string a0] rfl (by (try simp only [List.map_toArray, List.map_cons, List.map_nil]); first | done | rfl | (simp only [List.length_drop, List.length_take]; rfl)) ?_; (with_reducible refine (frame_Sum.calls a0 t349 _ A3.out).mono ?_); rintro e w7 ⟨rfl, hb⟩; refine ⟨_, rfl, ?_⟩; have n0_ := Aside0.mk (Yv HB hb); clear HB; have HB := n0_; clear n0_; (try clear hb); (try clear hb2); (try clear hk); (try clear hi)) | ((with_reducible refine gate_callee (f := 44) rfl ?_); refine goesL_ (some 17) rfl rfl Try.func44 (by kernel_rfl) rfl #[.int .u32 t349] rfl (by (try simp only [List.map_toArray, List.map_cons, List.map_nil]); first | done | rfl | (simp only [List.length_drop, List.length_take]; rfl)) ?_; (with_reducible refine (frame_four.calls t349 t350 _ A4.out).mono ?_); rintro e w8 ⟨rfl, hb⟩; refine ⟨_, rfl, ?_⟩; have n0_ := Aside0.mk (Yv HB hb); clear HB; have HB := n0_; clear n0_; (try clear hb); (try clear hb2); (try clear hk); (try clear hi)))
   go_ret2
   exact ⟨by first | rfl | (simp [errW_none, errW_some] <;> rfl) | (simp [*, errW_none, errW_some] <;> rfl), Yr HB⟩
  ·
   rw [if_neg c5] at H
   exact absurd H (by simp)
 ·
  have H1 : (some ((⟨#[]⟩ : ByteArray), some q348)) = some (r1, r2) := by rw [if_neg (show ¬ (some q348).isNone = true by simp)] at H; exact H
  clear H
  have H := H1
  clear H1
  try simp only [errW_none, errW_some]
  simp only [Option.some.injEq, Prod.mk.injEq] at H
  obtain ⟨rfl, rfl⟩ := H
  go_enter Try.func23, Try.ntmps23
  go_wp2_with (first | ((with_reducible refine gate_callee (f := 43) rfl ?_); refine goesL_ (some 8) rfl rfl Try.func43 (by kernel_rfl) rfl #[.string a0] rfl (by (try simp only [List.map_toArray, List.map_cons, List.map_nil]); first | done | rfl | (simp only [List.length_drop, List.length_take]; rfl)) ?_; (with_reducible refine (pack_Text.calls k a0 t346 (some q348) _ A2.out).mono ?_); rintro e w9 ⟨rfl, hb⟩; refine ⟨_, rfl, ?_⟩; have n0_ := Aside0.mk (Yv HB hb); clear HB; have HB := n0_; clear n0_; (try clear hb); (try clear hb2); (try clear hk); (try clear hi); (try simp only [errW_none, errW_some])))
  go_ret2
  exact ⟨by first | rfl | (simp [errW_none, errW_some] <;> rfl) | (simp [*, errW_none, errW_some] <;> rfl), Yr HB⟩

end Go.Proofs.Ytbdkfmhkgeoeaaa.Print
