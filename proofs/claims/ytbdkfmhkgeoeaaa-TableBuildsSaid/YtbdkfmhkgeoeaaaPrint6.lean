-- Printed out of the translation by a program of this session's own. Not trusted: Lean checks it.
import Derived.Test.YtbdkfmhkgeoeaaaPrint0
import Derived.Test.YtbdkfmhkgeoeaaaPrint5
namespace Go.Proofs.Ytbdkfmhkgeoeaaa.Print
open Go.RowKit Go.Proofs.YtbdkfmhkgeoeaaaW.PrintWords Go.Proofs.YtbdkfmhkgeoeaaaW.PrintLast Go.Proofs.YtbdkfmhkgeoeaaaW.PrintMore Go.Proofs.YtbdkfmhkgeoeaaaX
attribute [local go_sem] max2_int min2_int max_two min_two max_three min_three max_four min_four   -- for this text's walks alone
set_option linter.unusedVariables false
set_option linter.unusedSimpArgs false

/-! ### pack_Num: function 50 -/
def pack_Num.j0 : Nat → Int → Bool → Option (ByteArray × Option Int)
 | 0, _, _ => none
 | k + 1, x0, x11 => if x11 = true then (some ((⟨#[]⟩ : ByteArray), some 1)) else ((pack_size.f k x0).bind fun t110 => (if 1 ≤ 281474976710656 then ((some (List.replicate 1 0 : List Int)).bind fun y111 => (if 0 < (y111.length : Int) then ((some (y111.set (0 : Int).toNat ((t110) % 256) : List Int)).bind fun y114 => (if t110 = 7 then (if y114.length < 140737488355328 then ((some (y114 ++ [(x0 / 281474976710656) % 256] : List Int)).bind fun y115 => (if y115.length < 140737488355328 then ((some (y115 ++ [(x0 / 1099511627776) % 256] : List Int)).bind fun y118 => (if y118.length < 140737488355328 then ((some (y118 ++ [(x0 / 4294967296) % 256] : List Int)).bind fun y121 => (if y121.length < 140737488355328 then ((some (y121 ++ [(x0 / 16777216) % 256] : List Int)).bind fun y124 => (if y124.length < 140737488355328 then ((some (y124 ++ [(x0 / 65536) % 256] : List Int)).bind fun y127 => (if y127.length < 140737488355328 then ((some (y127 ++ [(x0 / 256) % 256] : List Int)).bind fun y130 => (if y130.length < 140737488355328 then (some (strOfNums (y130 ++ [(x0) % 256]), none)) else (none))) else (none))) else (none))) else (none))) else (none))) else (none))) else (none)) else (if t110 = 6 then (if y114.length < 140737488355328 then ((some (y114 ++ [(x0 / 1099511627776) % 256] : List Int)).bind fun y136 => (if y136.length < 140737488355328 then ((some (y136 ++ [(x0 / 4294967296) % 256] : List Int)).bind fun y139 => (if y139.length < 140737488355328 then ((some (y139 ++ [(x0 / 16777216) % 256] : List Int)).bind fun y142 => (if y142.length < 140737488355328 then ((some (y142 ++ [(x0 / 65536) % 256] : List Int)).bind fun y145 => (if y145.length < 140737488355328 then ((some (y145 ++ [(x0 / 256) % 256] : List Int)).bind fun y148 => (if y148.length < 140737488355328 then (some (strOfNums (y148 ++ [(x0) % 256]), none)) else (none))) else (none))) else (none))) else (none))) else (none))) else (none)) else (if t110 = 5 then (if y114.length < 140737488355328 then ((some (y114 ++ [(x0 / 4294967296) % 256] : List Int)).bind fun y154 => (if y154.length < 140737488355328 then ((some (y154 ++ [(x0 / 16777216) % 256] : List Int)).bind fun y157 => (if y157.length < 140737488355328 then ((some (y157 ++ [(x0 / 65536) % 256] : List Int)).bind fun y160 => (if y160.length < 140737488355328 then ((some (y160 ++ [(x0 / 256) % 256] : List Int)).bind fun y163 => (if y163.length < 140737488355328 then (some (strOfNums (y163 ++ [(x0) % 256]), none)) else (none))) else (none))) else (none))) else (none))) else (none)) else (if t110 = 4 then (if y114.length < 140737488355328 then ((some (y114 ++ [(x0 / 16777216) % 256] : List Int)).bind fun y169 => (if y169.length < 140737488355328 then ((some (y169 ++ [(x0 / 65536) % 256] : List Int)).bind fun y172 => (if y172.length < 140737488355328 then ((some (y172 ++ [(x0 / 256) % 256] : List Int)).bind fun y175 => (if y175.length < 140737488355328 then (some (strOfNums (y175 ++ [(x0) % 256]), none)) else (none))) else (none))) else (none))) else (none)) else (if t110 = 3 then (if y114.length < 140737488355328 then ((some (y114 ++ [(x0 / 65536) % 256] : List Int)).bind fun y181 => (if y181.length < 140737488355328 then ((some (y181 ++ [(x0 / 256) % 256] : List Int)).bind fun y184 => (if y184.length < 140737488355328 then (some (strOfNums (y184 ++ [(x0) % 256]), none)) else (none))) else (none))) else (none)) else (if t110 = 2 then (if y114.length < 140737488355328 then ((some (y114 ++ [(x0 / 256) % 256] : List Int)).bind fun y190 => (if y190.length < 140737488355328 then (some (strOfNums (y190 ++ [(x0) % 256]), none)) else (none))) else (none)) else (if t110 = 1 then (if y114.length < 140737488355328 then (some (strOfNums (y114 ++ [(x0) % 256]), none)) else (none)) else (some (strOfNums y114, none)))))))))) else (none))) else (none)))
def pack_Num.f (k : Nat) (a0 : Int) : Option (ByteArray × Option Int) := if a0 < 0 then (pack_Num.j0 k a0 true) else (pack_Num.j0 k a0 (decide (a0 > 9007199254740991)))
set_option maxHeartbeats 8000000 in
set_option maxRecDepth 100000 in
theorem pack_Num.calls (k : Nat) (a0 : Int) (r1 : ByteArray) (r2 : Option Int) (w : World) (h : pack_Num.f k a0 = some (r1, r2)) :
  Calls Try.prog 50 #[.int .i64 a0] w fun e w' => e = .returned (.tuple #[.string r1, errW r2]) ∧ Below w.heap.size w w' := by
 have hu25 := Try.underlying25
 have hu48 := Try.underlying48
 have HB := Aside0.mk (Below.refl w.heap.size w)
 have H : (if a0 < 0 then (pack_Num.j0 k a0 true) else (pack_Num.j0 k a0 (decide (a0 > 9007199254740991)))) = some (r1, r2) := h
 clear h
 have HC2 := Aside0.mk H
 clear H
 go_enter Try.func50, Try.ntmps50
 go_upto_region 1 with (fail)
 go_cut [11] (fun v11 wc => ∃ (kq : Nat) (x11_1 : Bool), v11 = .bool x11_1 ∧ Aside0 (pack_Num.j0 kq a0 x11_1 = some (r1, r2)) ∧ Aside0 (kq ≤ k) ∧ Aside0 (Below w.heap.size w wc))
 case first =>
  have H := HC2.out
  clear HC2
  by_cases c3 : a0 < 0
  ·
   rw [if_pos c3] at H
   have c3b0 : decide (a0 < 0) = true := decide_eq_true c3
   clear c3
   (first | rw [c3b0] | (simp only [i64_w, i32_w]; rw [c3b0]) | skip)
   have H' := Aside0.mk H
   clear H
   go_wp2
   go_meet
   case rel => exact ⟨_, (true), (by first | rfl | (simp; done) | (simp [*]; done)), H', ⟨by first | omega | exact Nat.le_refl _⟩, ⟨Yr HB⟩⟩
  ·
   rw [if_neg c3] at H
   have c3b0 : decide (a0 < 0) = false := decide_eq_false c3
   clear c3
   (first | rw [c3b0] | (simp only [i64_w, i32_w]; rw [c3b0]) | skip)
   have H' := Aside0.mk H
   clear H
   go_wp2
   go_meet
   case rel => exact ⟨_, (decide (a0 > 9007199254740991)), (by first | rfl | (simp; done) | (simp [*]; done)), H', ⟨by first | omega | exact Nat.le_refl _⟩, ⟨Yr HB⟩⟩
 case rest =>
  clear HC2
  try clear p2
  try clear c3
  try clear c3b0
  obtain ⟨kq, x11_1, rfl, HA, HJ1, HB⟩ := hcut
  cases kq with
  | zero => exact absurd HA.out (by simp [pack_Num.j0])
  | succ kj1 =>
   have H := HA.out
   clear HA
   simp only [pack_Num.j0] at H
   by_cases c4 : x11_1 = true
   ·
    subst c4
    have H1 : (some ((⟨#[]⟩ : ByteArray), some 1)) = some (r1, r2) := by rw [if_pos rfl] at H; exact H
    clear H
    have H := H1
    clear H1
    simp only [Option.some.injEq, Prod.mk.injEq] at H
    obtain ⟨rfl, rfl⟩ := H
    go_wp2
    go_ret2
    exact ⟨by first | rfl | (simp [errW_none, errW_some] <;> rfl) | (simp [*, errW_none, errW_some] <;> rfl), Yr HB⟩
   ·
    replace c4 := Bool.eq_false_iff.mpr c4
    subst c4
    have H1 : ((pack_size.f kj1 a0).bind fun t110 => (if 1 ≤ 281474976710656 then ((some (List.replicate 1 0 : List Int)).bind fun y111 => (if 0 < (y111.length : Int) then ((some (y111.set (0 : Int).toNat ((t110) % 256) : List Int)).bind fun y114 => (if t110 = 7 then (if y114.length < 140737488355328 then ((some (y114 ++ [(a0 / 281474976710656) % 256] : List Int)).bind fun y115 => (if y115.length < 140737488355328 then ((some (y115 ++ [(a0 / 1099511627776) % 256] : List Int)).bind fun y118 => (if y118.length < 140737488355328 then ((some (y118 ++ [(a0 / 4294967296) % 256] : List Int)).bind fun y121 => (if y121.length < 140737488355328 then ((some (y121 ++ [(a0 / 16777216) % 256] : List Int)).bind fun y124 => (if y124.length < 140737488355328 then ((some (y124 ++ [(a0 / 65536) % 256] : List Int)).bind fun y127 => (if y127.length < 140737488355328 then ((some (y127 ++ [(a0 / 256) % 256] : List Int)).bind fun y130 => (if y130.length < 140737488355328 then (some (strOfNums (y130 ++ [(a0) % 256]), none)) else (none))) else (none))) else (none))) else (none))) else (none))) else (none))) else (none)) else (if t110 = 6 then (if y114.length < 140737488355328 then ((some (y114 ++ [(a0 / 1099511627776) % 256] : List Int)).bind fun y136 => (if y136.length < 140737488355328 then ((some (y136 ++ [(a0 / 4294967296) % 256] : List Int)).bind fun y139 => (if y139.length < 140737488355328 then ((some (y139 ++ [(a0 / 16777216) % 256] : List Int)).bind fun y142 => (if y142.length < 140737488355328 then ((some (y142 ++ [(a0 / 65536) % 256] : List Int)).bind fun y145 => (if y145.length < 140737488355328 then ((some (y145 ++ [(a0 / 256) % 256] : List Int)).bind fun y148 => (if y148.length < 140737488355328 then (some (strOfNums (y148 ++ [(a0) % 256]), none)) else (none))) else (none))) else (none))) else (none))) else (none))) else (none)) else (if t110 = 5 then (if y114.length < 140737488355328 then ((some (y114 ++ [(a0 / 4294967296) % 256] : List Int)).bind fun y154 => (if y154.length < 140737488355328 then ((some (y154 ++ [(a0 / 16777216) % 256] : List Int)).bind fun y157 => (if y157.length < 140737488355328 then ((some (y157 ++ [(a0 / 65536) % 256] : List Int)).bind fun y160 => (if y160.length < 140737488355328 then ((some (y160 ++ [(a0 / 256) % 256] : List Int)).bind fun y163 => (if y163.length < 140737488355328 then (some (strOfNums (y163 ++ [(a0) % 256]), none)) else (none))) else (none))) else (none))) else (none))) else (none)) else (if t110 = 4 then (if y114.length < 140737488355328 then ((some (y114 ++ [(a0 / 16777216) % 256] : List Int)).bind fun y169 => (if y169.length < 140737488355328 then ((some (y169 ++ [(a0 / 65536) % 256] : List Int)).bind fun y172 => (if y172.length < 140737488355328 then ((some (y172 ++ [(a0 / 256) % 256] : List Int)).bind fun y175 => (if y175.length < 140737488355328 then (some (strOfNums (y175 ++ [(a0) % 256]), none)) else (none))) else (none))) else (none))) else (none)) else (if t110 = 3 then (if y114.length < 140737488355328 then ((some (y114 ++ [(a0 / 65536) % 256] : List Int)).bind fun y181 => (if y181.length < 140737488355328 then ((some (y181 ++ [(a0 / 256) % 256] : List Int)).bind fun y184 => (if y184.length < 140737488355328 then (some (strOfNums (y184 ++ [(a0) % 256]), none)) else (none))) else (none))) else (none)) else (if t110 = 2 then (if y114.length < 140737488355328 then ((some (y114 ++ [(a0 / 256) % 256] : List Int)).bind fun y190 => (if y190.length < 140737488355328 then (some (strOfNums (y190 ++ [(a0) % 256]), none)) else (none))) else (none)) else (if t110 = 1 then (if y114.length < 140737488355328 then (some (strOfNums (y114 ++ [(a0) % 256]), none)) else (none)) else (some (strOfNums y114, none)))))))))) else (none))) else (none))) = some (r1, r2) := by rw [if_neg (show ¬ (false = true) by decide)] at H; exact H
    clear H
    have H := H1
    clear H1
    replace H := Option.bind_eq_some_iff.mp H
    obtain ⟨t110, A50, H⟩ := H
    replace H : (if 1 ≤ 281474976710656 then ((some (List.replicate 1 0 : List Int)).bind fun y111 => (if 0 < (y111.length : Int) then ((some (y111.set (0 : Int).toNat ((t110) % 256) : List Int)).bind fun y114 => (if t110 = 7 then (if y114.length < 140737488355328 then ((some (y114 ++ [(a0 / 281474976710656) % 256] : List Int)).bind fun y115 => (if y115.length < 140737488355328 then ((some (y115 ++ [(a0 / 1099511627776) % 256] : List Int)).bind fun y118 => (if y118.length < 140737488355328 then ((some (y118 ++ [(a0 / 4294967296) % 256] : List Int)).bind fun y121 => (if y121.length < 140737488355328 then ((some (y121 ++ [(a0 / 16777216) % 256] : List Int)).bind fun y124 => (if y124.length < 140737488355328 then ((some (y124 ++ [(a0 / 65536) % 256] : List Int)).bind fun y127 => (if y127.length < 140737488355328 then ((some (y127 ++ [(a0 / 256) % 256] : List Int)).bind fun y130 => (if y130.length < 140737488355328 then (some (strOfNums (y130 ++ [(a0) % 256]), none)) else (none))) else (none))) else (none))) else (none))) else (none))) else (none))) else (none)) else (if t110 = 6 then (if y114.length < 140737488355328 then ((some (y114 ++ [(a0 / 1099511627776) % 256] : List Int)).bind fun y136 => (if y136.length < 140737488355328 then ((some (y136 ++ [(a0 / 4294967296) % 256] : List Int)).bind fun y139 => (if y139.length < 140737488355328 then ((some (y139 ++ [(a0 / 16777216) % 256] : List Int)).bind fun y142 => (if y142.length < 140737488355328 then ((some (y142 ++ [(a0 / 65536) % 256] : List Int)).bind fun y145 => (if y145.length < 140737488355328 then ((some (y145 ++ [(a0 / 256) % 256] : List Int)).bind fun y148 => (if y148.length < 140737488355328 then (some (strOfNums (y148 ++ [(a0) % 256]), none)) else (none))) else (none))) else (none))) else (none))) else (none))) else (none)) else (if t110 = 5 then (if y114.length < 140737488355328 then ((some (y114 ++ [(a0 / 4294967296) % 256] : List Int)).bind fun y154 => (if y154.length < 140737488355328 then ((some (y154 ++ [(a0 / 16777216) % 256] : List Int)).bind fun y157 => (if y157.length < 140737488355328 then ((some (y157 ++ [(a0 / 65536) % 256] : List Int)).bind fun y160 => (if y160.length < 140737488355328 then ((some (y160 ++ [(a0 / 256) % 256] : List Int)).bind fun y163 => (if y163.length < 140737488355328 then (some (strOfNums (y163 ++ [(a0) % 256]), none)) else (none))) else (none))) else (none))) else (none))) else (none)) else (if t110 = 4 then (if y114.length < 140737488355328 then ((some (y114 ++ [(a0 / 16777216) % 256] : List Int)).bind fun y169 => (if y169.length < 140737488355328 then ((some (y169 ++ [(a0 / 65536) % 256] : List Int)).bind fun y172 => (if y172.length < 140737488355328 then ((some (y172 ++ [(a0 / 256) % 256] : List Int)).bind fun y175 => (if y175.length < 140737488355328 then (some (strOfNums (y175 ++ [(a0) % 256]), none)) else (none))) else (none))) else (none))) else (none)) else (if t110 = 3 then (if y114.length < 140737488355328 then ((some (y114 ++ [(a0 / 65536) % 256] : List Int)).bind fun y181 => (if y181.length < 140737488355328 then ((some (y181 ++ [(a0 / 256) % 256] : List Int)).bind fun y184 => (if y184.length < 140737488355328 then (some (strOfNums (y184 ++ [(a0) % 256]), none)) else (none))) else (none))) else (none)) else (if t110 = 2 then (if y114.length < 140737488355328 then ((some (y114 ++ [(a0 / 256) % 256] : List Int)).bind fun y190 => (if y190.length < 140737488355328 then (some (strOfNums (y190 ++ [(a0) % 256]), none)) else (none))) else (none)) else (if t110 = 1 then (if y114.length < 140737488355328 then (some (strOfNums (y114 ++ [(a0) % 256]), none)) else (none)) else (some (strOfNums y114, none)))))))))) else (none))) else (none)) = some (r1, r2) := H
    have A5 := Aside0.mk A50
    clear A50
    by_cases c6 : 1 ≤ 281474976710656
    ·
     rw [if_pos c6] at H
     have c6b0 := eq_true c6
     have c6b1 : decide (1 ≤ 281474976710656) = true := decide_eq_true c6
     clear c6
     obtain ⟨y111, hy111⟩ : ∃ y_ : List Int, y_ = (List.replicate 1 0) := ⟨_, rfl⟩
     replace H : (if 0 < (y111.length : Int) then ((some (y111.set (0 : Int).toNat ((t110) % 256) : List Int)).bind fun y114 => (if t110 = 7 then (if y114.length < 140737488355328 then ((some (y114 ++ [(a0 / 281474976710656) % 256] : List Int)).bind fun y115 => (if y115.length < 140737488355328 then ((some (y115 ++ [(a0 / 1099511627776) % 256] : List Int)).bind fun y118 => (if y118.length < 140737488355328 then ((some (y118 ++ [(a0 / 4294967296) % 256] : List Int)).bind fun y121 => (if y121.length < 140737488355328 then ((some (y121 ++ [(a0 / 16777216) % 256] : List Int)).bind fun y124 => (if y124.length < 140737488355328 then ((some (y124 ++ [(a0 / 65536) % 256] : List Int)).bind fun y127 => (if y127.length < 140737488355328 then ((some (y127 ++ [(a0 / 256) % 256] : List Int)).bind fun y130 => (if y130.length < 140737488355328 then (some (strOfNums (y130 ++ [(a0) % 256]), none)) else (none))) else (none))) else (none))) else (none))) else (none))) else (none))) else (none)) else (if t110 = 6 then (if y114.length < 140737488355328 then ((some (y114 ++ [(a0 / 1099511627776) % 256] : List Int)).bind fun y136 => (if y136.length < 140737488355328 then ((some (y136 ++ [(a0 / 4294967296) % 256] : List Int)).bind fun y139 => (if y139.length < 140737488355328 then ((some (y139 ++ [(a0 / 16777216) % 256] : List Int)).bind fun y142 => (if y142.length < 140737488355328 then ((some (y142 ++ [(a0 / 65536) % 256] : List Int)).bind fun y145 => (if y145.length < 140737488355328 then ((some (y145 ++ [(a0 / 256) % 256] : List Int)).bind fun y148 => (if y148.length < 140737488355328 then (some (strOfNums (y148 ++ [(a0) % 256]), none)) else (none))) else (none))) else (none))) else (none))) else (none))) else (none)) else (if t110 = 5 then (if y114.length < 140737488355328 then ((some (y114 ++ [(a0 / 4294967296) % 256] : List Int)).bind fun y154 => (if y154.length < 140737488355328 then ((some (y154 ++ [(a0 / 16777216) % 256] : List Int)).bind fun y157 => (if y157.length < 140737488355328 then ((some (y157 ++ [(a0 / 65536) % 256] : List Int)).bind fun y160 => (if y160.length < 140737488355328 then ((some (y160 ++ [(a0 / 256) % 256] : List Int)).bind fun y163 => (if y163.length < 140737488355328 then (some (strOfNums (y163 ++ [(a0) % 256]), none)) else (none))) else (none))) else (none))) else (none))) else (none)) else (if t110 = 4 then (if y114.length < 140737488355328 then ((some (y114 ++ [(a0 / 16777216) % 256] : List Int)).bind fun y169 => (if y169.length < 140737488355328 then ((some (y169 ++ [(a0 / 65536) % 256] : List Int)).bind fun y172 => (if y172.length < 140737488355328 then ((some (y172 ++ [(a0 / 256) % 256] : List Int)).bind fun y175 => (if y175.length < 140737488355328 then (some (strOfNums (y175 ++ [(a0) % 256]), none)) else (none))) else (none))) else (none))) else (none)) else (if t110 = 3 then (if y114.length < 140737488355328 then ((some (y114 ++ [(a0 / 65536) % 256] : List Int)).bind fun y181 => (if y181.length < 140737488355328 then ((some (y181 ++ [(a0 / 256) % 256] : List Int)).bind fun y184 => (if y184.length < 140737488355328 then (some (strOfNums (y184 ++ [(a0) % 256]), none)) else (none))) else (none))) else (none)) else (if t110 = 2 then (if y114.length < 140737488355328 then ((some (y114 ++ [(a0 / 256) % 256] : List Int)).bind fun y190 => (if y190.length < 140737488355328 then (some (strOfNums (y190 ++ [(a0) % 256]), none)) else (none))) else (none)) else (if t110 = 1 then (if y114.length < 140737488355328 then (some (strOfNums (y114 ++ [(a0) % 256]), none)) else (none)) else (some (strOfNums y114, none)))))))))) else (none)) = some (r1, r2) := by first | (rw [hy111]; with_reducible exact H) | (have H2_ := (Option.bind_some _ _).symm.trans H; rw [hy111]; with_reducible exact H2_) | (have H2_ := (Option.bind_some _ _).symm.trans H; with_reducible exact H2_) | with_reducible exact H | (rw [hy111]; exact H) | exact H
     have Ny111 := Aside0.mk hy111
     clear hy111
     by_cases c7 : 0 < (y111.length : Int)
     ·
      rw [if_pos c7] at H
      have c7b0 : decide (0 < (y111.length : Int)) = true := decide_eq_true c7
      have c7b1 : decide (0 < y111.length) = true := decide_eq_true (by omega)
      clear c7
      obtain ⟨y114, hy114⟩ : ∃ y_ : List Int, y_ = (y111.set (0 : Int).toNat ((t110) % 256)) := ⟨_, rfl⟩
      replace H : (if t110 = 7 then (if y114.length < 140737488355328 then ((some (y114 ++ [(a0 / 281474976710656) % 256] : List Int)).bind fun y115 => (if y115.length < 140737488355328 then ((some (y115 ++ [(a0 / 1099511627776) % 256] : List Int)).bind fun y118 => (if y118.length < 140737488355328 then ((some (y118 ++ [(a0 / 4294967296) % 256] : List Int)).bind fun y121 => (if y121.length < 140737488355328 then ((some (y121 ++ [(a0 / 16777216) % 256] : List Int)).bind fun y124 => (if y124.length < 140737488355328 then ((some (y124 ++ [(a0 / 65536) % 256] : List Int)).bind fun y127 => (if y127.length < 140737488355328 then ((some (y127 ++ [(a0 / 256) % 256] : List Int)).bind fun y130 => (if y130.length < 140737488355328 then (some (strOfNums (y130 ++ [(a0) % 256]), none)) else (none))) else (none))) else (none))) else (none))) else (none))) else (none))) else (none)) else (if t110 = 6 then (if y114.length < 140737488355328 then ((some (y114 ++ [(a0 / 1099511627776) % 256] : List Int)).bind fun y136 => (if y136.length < 140737488355328 then ((some (y136 ++ [(a0 / 4294967296) % 256] : List Int)).bind fun y139 => (if y139.length < 140737488355328 then ((some (y139 ++ [(a0 / 16777216) % 256] : List Int)).bind fun y142 => (if y142.length < 140737488355328 then ((some (y142 ++ [(a0 / 65536) % 256] : List Int)).bind fun y145 => (if y145.length < 140737488355328 then ((some (y145 ++ [(a0 / 256) % 256] : List Int)).bind fun y148 => (if y148.length < 140737488355328 then (some (strOfNums (y148 ++ [(a0) % 256]), none)) else (none))) else (none))) else (none))) else (none))) else (none))) else (none)) else (if t110 = 5 then (if y114.length < 140737488355328 then ((some (y114 ++ [(a0 / 4294967296) % 256] : List Int)).bind fun y154 => (if y154.length < 140737488355328 then ((some (y154 ++ [(a0 / 16777216) % 256] : List Int)).bind fun y157 => (if y157.length < 140737488355328 then ((some (y157 ++ [(a0 / 65536) % 256] : List Int)).bind fun y160 => (if y160.length < 140737488355328 then ((some (y160 ++ [(a0 / 256) % 256] : List Int)).bind fun y163 => (if y163.length < 140737488355328 then (some (strOfNums (y163 ++ [(a0) % 256]), none)) else (none))) else (none))) else (none))) else (none))) else (none)) else (if t110 = 4 then (if y114.length < 140737488355328 then ((some (y114 ++ [(a0 / 16777216) % 256] : List Int)).bind fun y169 => (if y169.length < 140737488355328 then ((some (y169 ++ [(a0 / 65536) % 256] : List Int)).bind fun y172 => (if y172.length < 140737488355328 then ((some (y172 ++ [(a0 / 256) % 256] : List Int)).bind fun y175 => (if y175.length < 140737488355328 then (some (strOfNums (y175 ++ [(a0) % 256]), none)) else (none))) else (none))) else (none))) else (none)) else (if t110 = 3 then (if y114.length < 140737488355328 then ((some (y114 ++ [(a0 / 65536) % 256] : List Int)).bind fun y181 => (if y181.length < 140737488355328 then ((some (y181 ++ [(a0 / 256) % 256] : List Int)).bind fun y184 => (if y184.length < 140737488355328 then (some (strOfNums (y184 ++ [(a0) % 256]), none)) else (none))) else (none))) else (none)) else (if t110 = 2 then (if y114.length < 140737488355328 then ((some (y114 ++ [(a0 / 256) % 256] : List Int)).bind fun y190 => (if y190.length < 140737488355328 then (some (strOfNums (y190 ++ [(a0) % 256]), none)) else (none))) else (none)) else (if t110 = 1 then (if y114.length < 140737488355328 then (some (strOfNums (y114 ++ [(a0) % 256]), none)) else (none)) else (some (strOfNums y114, none))))))))) = some (r1, r2) := by first | (rw [hy114]; with_reducible exact H) | (have H2_ := (Option.bind_some _ _).symm.trans H; rw [hy114]; with_reducible exact H2_) | (have H2_ := (Option.bind_some _ _).symm.trans H; with_reducible exact H2_) | with_reducible exact H | (rw [hy114]; exact H) | exact H
      have Ny114 := Aside0.mk hy114
      clear hy114
      by_cases c9 : t110 = 7
      ·
       rw [if_pos c9] at H
       have c9b0 : (t110 == 7) = true := beq_iff_eq.mpr c9
       have c9b1 : (t110 != 7) = false := bne_eq_false_iff_eq.mpr c9
       clear c9
       by_cases c10 : y114.length < 140737488355328
       ·
        rw [if_pos c10] at H
        have LMc10 := Aside0.mk c10
        clear c10
        obtain ⟨y115, hy115⟩ : ∃ y_ : List Int, y_ = (y114 ++ [(a0 / 281474976710656) % 256]) := ⟨_, rfl⟩
        replace H : (if y115.length < 140737488355328 then ((some (y115 ++ [(a0 / 1099511627776) % 256] : List Int)).bind fun y118 => (if y118.length < 140737488355328 then ((some (y118 ++ [(a0 / 4294967296) % 256] : List Int)).bind fun y121 => (if y121.length < 140737488355328 then ((some (y121 ++ [(a0 / 16777216) % 256] : List Int)).bind fun y124 => (if y124.length < 140737488355328 then ((some (y124 ++ [(a0 / 65536) % 256] : List Int)).bind fun y127 => (if y127.length < 140737488355328 then ((some (y127 ++ [(a0 / 256) % 256] : List Int)).bind fun y130 => (if y130.length < 140737488355328 then (some (strOfNums (y130 ++ [(a0) % 256]), none)) else (none))) else (none))) else (none))) else (none))) else (none))) else (none)) = some (r1, r2) := by first | (rw [hy115]; with_reducible exact H) | (have H2_ := (Option.bind_some _ _).symm.trans H; rw [hy115]; with_reducible exact H2_) | (have H2_ := (Option.bind_some _ _).symm.trans H; with_reducible exact H2_) | with_reducible exact H | (rw [hy115]; exact H) | exact H
        have Ny115 := Aside0.mk hy115
        clear hy115
        by_cases c11 : y115.length < 140737488355328
        ·
         rw [if_pos c11] at H
         have LMc11 := Aside0.mk c11
         clear c11
         obtain ⟨y118, hy118⟩ : ∃ y_ : List Int, y_ = (y115 ++ [(a0 / 1099511627776) % 256]) := ⟨_, rfl⟩
         replace H : (if y118.length < 140737488355328 then ((some (y118 ++ [(a0 / 4294967296) % 256] : List Int)).bind fun y121 => (if y121.length < 140737488355328 then ((some (y121 ++ [(a0 / 16777216) % 256] : List Int)).bind fun y124 => (if y124.length < 140737488355328 then ((some (y124 ++ [(a0 / 65536) % 256] : List Int)).bind fun y127 => (if y127.length < 140737488355328 then ((some (y127 ++ [(a0 / 256) % 256] : List Int)).bind fun y130 => (if y130.length < 140737488355328 then (some (strOfNums (y130 ++ [(a0) % 256]), none)) else (none))) else (none))) else (none))) else (none))) else (none)) = some (r1, r2) := by first | (rw [hy118]; with_reducible exact H) | (have H2_ := (Option.bind_some _ _).symm.trans H; rw [hy118]; with_reducible exact H2_) | (have H2_ := (Option.bind_some _ _).symm.trans H; with_reducible exact H2_) | with_reducible exact H | (rw [hy118]; exact H) | exact H
         have Ny118 := Aside0.mk hy118
         clear hy118
         by_cases c12 : y118.length < 140737488355328
         ·
          rw [if_pos c12] at H
          have LMc12 := Aside0.mk c12
          clear c12
          obtain ⟨y121, hy121⟩ : ∃ y_ : List Int, y_ = (y118 ++ [(a0 / 4294967296) % 256]) := ⟨_, rfl⟩
          replace H : (if y121.length < 140737488355328 then ((some (y121 ++ [(a0 / 16777216) % 256] : List Int)).bind fun y124 => (if y124.length < 140737488355328 then ((some (y124 ++ [(a0 / 65536) % 256] : List Int)).bind fun y127 => (if y127.length < 140737488355328 then ((some (y127 ++ [(a0 / 256) % 256] : List Int)).bind fun y130 => (if y130.length < 140737488355328 then (some (strOfNums (y130 ++ [(a0) % 256]), none)) else (none))) else (none))) else (none))) else (none)) = some (r1, r2) := by first | (rw [hy121]; with_reducible exact H) | (have H2_ := (Option.bind_some _ _).symm.trans H; rw [hy121]; with_reducible exact H2_) | (have H2_ := (Option.bind_some _ _).symm.trans H; with_reducible exact H2_) | with_reducible exact H | (rw [hy121]; exact H) | exact H
          have Ny121 := Aside0.mk hy121
          clear hy121
          by_cases c13 : y121.length < 140737488355328
          ·
           rw [if_pos c13] at H
           have LMc13 := Aside0.mk c13
           clear c13
           obtain ⟨y124, hy124⟩ : ∃ y_ : List Int, y_ = (y121 ++ [(a0 / 16777216) % 256]) := ⟨_, rfl⟩
           replace H : (if y124.length < 140737488355328 then ((some (y124 ++ [(a0 / 65536) % 256] : List Int)).bind fun y127 => (if y127.length < 140737488355328 then ((some (y127 ++ [(a0 / 256) % 256] : List Int)).bind fun y130 => (if y130.length < 140737488355328 then (some (strOfNums (y130 ++ [(a0) % 256]), none)) else (none))) else (none))) else (none)) = some (r1, r2) := by first | (rw [hy124]; with_reducible exact H) | (have H2_ := (Option.bind_some _ _).symm.trans H; rw [hy124]; with_reducible exact H2_) | (have H2_ := (Option.bind_some _ _).symm.trans H; with_reducible exact H2_) | with_reducible exact H | (rw [hy124]; exact H) | exact H
           have Ny124 := Aside0.mk hy124
           clear hy124
           by_cases c14 : y124.length < 140737488355328
           ·
            rw [if_pos c14] at H
            have LMc14 := Aside0.mk c14
            clear c14
            obtain ⟨y127, hy127⟩ : ∃ y_ : List Int, y_ = (y124 ++ [(a0 / 65536) % 256]) := ⟨_, rfl⟩
            replace H : (if y127.length < 140737488355328 then ((some (y127 ++ [(a0 / 256) % 256] : List Int)).bind fun y130 => (if y130.length < 140737488355328 then (some (strOfNums (y130 ++ [(a0) % 256]), none)) else (none))) else (none)) = some (r1, r2) := by first | (rw [hy127]; with_reducible exact H) | (have H2_ := (Option.bind_some _ _).symm.trans H; rw [hy127]; with_reducible exact H2_) | (have H2_ := (Option.bind_some _ _).symm.trans H; with_reducible exact H2_) | with_reducible exact H | (rw [hy127]; exact H) | exact H
            have Ny127 := Aside0.mk hy127
            clear hy127
            by_cases c15 : y127.length < 140737488355328
            ·
             rw [if_pos c15] at H
             have LMc15 := Aside0.mk c15
             clear c15
             obtain ⟨y130, hy130⟩ : ∃ y_ : List Int, y_ = (y127 ++ [(a0 / 256) % 256]) := ⟨_, rfl⟩
             replace H : (if y130.length < 140737488355328 then (some (strOfNums (y130 ++ [(a0) % 256]), none)) else (none)) = some (r1, r2) := by first | (rw [hy130]; with_reducible exact H) | (have H2_ := (Option.bind_some _ _).symm.trans H; rw [hy130]; with_reducible exact H2_) | (have H2_ := (Option.bind_some _ _).symm.trans H; with_reducible exact H2_) | with_reducible exact H | (rw [hy130]; exact H) | exact H
             have Ny130 := Aside0.mk hy130
             clear hy130
             by_cases c16 : y130.length < 140737488355328
             ·
              rw [if_pos c16] at H
              have LMc16 := Aside0.mk c16
              clear c16
              obtain ⟨y133, hy133⟩ : ∃ y_ : List Int, y_ = (y130 ++ [(a0) % 256]) := ⟨_, rfl⟩
              replace H : (some (strOfNums y133, none)) = some (r1, r2) := by first | (rw [hy133]; with_reducible exact H) | (have H2_ := (Option.bind_some _ _).symm.trans H; rw [hy133]; with_reducible exact H2_) | (have H2_ := (Option.bind_some _ _).symm.trans H; with_reducible exact H2_) | with_reducible exact H | (rw [hy133]; exact H) | exact H
              have Ny133 := Aside0.mk hy133
              clear hy133
              simp only [Option.some.injEq, Prod.mk.injEq] at H
              obtain ⟨rfl, rfl⟩ := H
              go_wp2_with (first | ((with_reducible refine gate_callee (f := 70) rfl ?_); refine goesL_ (some 14) rfl rfl Try.func70 (by kernel_rfl) rfl #[.int .i64 a0] rfl (by (try simp only [List.map_toArray, List.map_cons, List.map_nil]); first | done | rfl | (simp only [List.length_drop, List.length_take]; rfl)) ?_; (with_reducible refine (pack_size.calls kj1 a0 t110 _ A5.out).mono ?_); rintro e w' ⟨rfl, ⟨nd, rfl⟩⟩; refine ⟨_, rfl, ?_⟩; (try (rw [drewN_self wc]; generalize hq_ : World.drewN wc _ = wc; have n0_ : Aside0 (Below w.heap.size w wc) := ⟨by rw [← hq_]; exact (Yr HB)⟩; clear HB hq_; have HB := n0_; clear n0_))) | ((with_reducible refine gate_dst (N := 15) rfl ?_); refine Go.Proofs.YtbdkfmhkgeoeaaaX.R_make_cap (Kd.int .u8) _ 5 rfl (N := 15) rfl 40 _ _ rfl 1 8 rfl rfl Try.underlying40 (.int .u8 0) 1 info5 rfl (by decide) (by omega) 0 (ok := fun _ => True) (okp := fun _ => True) rfl (fun _ hk => hk) trivial (by omega) (by omega) (by omega) (Below.refl _ _) (Nat.le_refl _) ?_; intro v112 w17 ho18 hb hg_ hnew_; clear hg_ hnew_; (first | rw [← Ny111.out] at ho18 | (simp only [Int.reduceToNat] at ho18; rw [← Ny111.out] at ho18)); have n0_ := Aside0.mk (Kd.R_lower ho18 (below_size (Yr HB))); have n1_ := Aside0.mk (Yv HB hb); clear HB; have HO113 := n0_; have HB := n1_; clear n0_ n1_; clear hb ho18; have p8 : 0 ≤ (0 : Int) := (by omega); have q8 : (0 : Int) < ((y111.length : Int) : Int) := of_decide_eq_true (by first | (with_reducible assumption) | assumption); have qi8 : (0 < y111.length) = True := eq_true (by omega); obtain ⟨go8, co8, eo8, gb8, gl8, cl8, HG8⟩ := Kd.R_form HO113.out (by omega); (first | cases eo8 | (injection eo8 with ea_ en_ ec_; (first | subst ea_ | (injection ea_ with ea_; subst ea_)); subst ec_; clear en_)); have GB8 := Aside0.mk gb8; have GG8 := Aside0.mk HG8; clear gb8 gl8 HG8; obtain ⟨hx8_0, hf8_0⟩ := Kd.R_celln 0 HO113.out (0 : Int) p8 q8; (try rw [show ((0 : Int)).toNat = 0 from rfl] at hx8_0); (try simp only [Nat.reduceMul, Nat.zero_mul, Nat.zero_add, Nat.reduceAdd] at hx8_0); (try rw [show ((0 : Int)).toNat = 0 from rfl] at hf8_0); (try simp only [Nat.reduceMul, Nat.zero_mul, Nat.zero_add, Nat.reduceAdd] at hf8_0); replace p8 := eq_true p8; replace q8 := eq_true q8; obtain ⟨hy19_, hz19_⟩ := Kd.R_celln 0 HO113.out (0 : Int) (by omega) (of_decide_eq_true (by first | (with_reducible assumption) | assumption)); (try simp only [Int.reduceToNat, Int.toNat_zero, Int.toNat_ofNat, Nat.reduceMul, Nat.zero_mul, Nat.zero_add] at hy19_ hz19_); (try rw [show ((0 : Int)).toNat = 0 from rfl] at hy19_); (try rw [show ((0 : Int)).toNat = 0 from rfl] at hz19_); have HP19 := Kd.R_putg HO113.out (0 : Int) ((t110) % 256)) | ((with_reducible refine gate_store (t := 5) (p := 19) rfl ?_); refine store_event (t := 5) (p := 19) (v := ?vo_w20) (w1 := (w17.setCell ⟨go8, (0 : Int).toNat, none⟩ (.int .u8 ((t110) % 256)))) ?hg ?ho ?hn ?hr ?_; (case ho => rfl); (case hg => rfl); (case hn => rfl); (case hr => first | (go_simp; done) | (go_simp; rfl)); intro w20 hw; have hg : w17.grownBy w20 (some go8) := (by rw [hw]; exact HP19.2); have hp_ : Kd.R (Kd.int .u8) 5 w20 w.heap.size (fun _ => True) (.slice (some ⟨go8, 0, none⟩) y111.length co8) y114 := (by rw [hw, Ny114.out]; exact HP19.1); clear HP19; have n0_ := Aside0.mk (hp_); have n1_ := Aside0.mk ((by rw [hw]; exact Ys (HB.out) GB8.out : Below w.heap.size w w20)); clear HO113; clear HB; have HO113 := n0_; have HB := n1_; clear n0_ n1_; clear hg hw hp_) | ((with_reducible refine gate_builtin (b := .append) (xs := #[.tmp 35, .tmp 39]) rfl ?_); at_builtin; refine Kd.R_append (Kd.int .u8) (w0 := w) w.heap.size rfl (.tmp 35) (.tmp 39) 40 5 (.int .u8 0) 1 rfl Try.underlying40 info5 rfl (by decide) (by omega) (.slice (some ⟨go8, 0, none⟩) y111.length co8) y114 ((a0 / 281474976710656) % 256) [.int .u8 ((a0 / 281474976710656) % 256)] (fun _ => True) (fun _ => False) rfl rfl ?aP (fun _ hk => hk.elim) ?aF ?aO ?aB ?aS ?aL ?_; (case aP => exact rfl); (case aB => exact (Yr HB)); (case aF => exact (fun _ _ => trivial)); (case aO => exact (by (with_reducible repeat (first | apply Kd.R_alloc | apply Kd.R_drewN | apply Kd.R_drew)); exact HO113.out)); (case aS => exact (below_size (Yr HB))); (case aL => have := LMc10.out; omega); intro v116 w21 ho hb hg hat; rw [← Ny115.out] at ho; have n0_ := Aside0.mk (hb); have n1_ := Aside0.mk (ho); clear HB; clear HO113; have HB := n0_; have HO117 := n1_; clear n0_ n1_; clear ho hb hg hat) | ((with_reducible refine gate_builtin (b := .append) (xs := #[.tmp 41, .tmp 45]) rfl ?_); at_builtin; refine Kd.R_append (Kd.int .u8) (w0 := w) w.heap.size rfl (.tmp 41) (.tmp 45) 40 5 (.int .u8 0) 1 rfl Try.underlying40 info5 rfl (by decide) (by omega) v116 y115 ((a0 / 1099511627776) % 256) [.int .u8 ((a0 / 1099511627776) % 256)] (fun _ => True) (fun _ => False) rfl rfl ?aP (fun _ hk => hk.elim) ?aF ?aO ?aB ?aS ?aL ?_; (case aP => exact rfl); (case aB => exact (Yr HB)); (case aF => exact (fun _ _ => trivial)); (case aO => exact (by (with_reducible repeat (first | apply Kd.R_alloc | apply Kd.R_drewN | apply Kd.R_drew)); exact HO117.out)); (case aS => exact (below_size (Yr HB))); (case aL => have := LMc11.out; omega); intro v119 w22 ho hb hg hat; rw [← Ny118.out] at ho; have n0_ := Aside0.mk (hb); have n1_ := Aside0.mk (ho); clear HB; clear HO117; have HB := n0_; have HO120 := n1_; clear n0_ n1_; clear ho hb hg hat) | ((with_reducible refine gate_builtin (b := .append) (xs := #[.tmp 47, .tmp 51]) rfl ?_); at_builtin; refine Kd.R_append (Kd.int .u8) (w0 := w) w.heap.size rfl (.tmp 47) (.tmp 51) 40 5 (.int .u8 0) 1 rfl Try.underlying40 info5 rfl (by decide) (by omega) v119 y118 ((a0 / 4294967296) % 256) [.int .u8 ((a0 / 4294967296) % 256)] (fun _ => True) (fun _ => False) rfl rfl ?aP (fun _ hk => hk.elim) ?aF ?aO ?aB ?aS ?aL ?_; (case aP => exact rfl); (case aB => exact (Yr HB)); (case aF => exact (fun _ _ => trivial)); (case aO => exact (by (with_reducible repeat (first | apply Kd.R_alloc | apply Kd.R_drewN | apply Kd.R_drew)); exact HO120.out)); (case aS => exact (below_size (Yr HB))); (case aL => have := LMc12.out; omega); intro v122 w23 ho hb hg hat; rw [← Ny121.out] at ho; have n0_ := Aside0.mk (hb); have n1_ := Aside0.mk (ho); clear HB; clear HO120; have HB := n0_; have HO123 := n1_; clear n0_ n1_; clear ho hb hg hat) | ((with_reducible refine gate_builtin (b := .append) (xs := #[.tmp 53, .tmp 57]) rfl ?_); at_builtin; refine Kd.R_append (Kd.int .u8) (w0 := w) w.heap.size rfl (.tmp 53) (.tmp 57) 40 5 (.int .u8 0) 1 rfl Try.underlying40 info5 rfl (by decide) (by omega) v122 y121 ((a0 / 16777216) % 256) [.int .u8 ((a0 / 16777216) % 256)] (fun _ => True) (fun _ => False) rfl rfl ?aP (fun _ hk => hk.elim) ?aF ?aO ?aB ?aS ?aL ?_; (case aP => exact rfl); (case aB => exact (Yr HB)); (case aF => exact (fun _ _ => trivial)); (case aO => exact (by (with_reducible repeat (first | apply Kd.R_alloc | apply Kd.R_drewN | apply Kd.R_drew)); exact HO123.out)); (case aS => exact (below_size (Yr HB))); (case aL => have := LMc13.out; omega); intro v125 w24 ho hb hg hat; rw [← Ny124.out] at ho; have n0_ := Aside0.mk (hb); have n1_ := Aside0.mk (ho); clear HB; clear HO123; have HB := n0_; have HO126 := n1_; clear n0_ n1_; clear ho hb hg hat) | ((with_reducible refine gate_builtin (b := .append) (xs := #[.tmp 59, .tmp 63]) rfl ?_); at_builtin; refine Kd.R_append (Kd.int .u8) (w0 := w) w.heap.size rfl (.tmp 59) (.tmp 63) 40 5 (.int .u8 0) 1 rfl Try.underlying40 info5 rfl (by decide) (by omega) v125 y124 ((a0 / 65536) % 256) [.int .u8 ((a0 / 65536) % 256)] (fun _ => True) (fun _ => False) rfl rfl ?aP (fun _ hk => hk.elim) ?aF ?aO ?aB ?aS ?aL ?_; (case aP => exact rfl); (case aB => exact (Yr HB)); (case aF => exact (fun _ _ => trivial)); (case aO => exact (by (with_reducible repeat (first | apply Kd.R_alloc | apply Kd.R_drewN | apply Kd.R_drew)); exact HO126.out)); (case aS => exact (below_size (Yr HB))); (case aL => have := LMc14.out; omega); intro v128 w25 ho hb hg hat; rw [← Ny127.out] at ho; have n0_ := Aside0.mk (hb); have n1_ := Aside0.mk (ho); clear HB; clear HO126; have HB := n0_; have HO129 := n1_; clear n0_ n1_; clear ho hb hg hat) | ((with_reducible refine gate_builtin (b := .append) (xs := #[.tmp 65, .tmp 69]) rfl ?_); at_builtin; refine Kd.R_append (Kd.int .u8) (w0 := w) w.heap.size rfl (.tmp 65) (.tmp 69) 40 5 (.int .u8 0) 1 rfl Try.underlying40 info5 rfl (by decide) (by omega) v128 y127 ((a0 / 256) % 256) [.int .u8 ((a0 / 256) % 256)] (fun _ => True) (fun _ => False) rfl rfl ?aP (fun _ hk => hk.elim) ?aF ?aO ?aB ?aS ?aL ?_; (case aP => exact rfl); (case aB => exact (Yr HB)); (case aF => exact (fun _ _ => trivial)); (case aO => exact (by (with_reducible repeat (first | apply Kd.R_alloc | apply Kd.R_drewN | apply Kd.R_drew)); exact HO129.out)); (case aS => exact (below_size (Yr HB))); (case aL => have := LMc15.out; omega); intro v131 w26 ho hb hg hat; rw [← Ny130.out] at ho; have n0_ := Aside0.mk (hb); have n1_ := Aside0.mk (ho); clear HB; clear HO129; have HB := n0_; have HO132 := n1_; clear n0_ n1_; clear ho hb hg hat) | ((with_reducible refine gate_builtin (b := .append) (xs := #[.tmp 71, .tmp 74]) rfl ?_); at_builtin; refine Kd.R_append (Kd.int .u8) (w0 := w) w.heap.size rfl (.tmp 71) (.tmp 74) 40 5 (.int .u8 0) 1 rfl Try.underlying40 info5 rfl (by decide) (by omega) v131 y130 ((a0) % 256) [.int .u8 ((a0) % 256)] (fun _ => True) (fun _ => False) rfl rfl ?aP (fun _ hk => hk.elim) ?aF ?aO ?aB ?aS ?aL ?_; (case aP => exact rfl); (case aB => exact (Yr HB)); (case aF => exact (fun _ _ => trivial)); (case aO => exact (by (with_reducible repeat (first | apply Kd.R_alloc | apply Kd.R_drewN | apply Kd.R_drew)); exact HO132.out)); (case aS => exact (below_size (Yr HB))); (case aL => have := LMc16.out; omega); intro v134 w27 ho hb hg hat; rw [← Ny133.out] at ho; have n0_ := Aside0.mk (hb); have n1_ := Aside0.mk (ho); clear HB; clear HO132; have HB := n0_; have HO135 := n1_; clear n0_ n1_; clear ho hb hg hat; have hcv28 := own_string (P := Try.prog) Try.underlying40 Try.underlying5 Try.underlying9 (Kd.own_of_R HO135.out)))
              go_ret2
              exact ⟨by first | rfl | (simp [errW_none, errW_some] <;> rfl) | (simp [*, errW_none, errW_some] <;> rfl), Yr HB⟩
             ·
              rw [if_neg c16] at H
              exact absurd H (by simp)
            ·
             rw [if_neg c15] at H
             exact absurd H (by simp)
           ·
            rw [if_neg c14] at H
            exact absurd H (by simp)
          ·
           rw [if_neg c13] at H
           exact absurd H (by simp)
         ·
          rw [if_neg c12] at H
          exact absurd H (by simp)
        ·
         rw [if_neg c11] at H
         exact absurd H (by simp)
       ·
        rw [if_neg c10] at H
        exact absurd H (by simp)
      ·
       rw [if_neg c9] at H
       have c9b0 : (t110 == 7) = false := beq_eq_false_iff_ne.mpr c9
       have c9b1 : (t110 != 7) = true := bne_iff_ne.mpr c9
       by_cases c29 : t110 = 6
       ·
        rw [if_pos c29] at H
        have c29b0 : (t110 == 6) = true := beq_iff_eq.mpr c29
        have c29b1 : (t110 != 6) = false := bne_eq_false_iff_eq.mpr c29
        clear c29
        by_cases c30 : y114.length < 140737488355328
        ·
         rw [if_pos c30] at H
         have LMc30 := Aside0.mk c30
         clear c30
         obtain ⟨y136, hy136⟩ : ∃ y_ : List Int, y_ = (y114 ++ [(a0 / 1099511627776) % 256]) := ⟨_, rfl⟩
         replace H : (if y136.length < 140737488355328 then ((some (y136 ++ [(a0 / 4294967296) % 256] : List Int)).bind fun y139 => (if y139.length < 140737488355328 then ((some (y139 ++ [(a0 / 16777216) % 256] : List Int)).bind fun y142 => (if y142.length < 140737488355328 then ((some (y142 ++ [(a0 / 65536) % 256] : List Int)).bind fun y145 => (if y145.length < 140737488355328 then ((some (y145 ++ [(a0 / 256) % 256] : List Int)).bind fun y148 => (if y148.length < 140737488355328 then (some (strOfNums (y148 ++ [(a0) % 256]), none)) else (none))) else (none))) else (none))) else (none))) else (none)) = some (r1, r2) := by first | (rw [hy136]; with_reducible exact H) | (have H2_ := (Option.bind_some _ _).symm.trans H; rw [hy136]; with_reducible exact H2_) | (have H2_ := (Option.bind_some _ _).symm.trans H; with_reducible exact H2_) | with_reducible exact H | (rw [hy136]; exact H) | exact H
         have Ny136 := Aside0.mk hy136
         clear hy136
         by_cases c31 : y136.length < 140737488355328
         ·
          rw [if_pos c31] at H
          have LMc31 := Aside0.mk c31
          clear c31
          obtain ⟨y139, hy139⟩ : ∃ y_ : List Int, y_ = (y136 ++ [(a0 / 4294967296) % 256]) := ⟨_, rfl⟩
          replace H : (if y139.length < 140737488355328 then ((some (y139 ++ [(a0 / 16777216) % 256] : List Int)).bind fun y142 => (if y142.length < 140737488355328 then ((some (y142 ++ [(a0 / 65536) % 256] : List Int)).bind fun y145 => (if y145.length < 140737488355328 then ((some (y145 ++ [(a0 / 256) % 256] : List Int)).bind fun y148 => (if y148.length < 140737488355328 then (some (strOfNums (y148 ++ [(a0) % 256]), none)) else (none))) else (none))) else (none))) else (none)) = some (r1, r2) := by first | (rw [hy139]; with_reducible exact H) | (have H2_ := (Option.bind_some _ _).symm.trans H; rw [hy139]; with_reducible exact H2_) | (have H2_ := (Option.bind_some _ _).symm.trans H; with_reducible exact H2_) | with_reducible exact H | (rw [hy139]; exact H) | exact H
          have Ny139 := Aside0.mk hy139
          clear hy139
          by_cases c32 : y139.length < 140737488355328
          ·
           rw [if_pos c32] at H
           have LMc32 := Aside0.mk c32
           clear c32
           obtain ⟨y142, hy142⟩ : ∃ y_ : List Int, y_ = (y139 ++ [(a0 / 16777216) % 256]) := ⟨_, rfl⟩
           replace H : (if y142.length < 140737488355328 then ((some (y142 ++ [(a0 / 65536) % 256] : List Int)).bind fun y145 => (if y145.length < 140737488355328 then ((some (y145 ++ [(a0 / 256) % 256] : List Int)).bind fun y148 => (if y148.length < 140737488355328 then (some (strOfNums (y148 ++ [(a0) % 256]), none)) else (none))) else (none))) else (none)) = some (r1, r2) := by first | (rw [hy142]; with_reducible exact H) | (have H2_ := (Option.bind_some _ _).symm.trans H; rw [hy142]; with_reducible exact H2_) | (have H2_ := (Option.bind_some _ _).symm.trans H; with_reducible exact H2_) | with_reducible exact H | (rw [hy142]; exact H) | exact H
           have Ny142 := Aside0.mk hy142
           clear hy142
           by_cases c33 : y142.length < 140737488355328
           ·
            rw [if_pos c33] at H
            have LMc33 := Aside0.mk c33
            clear c33
            obtain ⟨y145, hy145⟩ : ∃ y_ : List Int, y_ = (y142 ++ [(a0 / 65536) % 256]) := ⟨_, rfl⟩
            replace H : (if y145.length < 140737488355328 then ((some (y145 ++ [(a0 / 256) % 256] : List Int)).bind fun y148 => (if y148.length < 140737488355328 then (some (strOfNums (y148 ++ [(a0) % 256]), none)) else (none))) else (none)) = some (r1, r2) := by first | (rw [hy145]; with_reducible exact H) | (have H2_ := (Option.bind_some _ _).symm.trans H; rw [hy145]; with_reducible exact H2_) | (have H2_ := (Option.bind_some _ _).symm.trans H; with_reducible exact H2_) | with_reducible exact H | (rw [hy145]; exact H) | exact H
            have Ny145 := Aside0.mk hy145
            clear hy145
            by_cases c34 : y145.length < 140737488355328
            ·
             rw [if_pos c34] at H
             have LMc34 := Aside0.mk c34
             clear c34
             obtain ⟨y148, hy148⟩ : ∃ y_ : List Int, y_ = (y145 ++ [(a0 / 256) % 256]) := ⟨_, rfl⟩
             replace H : (if y148.length < 140737488355328 then (some (strOfNums (y148 ++ [(a0) % 256]), none)) else (none)) = some (r1, r2) := by first | (rw [hy148]; with_reducible exact H) | (have H2_ := (Option.bind_some _ _).symm.trans H; rw [hy148]; with_reducible exact H2_) | (have H2_ := (Option.bind_some _ _).symm.trans H; with_reducible exact H2_) | with_reducible exact H | (rw [hy148]; exact H) | exact H
             have Ny148 := Aside0.mk hy148
             clear hy148
             by_cases c35 : y148.length < 140737488355328
             ·
              rw [if_pos c35] at H
              have LMc35 := Aside0.mk c35
              clear c35
              obtain ⟨y151, hy151⟩ : ∃ y_ : List Int, y_ = (y148 ++ [(a0) % 256]) := ⟨_, rfl⟩
              replace H : (some (strOfNums y151, none)) = some (r1, r2) := by first | (rw [hy151]; with_reducible exact H) | (have H2_ := (Option.bind_some _ _).symm.trans H; rw [hy151]; with_reducible exact H2_) | (have H2_ := (Option.bind_some _ _).symm.trans H; with_reducible exact H2_) | with_reducible exact H | (rw [hy151]; exact H) | exact H
              have Ny151 := Aside0.mk hy151
              clear hy151
              simp only [Option.some.injEq, Prod.mk.injEq] at H
              obtain ⟨rfl, rfl⟩ := H
              go_wp2_with (first | ((with_reducible refine gate_callee (f := 70) rfl ?_); refine goesL_ (some 14) rfl rfl Try.func70 (by kernel_rfl) rfl #[.int .i64 a0] rfl (by (try simp only [List.map_toArray, List.map_cons, List.map_nil]); first | done | rfl | (simp only [List.length_drop, List.length_take]; rfl)) ?_; (with_reducible refine (pack_size.calls kj1 a0 t110 _ A5.out).mono ?_); rintro e w' ⟨rfl, ⟨nd, rfl⟩⟩; refine ⟨_, rfl, ?_⟩; (try (rw [drewN_self wc]; generalize hq_ : World.drewN wc _ = wc; have n0_ : Aside0 (Below w.heap.size w wc) := ⟨by rw [← hq_]; exact (Yr HB)⟩; clear HB hq_; have HB := n0_; clear n0_))) | ((with_reducible refine gate_dst (N := 15) rfl ?_); refine Go.Proofs.YtbdkfmhkgeoeaaaX.R_make_cap (Kd.int .u8) _ 5 rfl (N := 15) rfl 40 _ _ rfl 1 8 rfl rfl Try.underlying40 (.int .u8 0) 1 info5 rfl (by decide) (by omega) 0 (ok := fun _ => True) (okp := fun _ => True) rfl (fun _ hk => hk) trivial (by omega) (by omega) (by omega) (Below.refl _ _) (Nat.le_refl _) ?_; intro v112 w36 ho37 hb hg_ hnew_; clear hg_ hnew_; (first | rw [← Ny111.out] at ho37 | (simp only [Int.reduceToNat] at ho37; rw [← Ny111.out] at ho37)); have n0_ := Aside0.mk (Kd.R_lower ho37 (below_size (Yr HB))); have n1_ := Aside0.mk (Yv HB hb); clear HB; have HO113 := n0_; have HB := n1_; clear n0_ n1_; clear hb ho37; have p8 : 0 ≤ (0 : Int) := (by omega); have q8 : (0 : Int) < ((y111.length : Int) : Int) := of_decide_eq_true (by first | (with_reducible assumption) | assumption); have qi8 : (0 < y111.length) = True := eq_true (by omega); obtain ⟨go8, co8, eo8, gb8, gl8, cl8, HG8⟩ := Kd.R_form HO113.out (by omega); (first | cases eo8 | (injection eo8 with ea_ en_ ec_; (first | subst ea_ | (injection ea_ with ea_; subst ea_)); subst ec_; clear en_)); have GB8 := Aside0.mk gb8; have GG8 := Aside0.mk HG8; clear gb8 gl8 HG8; obtain ⟨hx8_0, hf8_0⟩ := Kd.R_celln 0 HO113.out (0 : Int) p8 q8; (try rw [show ((0 : Int)).toNat = 0 from rfl] at hx8_0); (try simp only [Nat.reduceMul, Nat.zero_mul, Nat.zero_add, Nat.reduceAdd] at hx8_0); (try rw [show ((0 : Int)).toNat = 0 from rfl] at hf8_0); (try simp only [Nat.reduceMul, Nat.zero_mul, Nat.zero_add, Nat.reduceAdd] at hf8_0); replace p8 := eq_true p8; replace q8 := eq_true q8; obtain ⟨hy38_, hz38_⟩ := Kd.R_celln 0 HO113.out (0 : Int) (by omega) (of_decide_eq_true (by first | (with_reducible assumption) | assumption)); (try simp only [Int.reduceToNat, Int.toNat_zero, Int.toNat_ofNat, Nat.reduceMul, Nat.zero_mul, Nat.zero_add] at hy38_ hz38_); (try rw [show ((0 : Int)).toNat = 0 from rfl] at hy38_); (try rw [show ((0 : Int)).toNat = 0 from rfl] at hz38_); have HP38 := Kd.R_putg HO113.out (0 : Int) ((t110) % 256)) | ((with_reducible refine gate_store (t := 5) (p := 19) rfl ?_); refine store_event (t := 5) (p := 19) (v := ?vo_w39) (w1 := (w36.setCell ⟨go8, (0 : Int).toNat, none⟩ (.int .u8 ((t110) % 256)))) ?hg ?ho ?hn ?hr ?_; (case ho => rfl); (case hg => rfl); (case hn => rfl); (case hr => first | (go_simp; done) | (go_simp; rfl)); intro w39 hw; have hg : w36.grownBy w39 (some go8) := (by rw [hw]; exact HP38.2); have hp_ : Kd.R (Kd.int .u8) 5 w39 w.heap.size (fun _ => True) (.slice (some ⟨go8, 0, none⟩) y111.length co8) y114 := (by rw [hw, Ny114.out]; exact HP38.1); clear HP38; have n0_ := Aside0.mk (hp_); have n1_ := Aside0.mk ((by rw [hw]; exact Ys (HB.out) GB8.out : Below w.heap.size w w39)); clear HO113; clear HB; have HO113 := n0_; have HB := n1_; clear n0_ n1_; clear hg hw hp_) | ((with_reducible refine gate_builtin (b := .append) (xs := #[.tmp 41, .tmp 45]) rfl ?_); at_builtin; refine Kd.R_append (Kd.int .u8) (w0 := w) w.heap.size rfl (.tmp 41) (.tmp 45) 40 5 (.int .u8 0) 1 rfl Try.underlying40 info5 rfl (by decide) (by omega) (.slice (some ⟨go8, 0, none⟩) y111.length co8) y114 ((a0 / 1099511627776) % 256) [.int .u8 ((a0 / 1099511627776) % 256)] (fun _ => True) (fun _ => False) rfl rfl ?aP (fun _ hk => hk.elim) ?aF ?aO ?aB ?aS ?aL ?_; (case aP => exact rfl); (case aB => exact (Yr HB)); (case aF => exact (fun _ _ => trivial)); (case aO => exact (by (with_reducible repeat (first | apply Kd.R_alloc | apply Kd.R_drewN | apply Kd.R_drew)); exact HO113.out)); (case aS => exact (below_size (Yr HB))); (case aL => have := LMc30.out; omega); intro v137 w40 ho hb hg hat; rw [← Ny136.out] at ho; have n0_ := Aside0.mk (hb); have n1_ := Aside0.mk (ho); clear HB; clear HO113; have HB := n0_; have HO138 := n1_; clear n0_ n1_; clear ho hb hg hat) | ((with_reducible refine gate_builtin (b := .append) (xs := #[.tmp 47, .tmp 51]) rfl ?_); at_builtin; refine Kd.R_append (Kd.int .u8) (w0 := w) w.heap.size rfl (.tmp 47) (.tmp 51) 40 5 (.int .u8 0) 1 rfl Try.underlying40 info5 rfl (by decide) (by omega) v137 y136 ((a0 / 4294967296) % 256) [.int .u8 ((a0 / 4294967296) % 256)] (fun _ => True) (fun _ => False) rfl rfl ?aP (fun _ hk => hk.elim) ?aF ?aO ?aB ?aS ?aL ?_; (case aP => exact rfl); (case aB => exact (Yr HB)); (case aF => exact (fun _ _ => trivial)); (case aO => exact (by (with_reducible repeat (first | apply Kd.R_alloc | apply Kd.R_drewN | apply Kd.R_drew)); exact HO138.out)); (case aS => exact (below_size (Yr HB))); (case aL => have := LMc31.out; omega); intro v140 w41 ho hb hg hat; rw [← Ny139.out] at ho; have n0_ := Aside0.mk (hb); have n1_ := Aside0.mk (ho); clear HB; clear HO138; have HB := n0_; have HO141 := n1_; clear n0_ n1_; clear ho hb hg hat) | ((with_reducible refine gate_builtin (b := .append) (xs := #[.tmp 53, .tmp 57]) rfl ?_); at_builtin; refine Kd.R_append (Kd.int .u8) (w0 := w) w.heap.size rfl (.tmp 53) (.tmp 57) 40 5 (.int .u8 0) 1 rfl Try.underlying40 info5 rfl (by decide) (by omega) v140 y139 ((a0 / 16777216) % 256) [.int .u8 ((a0 / 16777216) % 256)] (fun _ => True) (fun _ => False) rfl rfl ?aP (fun _ hk => hk.elim) ?aF ?aO ?aB ?aS ?aL ?_; (case aP => exact rfl); (case aB => exact (Yr HB)); (case aF => exact (fun _ _ => trivial)); (case aO => exact (by (with_reducible repeat (first | apply Kd.R_alloc | apply Kd.R_drewN | apply Kd.R_drew)); exact HO141.out)); (case aS => exact (below_size (Yr HB))); (case aL => have := LMc32.out; omega); intro v143 w42 ho hb hg hat; rw [← Ny142.out] at ho; have n0_ := Aside0.mk (hb); have n1_ := Aside0.mk (ho); clear HB; clear HO141; have HB := n0_; have HO144 := n1_; clear n0_ n1_; clear ho hb hg hat) | ((with_reducible refine gate_builtin (b := .append) (xs := #[.tmp 59, .tmp 63]) rfl ?_); at_builtin; refine Kd.R_append (Kd.int .u8) (w0 := w) w.heap.size rfl (.tmp 59) (.tmp 63) 40 5 (.int .u8 0) 1 rfl Try.underlying40 info5 rfl (by decide) (by omega) v143 y142 ((a0 / 65536) % 256) [.int .u8 ((a0 / 65536) % 256)] (fun _ => True) (fun _ => False) rfl rfl ?aP (fun _ hk => hk.elim) ?aF ?aO ?aB ?aS ?aL ?_; (case aP => exact rfl); (case aB => exact (Yr HB)); (case aF => exact (fun _ _ => trivial)); (case aO => exact (by (with_reducible repeat (first | apply Kd.R_alloc | apply Kd.R_drewN | apply Kd.R_drew)); exact HO144.out)); (case aS => exact (below_size (Yr HB))); (case aL => have := LMc33.out; omega); intro v146 w43 ho hb hg hat; rw [← Ny145.out] at ho; have n0_ := Aside0.mk (hb); have n1_ := Aside0.mk (ho); clear HB; clear HO144; have HB := n0_; have HO147 := n1_; clear n0_ n1_; clear ho hb hg hat) | ((with_reducible refine gate_builtin (b := .append) (xs := #[.tmp 65, .tmp 69]) rfl ?_); at_builtin; refine Kd.R_append (Kd.int .u8) (w0 := w) w.heap.size rfl (.tmp 65) (.tmp 69) 40 5 (.int .u8 0) 1 rfl Try.underlying40 info5 rfl (by decide) (by omega) v146 y145 ((a0 / 256) % 256) [.int .u8 ((a0 / 256) % 256)] (fun _ => True) (fun _ => False) rfl rfl ?aP (fun _ hk => hk.elim) ?aF ?aO ?aB ?aS ?aL ?_; (case aP => exact rfl); (case aB => exact (Yr HB)); (case aF => exact (fun _ _ => trivial)); (case aO => exact (by (with_reducible repeat (first | apply Kd.R_alloc | apply Kd.R_drewN | apply Kd.R_drew)); exact HO147.out)); (case aS => exact (below_size (Yr HB))); (case aL => have := LMc34.out; omega); intro v149 w44 ho hb hg hat; rw [← Ny148.out] at ho; have n0_ := Aside0.mk (hb); have n1_ := Aside0.mk (ho); clear HB; clear HO147; have HB := n0_; have HO150 := n1_; clear n0_ n1_; clear ho hb hg hat) | ((with_reducible refine gate_builtin (b := .append) (xs := #[.tmp 71, .tmp 74]) rfl ?_); at_builtin; refine Kd.R_append (Kd.int .u8) (w0 := w) w.heap.size rfl (.tmp 71) (.tmp 74) 40 5 (.int .u8 0) 1 rfl Try.underlying40 info5 rfl (by decide) (by omega) v149 y148 ((a0) % 256) [.int .u8 ((a0) % 256)] (fun _ => True) (fun _ => False) rfl rfl ?aP (fun _ hk => hk.elim) ?aF ?aO ?aB ?aS ?aL ?_; (case aP => exact rfl); (case aB => exact (Yr HB)); (case aF => exact (fun _ _ => trivial)); (case aO => exact (by (with_reducible repeat (first | apply Kd.R_alloc | apply Kd.R_drewN | apply Kd.R_drew)); exact HO150.out)); (case aS => exact (below_size (Yr HB))); (case aL => have := LMc35.out; omega); intro v152 w45 ho hb hg hat; rw [← Ny151.out] at ho; have n0_ := Aside0.mk (hb); have n1_ := Aside0.mk (ho); clear HB; clear HO150; have HB := n0_; have HO153 := n1_; clear n0_ n1_; clear ho hb hg hat; have hcv46 := own_string (P := Try.prog) Try.underlying40 Try.underlying5 Try.underlying9 (Kd.own_of_R HO153.out)))
              go_ret2
              exact ⟨by first | rfl | (simp [errW_none, errW_some] <;> rfl) | (simp [*, errW_none, errW_some] <;> rfl), Yr HB⟩
             ·
              rw [if_neg c35] at H
              exact absurd H (by simp)
            ·
             rw [if_neg c34] at H
             exact absurd H (by simp)
           ·
            rw [if_neg c33] at H
            exact absurd H (by simp)
          ·
           rw [if_neg c32] at H
           exact absurd H (by simp)
         ·
          rw [if_neg c31] at H
          exact absurd H (by simp)
        ·
         rw [if_neg c30] at H
         exact absurd H (by simp)
       ·
        rw [if_neg c29] at H
        have c29b0 : (t110 == 6) = false := beq_eq_false_iff_ne.mpr c29
        have c29b1 : (t110 != 6) = true := bne_iff_ne.mpr c29
        by_cases c47 : t110 = 5
        ·
         rw [if_pos c47] at H
         have c47b0 : (t110 == 5) = true := beq_iff_eq.mpr c47
         have c47b1 : (t110 != 5) = false := bne_eq_false_iff_eq.mpr c47
         clear c47
         by_cases c48 : y114.length < 140737488355328
         ·
          rw [if_pos c48] at H
          have LMc48 := Aside0.mk c48
          clear c48
          obtain ⟨y154, hy154⟩ : ∃ y_ : List Int, y_ = (y114 ++ [(a0 / 4294967296) % 256]) := ⟨_, rfl⟩
          replace H : (if y154.length < 140737488355328 then ((some (y154 ++ [(a0 / 16777216) % 256] : List Int)).bind fun y157 => (if y157.length < 140737488355328 then ((some (y157 ++ [(a0 / 65536) % 256] : List Int)).bind fun y160 => (if y160.length < 140737488355328 then ((some (y160 ++ [(a0 / 256) % 256] : List Int)).bind fun y163 => (if y163.length < 140737488355328 then (some (strOfNums (y163 ++ [(a0) % 256]), none)) else (none))) else (none))) else (none))) else (none)) = some (r1, r2) := by first | (rw [hy154]; with_reducible exact H) | (have H2_ := (Option.bind_some _ _).symm.trans H; rw [hy154]; with_reducible exact H2_) | (have H2_ := (Option.bind_some _ _).symm.trans H; with_reducible exact H2_) | with_reducible exact H | (rw [hy154]; exact H) | exact H
          have Ny154 := Aside0.mk hy154
          clear hy154
          by_cases c49 : y154.length < 140737488355328
          ·
           rw [if_pos c49] at H
           have LMc49 := Aside0.mk c49
           clear c49
           obtain ⟨y157, hy157⟩ : ∃ y_ : List Int, y_ = (y154 ++ [(a0 / 16777216) % 256]) := ⟨_, rfl⟩
           replace H : (if y157.length < 140737488355328 then ((some (y157 ++ [(a0 / 65536) % 256] : List Int)).bind fun y160 => (if y160.length < 140737488355328 then ((some (y160 ++ [(a0 / 256) % 256] : List Int)).bind fun y163 => (if y163.length < 140737488355328 then (some (strOfNums (y163 ++ [(a0) % 256]), none)) else (none))) else (none))) else (none)) = some (r1, r2) := by first | (rw [hy157]; with_reducible exact H) | (have H2_ := (Option.bind_some _ _).symm.trans H; rw [hy157]; with_reducible exact H2_) | (have H2_ := (Option.bind_some _ _).symm.trans H; with_reducible exact H2_) | with_reducible exact H | (rw [hy157]; exact H) | exact H
           have Ny157 := Aside0.mk hy157
           clear hy157
           by_cases c50 : y157.length < 140737488355328
           ·
            rw [if_pos c50] at H
            have LMc50 := Aside0.mk c50
            clear c50
            obtain ⟨y160, hy160⟩ : ∃ y_ : List Int, y_ = (y157 ++ [(a0 / 65536) % 256]) := ⟨_, rfl⟩
            replace H : (if y160.length < 140737488355328 then ((some (y160 ++ [(a0 / 256) % 256] : List Int)).bind fun y163 => (if y163.length < 140737488355328 then (some (strOfNums (y163 ++ [(a0) % 256]), none)) else (none))) else (none)) = some (r1, r2) := by first | (rw [hy160]; with_reducible exact H) | (have H2_ := (Option.bind_some _ _).symm.trans H; rw [hy160]; with_reducible exact H2_) | (have H2_ := (Option.bind_some _ _).symm.trans H; with_reducible exact H2_) | with_reducible exact H | (rw [hy160]; exact H) | exact H
            have Ny160 := Aside0.mk hy160
            clear hy160
            by_cases c51 : y160.length < 140737488355328
            ·
             rw [if_pos c51] at H
             have LMc51 := Aside0.mk c51
             clear c51
             obtain ⟨y163, hy163⟩ : ∃ y_ : List Int, y_ = (y160 ++ [(a0 / 256) % 256]) := ⟨_, rfl⟩
             replace H : (if y163.length < 140737488355328 then (some (strOfNums (y163 ++ [(a0) % 256]), none)) else (none)) = some (r1, r2) := by first | (rw [hy163]; with_reducible exact H) | (have H2_ := (Option.bind_some _ _).symm.trans H; rw [hy163]; with_reducible exact H2_) | (have H2_ := (Option.bind_some _ _).symm.trans H; with_reducible exact H2_) | with_reducible exact H | (rw [hy163]; exact H) | exact H
             have Ny163 := Aside0.mk hy163
             clear hy163
             by_cases c52 : y163.length < 140737488355328
             ·
              rw [if_pos c52] at H
              have LMc52 := Aside0.mk c52
              clear c52
              obtain ⟨y166, hy166⟩ : ∃ y_ : List Int, y_ = (y163 ++ [(a0) % 256]) := ⟨_, rfl⟩
              replace H : (some (strOfNums y166, none)) = some (r1, r2) := by first | (rw [hy166]; with_reducible exact H) | (have H2_ := (Option.bind_some _ _).symm.trans H; rw [hy166]; with_reducible exact H2_) | (have H2_ := (Option.bind_some _ _).symm.trans H; with_reducible exact H2_) | with_reducible exact H | (rw [hy166]; exact H) | exact H
              have Ny166 := Aside0.mk hy166
              clear hy166
              simp only [Option.some.injEq, Prod.mk.injEq] at H
              obtain ⟨rfl, rfl⟩ := H
              go_wp2_with (first | ((with_reducible refine gate_callee (f := 70) rfl ?_); refine goesL_ (some 14) rfl rfl Try.func70 (by kernel_rfl) rfl #[.int .i64 a0] rfl (by (try simp only [List.map_toArray, List.map_cons, List.map_nil]); first | done | rfl | (simp only [List.length_drop, List.length_take]; rfl)) ?_; (with_reducible refine (pack_size.calls kj1 a0 t110 _ A5.out).mono ?_); rintro e w' ⟨rfl, ⟨nd, rfl⟩⟩; refine ⟨_, rfl, ?_⟩; (try (rw [drewN_self wc]; generalize hq_ : World.drewN wc _ = wc; have n0_ : Aside0 (Below w.heap.size w wc) := ⟨by rw [← hq_]; exact (Yr HB)⟩; clear HB hq_; have HB := n0_; clear n0_))) | ((with_reducible refine gate_dst (N := 15) rfl ?_); refine Go.Proofs.YtbdkfmhkgeoeaaaX.R_make_cap (Kd.int .u8) _ 5 rfl (N := 15) rfl 40 _ _ rfl 1 8 rfl rfl Try.underlying40 (.int .u8 0) 1 info5 rfl (by decide) (by omega) 0 (ok := fun _ => True) (okp := fun _ => True) rfl (fun _ hk => hk) trivial (by omega) (by omega) (by omega) (Below.refl _ _) (Nat.le_refl _) ?_; intro v112 w53 ho54 hb hg_ hnew_; clear hg_ hnew_; (first | rw [← Ny111.out] at ho54 | (simp only [Int.reduceToNat] at ho54; rw [← Ny111.out] at ho54)); have n0_ := Aside0.mk (Kd.R_lower ho54 (below_size (Yr HB))); have n1_ := Aside0.mk (Yv HB hb); clear HB; have HO113 := n0_; have HB := n1_; clear n0_ n1_; clear hb ho54; have p8 : 0 ≤ (0 : Int) := (by omega); have q8 : (0 : Int) < ((y111.length : Int) : Int) := of_decide_eq_true (by first | (with_reducible assumption) | assumption); have qi8 : (0 < y111.length) = True := eq_true (by omega); obtain ⟨go8, co8, eo8, gb8, gl8, cl8, HG8⟩ := Kd.R_form HO113.out (by omega); (first | cases eo8 | (injection eo8 with ea_ en_ ec_; (first | subst ea_ | (injection ea_ with ea_; subst ea_)); subst ec_; clear en_)); have GB8 := Aside0.mk gb8; have GG8 := Aside0.mk HG8; clear gb8 gl8 HG8; obtain ⟨hx8_0, hf8_0⟩ := Kd.R_celln 0 HO113.out (0 : Int) p8 q8; (try rw [show ((0 : Int)).toNat = 0 from rfl] at hx8_0); (try simp only [Nat.reduceMul, Nat.zero_mul, Nat.zero_add, Nat.reduceAdd] at hx8_0); (try rw [show ((0 : Int)).toNat = 0 from rfl] at hf8_0); (try simp only [Nat.reduceMul, Nat.zero_mul, Nat.zero_add, Nat.reduceAdd] at hf8_0); replace p8 := eq_true p8; replace q8 := eq_true q8; obtain ⟨hy55_, hz55_⟩ := Kd.R_celln 0 HO113.out (0 : Int) (by omega) (of_decide_eq_true (by first | (with_reducible assumption) | assumption)); (try simp only [Int.reduceToNat, Int.toNat_zero, Int.toNat_ofNat, Nat.reduceMul, Nat.zero_mul, Nat.zero_add] at hy55_ hz55_); (try rw [show ((0 : Int)).toNat = 0 from rfl] at hy55_); (try rw [show ((0 : Int)).toNat = 0 from rfl] at hz55_); have HP55 := Kd.R_putg HO113.out (0 : Int) ((t110) % 256)) | ((with_reducible refine gate_store (t := 5) (p := 19) rfl ?_); refine store_event (t := 5) (p := 19) (v := ?vo_w56) (w1 := (w53.setCell ⟨go8, (0 : Int).toNat, none⟩ (.int .u8 ((t110) % 256)))) ?hg ?ho ?hn ?hr ?_; (case ho => rfl); (case hg => rfl); (case hn => rfl); (case hr => first | (go_simp; done) | (go_simp; rfl)); intro w56 hw; have hg : w53.grownBy w56 (some go8) := (by rw [hw]; exact HP55.2); have hp_ : Kd.R (Kd.int .u8) 5 w56 w.heap.size (fun _ => True) (.slice (some ⟨go8, 0, none⟩) y111.length co8) y114 := (by rw [hw, Ny114.out]; exact HP55.1); clear HP55; have n0_ := Aside0.mk (hp_); have n1_ := Aside0.mk ((by rw [hw]; exact Ys (HB.out) GB8.out : Below w.heap.size w w56)); clear HO113; clear HB; have HO113 := n0_; have HB := n1_; clear n0_ n1_; clear hg hw hp_) | ((with_reducible refine gate_builtin (b := .append) (xs := #[.tmp 47, .tmp 51]) rfl ?_); at_builtin; refine Kd.R_append (Kd.int .u8) (w0 := w) w.heap.size rfl (.tmp 47) (.tmp 51) 40 5 (.int .u8 0) 1 rfl Try.underlying40 info5 rfl (by decide) (by omega) (.slice (some ⟨go8, 0, none⟩) y111.length co8) y114 ((a0 / 4294967296) % 256) [.int .u8 ((a0 / 4294967296) % 256)] (fun _ => True) (fun _ => False) rfl rfl ?aP (fun _ hk => hk.elim) ?aF ?aO ?aB ?aS ?aL ?_; (case aP => exact rfl); (case aB => exact (Yr HB)); (case aF => exact (fun _ _ => trivial)); (case aO => exact (by (with_reducible repeat (first | apply Kd.R_alloc | apply Kd.R_drewN | apply Kd.R_drew)); exact HO113.out)); (case aS => exact (below_size (Yr HB))); (case aL => have := LMc48.out; omega); intro v155 w57 ho hb hg hat; rw [← Ny154.out] at ho; have n0_ := Aside0.mk (hb); have n1_ := Aside0.mk (ho); clear HB; clear HO113; have HB := n0_; have HO156 := n1_; clear n0_ n1_; clear ho hb hg hat) | ((with_reducible refine gate_builtin (b := .append) (xs := #[.tmp 53, .tmp 57]) rfl ?_); at_builtin; refine Kd.R_append (Kd.int .u8) (w0 := w) w.heap.size rfl (.tmp 53) (.tmp 57) 40 5 (.int .u8 0) 1 rfl Try.underlying40 info5 rfl (by decide) (by omega) v155 y154 ((a0 / 16777216) % 256) [.int .u8 ((a0 / 16777216) % 256)] (fun _ => True) (fun _ => False) rfl rfl ?aP (fun _ hk => hk.elim) ?aF ?aO ?aB ?aS ?aL ?_; (case aP => exact rfl); (case aB => exact (Yr HB)); (case aF => exact (fun _ _ => trivial)); (case aO => exact (by (with_reducible repeat (first | apply Kd.R_alloc | apply Kd.R_drewN | apply Kd.R_drew)); exact HO156.out)); (case aS => exact (below_size (Yr HB))); (case aL => have := LMc49.out; omega); intro v158 w58 ho hb hg hat; rw [← Ny157.out] at ho; have n0_ := Aside0.mk (hb); have n1_ := Aside0.mk (ho); clear HB; clear HO156; have HB := n0_; have HO159 := n1_; clear n0_ n1_; clear ho hb hg hat) | ((with_reducible refine gate_builtin (b := .append) (xs := #[.tmp 59, .tmp 63]) rfl ?_); at_builtin; refine Kd.R_append (Kd.int .u8) (w0 := w) w.heap.size rfl (.tmp 59) (.tmp 63) 40 5 (.int .u8 0) 1 rfl Try.underlying40 info5 rfl (by decide) (by omega) v158 y157 ((a0 / 65536) % 256) [.int .u8 ((a0 / 65536) % 256)] (fun _ => True) (fun _ => False) rfl rfl ?aP (fun _ hk => hk.elim) ?aF ?aO ?aB ?aS ?aL ?_; (case aP => exact rfl); (case aB => exact (Yr HB)); (case aF => exact (fun _ _ => trivial)); (case aO => exact (by (with_reducible repeat (first | apply Kd.R_alloc | apply Kd.R_drewN | apply Kd.R_drew)); exact HO159.out)); (case aS => exact (below_size (Yr HB))); (case aL => have := LMc50.out; omega); intro v161 w59 ho hb hg hat; rw [← Ny160.out] at ho; have n0_ := Aside0.mk (hb); have n1_ := Aside0.mk (ho); clear HB; clear HO159; have HB := n0_; have HO162 := n1_; clear n0_ n1_; clear ho hb hg hat) | ((with_reducible refine gate_builtin (b := .append) (xs := #[.tmp 65, .tmp 69]) rfl ?_); at_builtin; refine Kd.R_append (Kd.int .u8) (w0 := w) w.heap.size rfl (.tmp 65) (.tmp 69) 40 5 (.int .u8 0) 1 rfl Try.underlying40 info5 rfl (by decide) (by omega) v161 y160 ((a0 / 256) % 256) [.int .u8 ((a0 / 256) % 256)] (fun _ => True) (fun _ => False) rfl rfl ?aP (fun _ hk => hk.elim) ?aF ?aO ?aB ?aS ?aL ?_; (case aP => exact rfl); (case aB => exact (Yr HB)); (case aF => exact (fun _ _ => trivial)); (case aO => exact (by (with_reducible repeat (first | apply Kd.R_alloc | apply Kd.R_drewN | apply Kd.R_drew)); exact HO162.out)); (case aS => exact (below_size (Yr HB))); (case aL => have := LMc51.out; omega); intro v164 w60 ho hb hg hat; rw [← Ny163.out] at ho; have n0_ := Aside0.mk (hb); have n1_ := Aside0.mk (ho); clear HB; clear HO162; have HB := n0_; have HO165 := n1_; clear n0_ n1_; clear ho hb hg hat) | ((with_reducible refine gate_builtin (b := .append) (xs := #[.tmp 71, .tmp 74]) rfl ?_); at_builtin; refine Kd.R_append (Kd.int .u8) (w0 := w) w.heap.size rfl (.tmp 71) (.tmp 74) 40 5 (.int .u8 0) 1 rfl Try.underlying40 info5 rfl (by decide) (by omega) v164 y163 ((a0) % 256) [.int .u8 ((a0) % 256)] (fun _ => True) (fun _ => False) rfl rfl ?aP (fun _ hk => hk.elim) ?aF ?aO ?aB ?aS ?aL ?_; (case aP => exact rfl); (case aB => exact (Yr HB)); (case aF => exact (fun _ _ => trivial)); (case aO => exact (by (with_reducible repeat (first | apply Kd.R_alloc | apply Kd.R_drewN | apply Kd.R_drew)); exact HO165.out)); (case aS => exact (below_size (Yr HB))); (case aL => have := LMc52.out; omega); intro v167 w61 ho hb hg hat; rw [← Ny166.out] at ho; have n0_ := Aside0.mk (hb); have n1_ := Aside0.mk (ho); clear HB; clear HO165; have HB := n0_; have HO168 := n1_; clear n0_ n1_; clear ho hb hg hat; have hcv62 := own_string (P := Try.prog) Try.underlying40 Try.underlying5 Try.underlying9 (Kd.own_of_R HO168.out)))
              go_ret2
              exact ⟨by first | rfl | (simp [errW_none, errW_some] <;> rfl) | (simp [*, errW_none, errW_some] <;> rfl), Yr HB⟩
             ·
              rw [if_neg c52] at H
              exact absurd H (by simp)
            ·
             rw [if_neg c51] at H
             exact absurd H (by simp)
           ·
            rw [if_neg c50] at H
            exact absurd H (by simp)
          ·
           rw [if_neg c49] at H
           exact absurd H (by simp)
         ·
          rw [if_neg c48] at H
          exact absurd H (by simp)
        ·
         rw [if_neg c47] at H
         have c47b0 : (t110 == 5) = false := beq_eq_false_iff_ne.mpr c47
         have c47b1 : (t110 != 5) = true := bne_iff_ne.mpr c47
         by_cases c63 : t110 = 4
         ·
          rw [if_pos c63] at H
          have c63b0 : (t110 == 4) = true := beq_iff_eq.mpr c63
          have c63b1 : (t110 != 4) = false := bne_eq_false_iff_eq.mpr c63
          clear c63
          by_cases c64 : y114.length < 140737488355328
          ·
           rw [if_pos c64] at H
           have LMc64 := Aside0.mk c64
           clear c64
           obtain ⟨y169, hy169⟩ : ∃ y_ : List Int, y_ = (y114 ++ [(a0 / 16777216) % 256]) := ⟨_, rfl⟩
           replace H : (if y169.length < 140737488355328 then ((some (y169 ++ [(a0 / 65536) % 256] : List Int)).bind fun y172 => (if y172.length < 140737488355328 then ((some (y172 ++ [(a0 / 256) % 256] : List Int)).bind fun y175 => (if y175.length < 140737488355328 then (some (strOfNums (y175 ++ [(a0) % 256]), none)) else (none))) else (none))) else (none)) = some (r1, r2) := by first | (rw [hy169]; with_reducible exact H) | (have H2_ := (Option.bind_some _ _).symm.trans H; rw [hy169]; with_reducible exact H2_) | (have H2_ := (Option.bind_some _ _).symm.trans H; with_reducible exact H2_) | with_reducible exact H | (rw [hy169]; exact H) | exact H
           have Ny169 := Aside0.mk hy169
           clear hy169
           by_cases c65 : y169.length < 140737488355328
           ·
            rw [if_pos c65] at H
            have LMc65 := Aside0.mk c65
            clear c65
            obtain ⟨y172, hy172⟩ : ∃ y_ : List Int, y_ = (y169 ++ [(a0 / 65536) % 256]) := ⟨_, rfl⟩
            replace H : (if y172.length < 140737488355328 then ((some (y172 ++ [(a0 / 256) % 256] : List Int)).bind fun y175 => (if y175.length < 140737488355328 then (some (strOfNums (y175 ++ [(a0) % 256]), none)) else (none))) else (none)) = some (r1, r2) := by first | (rw [hy172]; with_reducible exact H) | (have H2_ := (Option.bind_some _ _).symm.trans H; rw [hy172]; with_reducible exact H2_) | (have H2_ := (Option.bind_some _ _).symm.trans H; with_reducible exact H2_) | with_reducible exact H | (rw [hy172]; exact H) | exact H
            have Ny172 := Aside0.mk hy172
            clear hy172
            by_cases c66 : y172.length < 140737488355328
            ·
             rw [if_pos c66] at H
             have LMc66 := Aside0.mk c66
             clear c66
             obtain ⟨y175, hy175⟩ : ∃ y_ : List Int, y_ = (y172 ++ [(a0 / 256) % 256]) := ⟨_, rfl⟩
             replace H : (if y175.length < 140737488355328 then (some (strOfNums (y175 ++ [(a0) % 256]), none)) else (none)) = some (r1, r2) := by first | (rw [hy175]; with_reducible exact H) | (have H2_ := (Option.bind_some _ _).symm.trans H; rw [hy175]; with_reducible exact H2_) | (have H2_ := (Option.bind_some _ _).symm.trans H; with_reducible exact H2_) | with_reducible exact H | (rw [hy175]; exact H) | exact H
             have Ny175 := Aside0.mk hy175
             clear hy175
             by_cases c67 : y175.length < 140737488355328
             ·
              rw [if_pos c67] at H
              have LMc67 := Aside0.mk c67
              clear c67
              obtain ⟨y178, hy178⟩ : ∃ y_ : List Int, y_ = (y175 ++ [(a0) % 256]) := ⟨_, rfl⟩
              replace H : (some (strOfNums y178, none)) = some (r1, r2) := by first | (rw [hy178]; with_reducible exact H) | (have H2_ := (Option.bind_some _ _).symm.trans H; rw [hy178]; with_reducible exact H2_) | (have H2_ := (Option.bind_some _ _).symm.trans H; with_reducible exact H2_) | with_reducible exact H | (rw [hy178]; exact H) | exact H
              have Ny178 := Aside0.mk hy178
              clear hy178
              simp only [Option.some.injEq, Prod.mk.injEq] at H
              obtain ⟨rfl, rfl⟩ := H
              go_wp2_with (first | ((with_reducible refine gate_callee (f := 70) rfl ?_); refine goesL_ (some 14) rfl rfl Try.func70 (by kernel_rfl) rfl #[.int .i64 a0] rfl (by (try simp only [List.map_toArray, List.map_cons, List.map_nil]); first | done | rfl | (simp only [List.length_drop, List.length_take]; rfl)) ?_; (with_reducible refine (pack_size.calls kj1 a0 t110 _ A5.out).mono ?_); rintro e w' ⟨rfl, ⟨nd, rfl⟩⟩; refine ⟨_, rfl, ?_⟩; (try (rw [drewN_self wc]; generalize hq_ : World.drewN wc _ = wc; have n0_ : Aside0 (Below w.heap.size w wc) := ⟨by rw [← hq_]; exact (Yr HB)⟩; clear HB hq_; have HB := n0_; clear n0_))) | ((with_reducible refine gate_dst (N := 15) rfl ?_); refine Go.Proofs.YtbdkfmhkgeoeaaaX.R_make_cap (Kd.int .u8) _ 5 rfl (N := 15) rfl 40 _ _ rfl 1 8 rfl rfl Try.underlying40 (.int .u8 0) 1 info5 rfl (by decide) (by omega) 0 (ok := fun _ => True) (okp := fun _ => True) rfl (fun _ hk => hk) trivial (by omega) (by omega) (by omega) (Below.refl _ _) (Nat.le_refl _) ?_; intro v112 w68 ho69 hb hg_ hnew_; clear hg_ hnew_; (first | rw [← Ny111.out] at ho69 | (simp only [Int.reduceToNat] at ho69; rw [← Ny111.out] at ho69)); have n0_ := Aside0.mk (Kd.R_lower ho69 (below_size (Yr HB))); have n1_ := Aside0.mk (Yv HB hb); clear HB; have HO113 := n0_; have HB := n1_; clear n0_ n1_; clear hb ho69; have p8 : 0 ≤ (0 : Int) := (by omega); have q8 : (0 : Int) < ((y111.length : Int) : Int) := of_decide_eq_true (by first | (with_reducible assumption) | assumption); have qi8 : (0 < y111.length) = True := eq_true (by omega); obtain ⟨go8, co8, eo8, gb8, gl8, cl8, HG8⟩ := Kd.R_form HO113.out (by omega); (first | cases eo8 | (injection eo8 with ea_ en_ ec_; (first | subst ea_ | (injection ea_ with ea_; subst ea_)); subst ec_; clear en_)); have GB8 := Aside0.mk gb8; have GG8 := Aside0.mk HG8; clear gb8 gl8 HG8; obtain ⟨hx8_0, hf8_0⟩ := Kd.R_celln 0 HO113.out (0 : Int) p8 q8; (try rw [show ((0 : Int)).toNat = 0 from rfl] at hx8_0); (try simp only [Nat.reduceMul, Nat.zero_mul, Nat.zero_add, Nat.reduceAdd] at hx8_0); (try rw [show ((0 : Int)).toNat = 0 from rfl] at hf8_0); (try simp only [Nat.reduceMul, Nat.zero_mul, Nat.zero_add, Nat.reduceAdd] at hf8_0); replace p8 := eq_true p8; replace q8 := eq_true q8; obtain ⟨hy70_, hz70_⟩ := Kd.R_celln 0 HO113.out (0 : Int) (by omega) (of_decide_eq_true (by first | (with_reducible assumption) | assumption)); (try simp only [Int.reduceToNat, Int.toNat_zero, Int.toNat_ofNat, Nat.reduceMul, Nat.zero_mul, Nat.zero_add] at hy70_ hz70_); (try rw [show ((0 : Int)).toNat = 0 from rfl] at hy70_); (try rw [show ((0 : Int)).toNat = 0 from rfl] at hz70_); have HP70 := Kd.R_putg HO113.out (0 : Int) ((t110) % 256)) | ((with_reducible refine gate_store (t := 5) (p := 19) rfl ?_); refine store_event (t := 5) (p := 19) (v := ?vo_w71) (w1 := (w68.setCell ⟨go8, (0 : Int).toNat, none⟩ (.int .u8 ((t110) % 256)))) ?hg ?ho ?hn ?hr ?_; (case ho => rfl); (case hg => rfl); (case hn => rfl); (case hr => first | (go_simp; done) | (go_simp; rfl)); intro w71 hw; have hg : w68.grownBy w71 (some go8) := (by rw [hw]; exact HP70.2); have hp_ : Kd.R (Kd.int .u8) 5 w71 w.heap.size (fun _ => True) (.slice (some ⟨go8, 0, none⟩) y111.length co8) y114 := (by rw [hw, Ny114.out]; exact HP70.1); clear HP70; have n0_ := Aside0.mk (hp_); have n1_ := Aside0.mk ((by rw [hw]; exact Ys (HB.out) GB8.out : Below w.heap.size w w71)); clear HO113; clear HB; have HO113 := n0_; have HB := n1_; clear n0_ n1_; clear hg hw hp_) | ((with_reducible refine gate_builtin (b := .append) (xs := #[.tmp 53, .tmp 57]) rfl ?_); at_builtin; refine Kd.R_append (Kd.int .u8) (w0 := w) w.heap.size rfl (.tmp 53) (.tmp 57) 40 5 (.int .u8 0) 1 rfl Try.underlying40 info5 rfl (by decide) (by omega) (.slice (some ⟨go8, 0, none⟩) y111.length co8) y114 ((a0 / 16777216) % 256) [.int .u8 ((a0 / 16777216) % 256)] (fun _ => True) (fun _ => False) rfl rfl ?aP (fun _ hk => hk.elim) ?aF ?aO ?aB ?aS ?aL ?_; (case aP => exact rfl); (case aB => exact (Yr HB)); (case aF => exact (fun _ _ => trivial)); (case aO => exact (by (with_reducible repeat (first | apply Kd.R_alloc | apply Kd.R_drewN | apply Kd.R_drew)); exact HO113.out)); (case aS => exact (below_size (Yr HB))); (case aL => have := LMc64.out; omega); intro v170 w72 ho hb hg hat; rw [← Ny169.out] at ho; have n0_ := Aside0.mk (hb); have n1_ := Aside0.mk (ho); clear HB; clear HO113; have HB := n0_; have HO171 := n1_; clear n0_ n1_; clear ho hb hg hat) | ((with_reducible refine gate_builtin (b := .append) (xs := #[.tmp 59, .tmp 63]) rfl ?_); at_builtin; refine Kd.R_append (Kd.int .u8) (w0 := w) w.heap.size rfl (.tmp 59) (.tmp 63) 40 5 (.int .u8 0) 1 rfl Try.underlying40 info5 rfl (by decide) (by omega) v170 y169 ((a0 / 65536) % 256) [.int .u8 ((a0 / 65536) % 256)] (fun _ => True) (fun _ => False) rfl rfl ?aP (fun _ hk => hk.elim) ?aF ?aO ?aB ?aS ?aL ?_; (case aP => exact rfl); (case aB => exact (Yr HB)); (case aF => exact (fun _ _ => trivial)); (case aO => exact (by (with_reducible repeat (first | apply Kd.R_alloc | apply Kd.R_drewN | apply Kd.R_drew)); exact HO171.out)); (case aS => exact (below_size (Yr HB))); (case aL => have := LMc65.out; omega); intro v173 w73 ho hb hg hat; rw [← Ny172.out] at ho; have n0_ := Aside0.mk (hb); have n1_ := Aside0.mk (ho); clear HB; clear HO171; have HB := n0_; have HO174 := n1_; clear n0_ n1_; clear ho hb hg hat) | ((with_reducible refine gate_builtin (b := .append) (xs := #[.tmp 65, .tmp 69]) rfl ?_); at_builtin; refine Kd.R_append (Kd.int .u8) (w0 := w) w.heap.size rfl (.tmp 65) (.tmp 69) 40 5 (.int .u8 0) 1 rfl Try.underlying40 info5 rfl (by decide) (by omega) v173 y172 ((a0 / 256) % 256) [.int .u8 ((a0 / 256) % 256)] (fun _ => True) (fun _ => False) rfl rfl ?aP (fun _ hk => hk.elim) ?aF ?aO ?aB ?aS ?aL ?_; (case aP => exact rfl); (case aB => exact (Yr HB)); (case aF => exact (fun _ _ => trivial)); (case aO => exact (by (with_reducible repeat (first | apply Kd.R_alloc | apply Kd.R_drewN | apply Kd.R_drew)); exact HO174.out)); (case aS => exact (below_size (Yr HB))); (case aL => have := LMc66.out; omega); intro v176 w74 ho hb hg hat; rw [← Ny175.out] at ho; have n0_ := Aside0.mk (hb); have n1_ := Aside0.mk (ho); clear HB; clear HO174; have HB := n0_; have HO177 := n1_; clear n0_ n1_; clear ho hb hg hat) | ((with_reducible refine gate_builtin (b := .append) (xs := #[.tmp 71, .tmp 74]) rfl ?_); at_builtin; refine Kd.R_append (Kd.int .u8) (w0 := w) w.heap.size rfl (.tmp 71) (.tmp 74) 40 5 (.int .u8 0) 1 rfl Try.underlying40 info5 rfl (by decide) (by omega) v176 y175 ((a0) % 256) [.int .u8 ((a0) % 256)] (fun _ => True) (fun _ => False) rfl rfl ?aP (fun _ hk => hk.elim) ?aF ?aO ?aB ?aS ?aL ?_; (case aP => exact rfl); (case aB => exact (Yr HB)); (case aF => exact (fun _ _ => trivial)); (case aO => exact (by (with_reducible repeat (first | apply Kd.R_alloc | apply Kd.R_drewN | apply Kd.R_drew)); exact HO177.out)); (case aS => exact (below_size (Yr HB))); (case aL => have := LMc67.out; omega); intro v179 w75 ho hb hg hat; rw [← Ny178.out] at ho; have n0_ := Aside0.mk (hb); have n1_ := Aside0.mk (ho); clear HB; clear HO177; have HB := n0_; have HO180 := n1_; clear n0_ n1_; clear ho hb hg hat; have hcv76 := own_string (P := Try.prog) Try.underlying40 Try.underlying5 Try.underlying9 (Kd.own_of_R HO180.out)))
              go_ret2
              exact ⟨by first | rfl | (simp [errW_none, errW_some] <;> rfl) | (simp [*, errW_none, errW_some] <;> rfl), Yr HB⟩
             ·
              rw [if_neg c67] at H
              exact absurd H (by simp)
            ·
             rw [if_neg c66] at H
             exact absurd H (by simp)
           ·
            rw [if_neg c65] at H
            exact absurd H (by simp)
          ·
           rw [if_neg c64] at H
           exact absurd H (by simp)
         ·
          rw [if_neg c63] at H
          have c63b0 : (t110 == 4) = false := beq_eq_false_iff_ne.mpr c63
          have c63b1 : (t110 != 4) = true := bne_iff_ne.mpr c63
          by_cases c77 : t110 = 3
          ·
           rw [if_pos c77] at H
           have c77b0 : (t110 == 3) = true := beq_iff_eq.mpr c77
           have c77b1 : (t110 != 3) = false := bne_eq_false_iff_eq.mpr c77
           clear c77
           by_cases c78 : y114.length < 140737488355328
           ·
            rw [if_pos c78] at H
            have LMc78 := Aside0.mk c78
            clear c78
            obtain ⟨y181, hy181⟩ : ∃ y_ : List Int, y_ = (y114 ++ [(a0 / 65536) % 256]) := ⟨_, rfl⟩
            replace H : (if y181.length < 140737488355328 then ((some (y181 ++ [(a0 / 256) % 256] : List Int)).bind fun y184 => (if y184.length < 140737488355328 then (some (strOfNums (y184 ++ [(a0) % 256]), none)) else (none))) else (none)) = some (r1, r2) := by first | (rw [hy181]; with_reducible exact H) | (have H2_ := (Option.bind_some _ _).symm.trans H; rw [hy181]; with_reducible exact H2_) | (have H2_ := (Option.bind_some _ _).symm.trans H; with_reducible exact H2_) | with_reducible exact H | (rw [hy181]; exact H) | exact H
            have Ny181 := Aside0.mk hy181
            clear hy181
            by_cases c79 : y181.length < 140737488355328
            ·
             rw [if_pos c79] at H
             have LMc79 := Aside0.mk c79
             clear c79
             obtain ⟨y184, hy184⟩ : ∃ y_ : List Int, y_ = (y181 ++ [(a0 / 256) % 256]) := ⟨_, rfl⟩
             replace H : (if y184.length < 140737488355328 then (some (strOfNums (y184 ++ [(a0) % 256]), none)) else (none)) = some (r1, r2) := by first | (rw [hy184]; with_reducible exact H) | (have H2_ := (Option.bind_some _ _).symm.trans H; rw [hy184]; with_reducible exact H2_) | (have H2_ := (Option.bind_some _ _).symm.trans H; with_reducible exact H2_) | with_reducible exact H | (rw [hy184]; exact H) | exact H
             have Ny184 := Aside0.mk hy184
             clear hy184
             by_cases c80 : y184.length < 140737488355328
             ·
              rw [if_pos c80] at H
              have LMc80 := Aside0.mk c80
              clear c80
              obtain ⟨y187, hy187⟩ : ∃ y_ : List Int, y_ = (y184 ++ [(a0) % 256]) := ⟨_, rfl⟩
              replace H : (some (strOfNums y187, none)) = some (r1, r2) := by first | (rw [hy187]; with_reducible exact H) | (have H2_ := (Option.bind_some _ _).symm.trans H; rw [hy187]; with_reducible exact H2_) | (have H2_ := (Option.bind_some _ _).symm.trans H; with_reducible exact H2_) | with_reducible exact H | (rw [hy187]; exact H) | exact H
              have Ny187 := Aside0.mk hy187
              clear hy187
              simp only [Option.some.injEq, Prod.mk.injEq] at H
              obtain ⟨rfl, rfl⟩ := H
              go_wp2_with (first | ((with_reducible refine gate_callee (f := 70) rfl ?_); refine goesL_ (some 14) rfl rfl Try.func70 (by kernel_rfl) rfl #[.int .i64 a0] rfl (by (try simp only [List.map_toArray, List.map_cons, List.map_nil]); first | done | rfl | (simp only [List.length_drop, List.length_take]; rfl)) ?_; (with_reducible refine (pack_size.calls kj1 a0 t110 _ A5.out).mono ?_); rintro e w' ⟨rfl, ⟨nd, rfl⟩⟩; refine ⟨_, rfl, ?_⟩; (try (rw [drewN_self wc]; generalize hq_ : World.drewN wc _ = wc; have n0_ : Aside0 (Below w.heap.size w wc) := ⟨by rw [← hq_]; exact (Yr HB)⟩; clear HB hq_; have HB := n0_; clear n0_))) | ((with_reducible refine gate_dst (N := 15) rfl ?_); refine Go.Proofs.YtbdkfmhkgeoeaaaX.R_make_cap (Kd.int .u8) _ 5 rfl (N := 15) rfl 40 _ _ rfl 1 8 rfl rfl Try.underlying40 (.int .u8 0) 1 info5 rfl (by decide) (by omega) 0 (ok := fun _ => True) (okp := fun _ => True) rfl (fun _ hk => hk) trivial (by omega) (by omega) (by omega) (Below.refl _ _) (Nat.le_refl _) ?_; intro v112 w81 ho82 hb hg_ hnew_; clear hg_ hnew_; (first | rw [← Ny111.out] at ho82 | (simp only [Int.reduceToNat] at ho82; rw [← Ny111.out] at ho82)); have n0_ := Aside0.mk (Kd.R_lower ho82 (below_size (Yr HB))); have n1_ := Aside0.mk (Yv HB hb); clear HB; have HO113 := n0_; have HB := n1_; clear n0_ n1_; clear hb ho82; have p8 : 0 ≤ (0 : Int) := (by omega); have q8 : (0 : Int) < ((y111.length : Int) : Int) := of_decide_eq_true (by first | (with_reducible assumption) | assumption); have qi8 : (0 < y111.length) = True := eq_true (by omega); obtain ⟨go8, co8, eo8, gb8, gl8, cl8, HG8⟩ := Kd.R_form HO113.out (by omega); (first | cases eo8 | (injection eo8 with ea_ en_ ec_; (first | subst ea_ | (injection ea_ with ea_; subst ea_)); subst ec_; clear en_)); have GB8 := Aside0.mk gb8; have GG8 := Aside0.mk HG8; clear gb8 gl8 HG8; obtain ⟨hx8_0, hf8_0⟩ := Kd.R_celln 0 HO113.out (0 : Int) p8 q8; (try rw [show ((0 : Int)).toNat = 0 from rfl] at hx8_0); (try simp only [Nat.reduceMul, Nat.zero_mul, Nat.zero_add, Nat.reduceAdd] at hx8_0); (try rw [show ((0 : Int)).toNat = 0 from rfl] at hf8_0); (try simp only [Nat.reduceMul, Nat.zero_mul, Nat.zero_add, Nat.reduceAdd] at hf8_0); replace p8 := eq_true p8; replace q8 := eq_true q8; obtain ⟨hy83_, hz83_⟩ := Kd.R_celln 0 HO113.out (0 : Int) (by omega) (of_decide_eq_true (by first | (with_reducible assumption) | assumption)); (try simp only [Int.reduceToNat, Int.toNat_zero, Int.toNat_ofNat, Nat.reduceMul, Nat.zero_mul, Nat.zero_add] at hy83_ hz83_); (try rw [show ((0 : Int)).toNat = 0 from rfl] at hy83_); (try rw [show ((0 : Int)).toNat = 0 from rfl] at hz83_); have HP83 := Kd.R_putg HO113.out (0 : Int) ((t110) % 256)) | ((with_reducible refine gate_store (t := 5) (p := 19) rfl ?_); refine store_event (t := 5) (p := 19) (v := ?vo_w84) (w1 := (w81.setCell ⟨go8, (0 : Int).toNat, none⟩ (.int .u8 ((t110) % 256)))) ?hg ?ho ?hn ?hr ?_; (case ho => rfl); (case hg => rfl); (case hn => rfl); (case hr => first | (go_simp; done) | (go_simp; rfl)); intro w84 hw; have hg : w81.grownBy w84 (some go8) := (by rw [hw]; exact HP83.2); have hp_ : Kd.R (Kd.int .u8) 5 w84 w.heap.size (fun _ => True) (.slice (some ⟨go8, 0, none⟩) y111.length co8) y114 := (by rw [hw, Ny114.out]; exact HP83.1); clear HP83; have n0_ := Aside0.mk (hp_); have n1_ := Aside0.mk ((by rw [hw]; exact Ys (HB.out) GB8.out : Below w.heap.size w w84)); clear HO113; clear HB; have HO113 := n0_; have HB := n1_; clear n0_ n1_; clear hg hw hp_) | ((with_reducible refine gate_builtin (b := .append) (xs := #[.tmp 59, .tmp 63]) rfl ?_); at_builtin; refine Kd.R_append (Kd.int .u8) (w0 := w) w.heap.size rfl (.tmp 59) (.tmp 63) 40 5 (.int .u8 0) 1 rfl Try.underlying40 info5 rfl (by decide) (by omega) (.slice (some ⟨go8, 0, none⟩) y111.length co8) y114 ((a0 / 65536) % 256) [.int .u8 ((a0 / 65536) % 256)] (fun _ => True) (fun _ => False) rfl rfl ?aP (fun _ hk => hk.elim) ?aF ?aO ?aB ?aS ?aL ?_; (case aP => exact rfl); (case aB => exact (Yr HB)); (case aF => exact (fun _ _ => trivial)); (case aO => exact (by (with_reducible repeat (first | apply Kd.R_alloc | apply Kd.R_drewN | apply Kd.R_drew)); exact HO113.out)); (case aS => exact (below_size (Yr HB))); (case aL => have := LMc78.out; omega); intro v182 w85 ho hb hg hat; rw [← Ny181.out] at ho; have n0_ := Aside0.mk (hb); have n1_ := Aside0.mk (ho); clear HB; clear HO113; have HB := n0_; have HO183 := n1_; clear n0_ n1_; clear ho hb hg hat) | ((with_reducible refine gate_builtin (b := .append) (xs := #[.tmp 65, .tmp 69]) rfl ?_); at_builtin; refine Kd.R_append (Kd.int .u8) (w0 := w) w.heap.size rfl (.tmp 65) (.tmp 69) 40 5 (.int .u8 0) 1 rfl Try.underlying40 info5 rfl (by decide) (by omega) v182 y181 ((a0 / 256) % 256) [.int .u8 ((a0 / 256) % 256)] (fun _ => True) (fun _ => False) rfl rfl ?aP (fun _ hk => hk.elim) ?aF ?aO ?aB ?aS ?aL ?_; (case aP => exact rfl); (case aB => exact (Yr HB)); (case aF => exact (fun _ _ => trivial)); (case aO => exact (by (with_reducible repeat (first | apply Kd.R_alloc | apply Kd.R_drewN | apply Kd.R_drew)); exact HO183.out)); (case aS => exact (below_size (Yr HB))); (case aL => have := LMc79.out; omega); intro v185 w86 ho hb hg hat; rw [← Ny184.out] at ho; have n0_ := Aside0.mk (hb); have n1_ := Aside0.mk (ho); clear HB; clear HO183; have HB := n0_; have HO186 := n1_; clear n0_ n1_; clear ho hb hg hat) | ((with_reducible refine gate_builtin (b := .append) (xs := #[.tmp 71, .tmp 74]) rfl ?_); at_builtin; refine Kd.R_append (Kd.int .u8) (w0 := w) w.heap.size rfl (.tmp 71) (.tmp 74) 40 5 (.int .u8 0) 1 rfl Try.underlying40 info5 rfl (by decide) (by omega) v185 y184 ((a0) % 256) [.int .u8 ((a0) % 256)] (fun _ => True) (fun _ => False) rfl rfl ?aP (fun _ hk => hk.elim) ?aF ?aO ?aB ?aS ?aL ?_; (case aP => exact rfl); (case aB => exact (Yr HB)); (case aF => exact (fun _ _ => trivial)); (case aO => exact (by (with_reducible repeat (first | apply Kd.R_alloc | apply Kd.R_drewN | apply Kd.R_drew)); exact HO186.out)); (case aS => exact (below_size (Yr HB))); (case aL => have := LMc80.out; omega); intro v188 w87 ho hb hg hat; rw [← Ny187.out] at ho; have n0_ := Aside0.mk (hb); have n1_ := Aside0.mk (ho); clear HB; clear HO186; have HB := n0_; have HO189 := n1_; clear n0_ n1_; clear ho hb hg hat; have hcv88 := own_string (P := Try.prog) Try.underlying40 Try.underlying5 Try.underlying9 (Kd.own_of_R HO189.out)))
              go_ret2
              exact ⟨by first | rfl | (simp [errW_none, errW_some] <;> rfl) | (simp [*, errW_none, errW_some] <;> rfl), Yr HB⟩
             ·
              rw [if_neg c80] at H
              exact absurd H (by simp)
            ·
             rw [if_neg c79] at H
             exact absurd H (by simp)
           ·
            rw [if_neg c78] at H
            exact absurd H (by simp)
          ·
           rw [if_neg c77] at H
           have c77b0 : (t110 == 3) = false := beq_eq_false_iff_ne.mpr c77
           have c77b1 : (t110 != 3) = true := bne_iff_ne.mpr c77
           by_cases c89 : t110 = 2
           ·
            rw [if_pos c89] at H
            have c89b0 : (t110 == 2) = true := beq_iff_eq.mpr c89
            have c89b1 : (t110 != 2) = false := bne_eq_false_iff_eq.mpr c89
            clear c89
            by_cases c90 : y114.length < 140737488355328
            ·
             rw [if_pos c90] at H
             have LMc90 := Aside0.mk c90
             clear c90
             obtain ⟨y190, hy190⟩ : ∃ y_ : List Int, y_ = (y114 ++ [(a0 / 256) % 256]) := ⟨_, rfl⟩
             replace H : (if y190.length < 140737488355328 then (some (strOfNums (y190 ++ [(a0) % 256]), none)) else (none)) = some (r1, r2) := by first | (rw [hy190]; with_reducible exact H) | (have H2_ := (Option.bind_some _ _).symm.trans H; rw [hy190]; with_reducible exact H2_) | (have H2_ := (Option.bind_some _ _).symm.trans H; with_reducible exact H2_) | with_reducible exact H | (rw [hy190]; exact H) | exact H
             have Ny190 := Aside0.mk hy190
             clear hy190
             by_cases c91 : y190.length < 140737488355328
             ·
              rw [if_pos c91] at H
              have LMc91 := Aside0.mk c91
              clear c91
              obtain ⟨y193, hy193⟩ : ∃ y_ : List Int, y_ = (y190 ++ [(a0) % 256]) := ⟨_, rfl⟩
              replace H : (some (strOfNums y193, none)) = some (r1, r2) := by first | (rw [hy193]; with_reducible exact H) | (have H2_ := (Option.bind_some _ _).symm.trans H; rw [hy193]; with_reducible exact H2_) | (have H2_ := (Option.bind_some _ _).symm.trans H; with_reducible exact H2_) | with_reducible exact H | (rw [hy193]; exact H) | exact H
              have Ny193 := Aside0.mk hy193
              clear hy193
              simp only [Option.some.injEq, Prod.mk.injEq] at H
              obtain ⟨rfl, rfl⟩ := H
              go_wp2_with (first | ((with_reducible refine gate_callee (f := 70) rfl ?_); refine goesL_ (some 14) rfl rfl Try.func70 (by kernel_rfl) rfl #[.int .i64 a0] rfl (by (try simp only [List.map_toArray, List.map_cons, List.map_nil]); first | done | rfl | (simp only [List.length_drop, List.length_take]; rfl)) ?_; (with_reducible refine (pack_size.calls kj1 a0 t110 _ A5.out).mono ?_); rintro e w' ⟨rfl, ⟨nd, rfl⟩⟩; refine ⟨_, rfl, ?_⟩; (try (rw [drewN_self wc]; generalize hq_ : World.drewN wc _ = wc; have n0_ : Aside0 (Below w.heap.size w wc) := ⟨by rw [← hq_]; exact (Yr HB)⟩; clear HB hq_; have HB := n0_; clear n0_))) | ((with_reducible refine gate_dst (N := 15) rfl ?_); refine Go.Proofs.YtbdkfmhkgeoeaaaX.R_make_cap (Kd.int .u8) _ 5 rfl (N := 15) rfl 40 _ _ rfl 1 8 rfl rfl Try.underlying40 (.int .u8 0) 1 info5 rfl (by decide) (by omega) 0 (ok := fun _ => True) (okp := fun _ => True) rfl (fun _ hk => hk) trivial (by omega) (by omega) (by omega) (Below.refl _ _) (Nat.le_refl _) ?_; intro v112 w92 ho93 hb hg_ hnew_; clear hg_ hnew_; (first | rw [← Ny111.out] at ho93 | (simp only [Int.reduceToNat] at ho93; rw [← Ny111.out] at ho93)); have n0_ := Aside0.mk (Kd.R_lower ho93 (below_size (Yr HB))); have n1_ := Aside0.mk (Yv HB hb); clear HB; have HO113 := n0_; have HB := n1_; clear n0_ n1_; clear hb ho93; have p8 : 0 ≤ (0 : Int) := (by omega); have q8 : (0 : Int) < ((y111.length : Int) : Int) := of_decide_eq_true (by first | (with_reducible assumption) | assumption); have qi8 : (0 < y111.length) = True := eq_true (by omega); obtain ⟨go8, co8, eo8, gb8, gl8, cl8, HG8⟩ := Kd.R_form HO113.out (by omega); (first | cases eo8 | (injection eo8 with ea_ en_ ec_; (first | subst ea_ | (injection ea_ with ea_; subst ea_)); subst ec_; clear en_)); have GB8 := Aside0.mk gb8; have GG8 := Aside0.mk HG8; clear gb8 gl8 HG8; obtain ⟨hx8_0, hf8_0⟩ := Kd.R_celln 0 HO113.out (0 : Int) p8 q8; (try rw [show ((0 : Int)).toNat = 0 from rfl] at hx8_0); (try simp only [Nat.reduceMul, Nat.zero_mul, Nat.zero_add, Nat.reduceAdd] at hx8_0); (try rw [show ((0 : Int)).toNat = 0 from rfl] at hf8_0); (try simp only [Nat.reduceMul, Nat.zero_mul, Nat.zero_add, Nat.reduceAdd] at hf8_0); replace p8 := eq_true p8; replace q8 := eq_true q8; obtain ⟨hy94_, hz94_⟩ := Kd.R_celln 0 HO113.out (0 : Int) (by omega) (of_decide_eq_true (by first | (with_reducible assumption) | assumption)); (try simp only [Int.reduceToNat, Int.toNat_zero, Int.toNat_ofNat, Nat.reduceMul, Nat.zero_mul, Nat.zero_add] at hy94_ hz94_); (try rw [show ((0 : Int)).toNat = 0 from rfl] at hy94_); (try rw [show ((0 : Int)).toNat = 0 from rfl] at hz94_); have HP94 := Kd.R_putg HO113.out (0 : Int) ((t110) % 256)) | ((with_reducible refine gate_store (t := 5) (p := 19) rfl ?_); refine store_event (t := 5) (p := 19) (v := ?vo_w95) (w1 := (w92.setCell ⟨go8, (0 : Int).toNat, none⟩ (.int .u8 ((t110) % 256)))) ?hg ?ho ?hn ?hr ?_; (case ho => rfl); (case hg => rfl); (case hn => rfl); (case hr => first | (go_simp; done) | (go_simp; rfl)); intro w95 hw; have hg : w92.grownBy w95 (some go8) := (by rw [hw]; exact HP94.2); have hp_ : Kd.R (Kd.int .u8) 5 w95 w.heap.size (fun _ => True) (.slice (some ⟨go8, 0, none⟩) y111.length co8) y114 := (by rw [hw, Ny114.out]; exact HP94.1); clear HP94; have n0_ := Aside0.mk (hp_); have n1_ := Aside0.mk ((by rw [hw]; exact Ys (HB.out) GB8.out : Below w.heap.size w w95)); clear HO113; clear HB; have HO113 := n0_; have HB := n1_; clear n0_ n1_; clear hg hw hp_) | ((with_reducible refine gate_builtin (b := .append) (xs := #[.tmp 65, .tmp 69]) rfl ?_); at_builtin; refine Kd.R_append (Kd.int .u8) (w0 := w) w.heap.size rfl (.tmp 65) (.tmp 69) 40 5 (.int .u8 0) 1 rfl Try.underlying40 info5 rfl (by decide) (by omega) (.slice (some ⟨go8, 0, none⟩) y111.length co8) y114 ((a0 / 256) % 256) [.int .u8 ((a0 / 256) % 256)] (fun _ => True) (fun _ => False) rfl rfl ?aP (fun _ hk => hk.elim) ?aF ?aO ?aB ?aS ?aL ?_; (case aP => exact rfl); (case aB => exact (Yr HB)); (case aF => exact (fun _ _ => trivial)); (case aO => exact (by (with_reducible repeat (first | apply Kd.R_alloc | apply Kd.R_drewN | apply Kd.R_drew)); exact HO113.out)); (case aS => exact (below_size (Yr HB))); (case aL => have := LMc90.out; omega); intro v191 w96 ho hb hg hat; rw [← Ny190.out] at ho; have n0_ := Aside0.mk (hb); have n1_ := Aside0.mk (ho); clear HB; clear HO113; have HB := n0_; have HO192 := n1_; clear n0_ n1_; clear ho hb hg hat) | ((with_reducible refine gate_builtin (b := .append) (xs := #[.tmp 71, .tmp 74]) rfl ?_); at_builtin; refine Kd.R_append (Kd.int .u8) (w0 := w) w.heap.size rfl (.tmp 71) (.tmp 74) 40 5 (.int .u8 0) 1 rfl Try.underlying40 info5 rfl (by decide) (by omega) v191 y190 ((a0) % 256) [.int .u8 ((a0) % 256)] (fun _ => True) (fun _ => False) rfl rfl ?aP (fun _ hk => hk.elim) ?aF ?aO ?aB ?aS ?aL ?_; (case aP => exact rfl); (case aB => exact (Yr HB)); (case aF => exact (fun _ _ => trivial)); (case aO => exact (by (with_reducible repeat (first | apply Kd.R_alloc | apply Kd.R_drewN | apply Kd.R_drew)); exact HO192.out)); (case aS => exact (below_size (Yr HB))); (case aL => have := LMc91.out; omega); intro v194 w97 ho hb hg hat; rw [← Ny193.out] at ho; have n0_ := Aside0.mk (hb); have n1_ := Aside0.mk (ho); clear HB; clear HO192; have HB := n0_; have HO195 := n1_; clear n0_ n1_; clear ho hb hg hat; have hcv98 := own_string (P := Try.prog) Try.underlying40 Try.underlying5 Try.underlying9 (Kd.own_of_R HO195.out)))
              go_ret2
              exact ⟨by first | rfl | (simp [errW_none, errW_some] <;> rfl) | (simp [*, errW_none, errW_some] <;> rfl), Yr HB⟩
             ·
              rw [if_neg c91] at H
              exact absurd H (by simp)
            ·
             rw [if_neg c90] at H
             exact absurd H (by simp)
           ·
            rw [if_neg c89] at H
            have c89b0 : (t110 == 2) = false := beq_eq_false_iff_ne.mpr c89
            have c89b1 : (t110 != 2) = true := bne_iff_ne.mpr c89
            by_cases c99 : t110 = 1
            ·
             rw [if_pos c99] at H
             have c99b0 : (t110 == 1) = true := beq_iff_eq.mpr c99
             have c99b1 : (t110 != 1) = false := bne_eq_false_iff_eq.mpr c99
             clear c99
             by_cases c100 : y114.length < 140737488355328
             ·
              rw [if_pos c100] at H
              have LMc100 := Aside0.mk c100
              clear c100
              obtain ⟨y196, hy196⟩ : ∃ y_ : List Int, y_ = (y114 ++ [(a0) % 256]) := ⟨_, rfl⟩
              replace H : (some (strOfNums y196, none)) = some (r1, r2) := by first | (rw [hy196]; with_reducible exact H) | (have H2_ := (Option.bind_some _ _).symm.trans H; rw [hy196]; with_reducible exact H2_) | (have H2_ := (Option.bind_some _ _).symm.trans H; with_reducible exact H2_) | with_reducible exact H | (rw [hy196]; exact H) | exact H
              have Ny196 := Aside0.mk hy196
              clear hy196
              simp only [Option.some.injEq, Prod.mk.injEq] at H
              obtain ⟨rfl, rfl⟩ := H
              go_wp2_with (first | ((with_reducible refine gate_callee (f := 70) rfl ?_); refine goesL_ (some 14) rfl rfl Try.func70 (by kernel_rfl) rfl #[.int .i64 a0] rfl (by (try simp only [List.map_toArray, List.map_cons, List.map_nil]); first | done | rfl | (simp only [List.length_drop, List.length_take]; rfl)) ?_; (with_reducible refine (pack_size.calls kj1 a0 t110 _ A5.out).mono ?_); rintro e w' ⟨rfl, ⟨nd, rfl⟩⟩; refine ⟨_, rfl, ?_⟩; (try (rw [drewN_self wc]; generalize hq_ : World.drewN wc _ = wc; have n0_ : Aside0 (Below w.heap.size w wc) := ⟨by rw [← hq_]; exact (Yr HB)⟩; clear HB hq_; have HB := n0_; clear n0_))) | ((with_reducible refine gate_dst (N := 15) rfl ?_); refine Go.Proofs.YtbdkfmhkgeoeaaaX.R_make_cap (Kd.int .u8) _ 5 rfl (N := 15) rfl 40 _ _ rfl 1 8 rfl rfl Try.underlying40 (.int .u8 0) 1 info5 rfl (by decide) (by omega) 0 (ok := fun _ => True) (okp := fun _ => True) rfl (fun _ hk => hk) trivial (by omega) (by omega) (by omega) (Below.refl _ _) (Nat.le_refl _) ?_; intro v112 w101 ho102 hb hg_ hnew_; clear hg_ hnew_; (first | rw [← Ny111.out] at ho102 | (simp only [Int.reduceToNat] at ho102; rw [← Ny111.out] at ho102)); have n0_ := Aside0.mk (Kd.R_lower ho102 (below_size (Yr HB))); have n1_ := Aside0.mk (Yv HB hb); clear HB; have HO113 := n0_; have HB := n1_; clear n0_ n1_; clear hb ho102; have p8 : 0 ≤ (0 : Int) := (by omega); have q8 : (0 : Int) < ((y111.length : Int) : Int) := of_decide_eq_true (by first | (with_reducible assumption) | assumption); have qi8 : (0 < y111.length) = True := eq_true (by omega); obtain ⟨go8, co8, eo8, gb8, gl8, cl8, HG8⟩ := Kd.R_form HO113.out (by omega); (first | cases eo8 | (injection eo8 with ea_ en_ ec_; (first | subst ea_ | (injection ea_ with ea_; subst ea_)); subst ec_; clear en_)); have GB8 := Aside0.mk gb8; have GG8 := Aside0.mk HG8; clear gb8 gl8 HG8; obtain ⟨hx8_0, hf8_0⟩ := Kd.R_celln 0 HO113.out (0 : Int) p8 q8; (try rw [show ((0 : Int)).toNat = 0 from rfl] at hx8_0); (try simp only [Nat.reduceMul, Nat.zero_mul, Nat.zero_add, Nat.reduceAdd] at hx8_0); (try rw [show ((0 : Int)).toNat = 0 from rfl] at hf8_0); (try simp only [Nat.reduceMul, Nat.zero_mul, Nat.zero_add, Nat.reduceAdd] at hf8_0); replace p8 := eq_true p8; replace q8 := eq_true q8; obtain ⟨hy103_, hz103_⟩ := Kd.R_celln 0 HO113.out (0 : Int) (by omega) (of_decide_eq_true (by first | (with_reducible assumption) | assumption)); (try simp only [Int.reduceToNat, Int.toNat_zero, Int.toNat_ofNat, Nat.reduceMul, Nat.zero_mul, Nat.zero_add] at hy103_ hz103_); (try rw [show ((0 : Int)).toNat = 0 from rfl] at hy103_); (try rw [show ((0 : Int)).toNat = 0 from rfl] at hz103_); have HP103 := Kd.R_putg HO113.out (0 : Int) ((t110) % 256)) | ((with_reducible refine gate_store (t := 5) (p := 19) rfl ?_); refine store_event (t := 5) (p := 19) (v := ?vo_w104) (w1 := (w101.setCell ⟨go8, (0 : Int).toNat, none⟩ (.int .u8 ((t110) % 256)))) ?hg ?ho ?hn ?hr ?_; (case ho => rfl); (case hg => rfl); (case hn => rfl); (case hr => first | (go_simp; done) | (go_simp; rfl)); intro w104 hw; have hg : w101.grownBy w104 (some go8) := (by rw [hw]; exact HP103.2); have hp_ : Kd.R (Kd.int .u8) 5 w104 w.heap.size (fun _ => True) (.slice (some ⟨go8, 0, none⟩) y111.length co8) y114 := (by rw [hw, Ny114.out]; exact HP103.1); clear HP103; have n0_ := Aside0.mk (hp_); have n1_ := Aside0.mk ((by rw [hw]; exact Ys (HB.out) GB8.out : Below w.heap.size w w104)); clear HO113; clear HB; have HO113 := n0_; have HB := n1_; clear n0_ n1_; clear hg hw hp_) | ((with_reducible refine gate_builtin (b := .append) (xs := #[.tmp 71, .tmp 74]) rfl ?_); at_builtin; refine Kd.R_append (Kd.int .u8) (w0 := w) w.heap.size rfl (.tmp 71) (.tmp 74) 40 5 (.int .u8 0) 1 rfl Try.underlying40 info5 rfl (by decide) (by omega) (.slice (some ⟨go8, 0, none⟩) y111.length co8) y114 ((a0) % 256) [.int .u8 ((a0) % 256)] (fun _ => True) (fun _ => False) rfl rfl ?aP (fun _ hk => hk.elim) ?aF ?aO ?aB ?aS ?aL ?_; (case aP => exact rfl); (case aB => exact (Yr HB)); (case aF => exact (fun _ _ => trivial)); (case aO => exact (by (with_reducible repeat (first | apply Kd.R_alloc | apply Kd.R_drewN | apply Kd.R_drew)); exact HO113.out)); (case aS => exact (below_size (Yr HB))); (case aL => have := LMc100.out; omega); intro v197 w105 ho hb hg hat; rw [← Ny196.out] at ho; have n0_ := Aside0.mk (hb); have n1_ := Aside0.mk (ho); clear HB; clear HO113; have HB := n0_; have HO198 := n1_; clear n0_ n1_; clear ho hb hg hat; have hcv106 := own_string (P := Try.prog) Try.underlying40 Try.underlying5 Try.underlying9 (Kd.own_of_R HO198.out)))
              go_ret2
              exact ⟨by first | rfl | (simp [errW_none, errW_some] <;> rfl) | (simp [*, errW_none, errW_some] <;> rfl), Yr HB⟩
             ·
              rw [if_neg c100] at H
              exact absurd H (by simp)
            ·
             rw [if_neg c99] at H
             have c99b0 : (t110 == 1) = false := beq_eq_false_iff_ne.mpr c99
             have c99b1 : (t110 != 1) = true := bne_iff_ne.mpr c99
             simp only [Option.some.injEq, Prod.mk.injEq] at H
             obtain ⟨rfl, rfl⟩ := H
             go_wp2_with (first | ((with_reducible refine gate_callee (f := 70) rfl ?_); refine goesL_ (some 14) rfl rfl Try.func70 (by kernel_rfl) rfl #[.int .i64 a0] rfl (by (try simp only [List.map_toArray, List.map_cons, List.map_nil]); first | done | rfl | (simp only [List.length_drop, List.length_take]; rfl)) ?_; (with_reducible refine (pack_size.calls kj1 a0 t110 _ A5.out).mono ?_); rintro e w' ⟨rfl, ⟨nd, rfl⟩⟩; refine ⟨_, rfl, ?_⟩; (try (rw [drewN_self wc]; generalize hq_ : World.drewN wc _ = wc; have n0_ : Aside0 (Below w.heap.size w wc) := ⟨by rw [← hq_]; exact (Yr HB)⟩; clear HB hq_; have HB := n0_; clear n0_))) | ((with_reducible refine gate_dst (N := 15) rfl ?_); refine Go.Proofs.YtbdkfmhkgeoeaaaX.R_make_cap (Kd.int .u8) _ 5 rfl (N := 15) rfl 40 _ _ rfl 1 8 rfl rfl Try.underlying40 (.int .u8 0) 1 info5 rfl (by decide) (by omega) 0 (ok := fun _ => True) (okp := fun _ => True) rfl (fun _ hk => hk) trivial (by omega) (by omega) (by omega) (Below.refl _ _) (Nat.le_refl _) ?_; intro v112 w107 ho108 hb hg_ hnew_; clear hg_ hnew_; (first | rw [← Ny111.out] at ho108 | (simp only [Int.reduceToNat] at ho108; rw [← Ny111.out] at ho108)); have n0_ := Aside0.mk (Kd.R_lower ho108 (below_size (Yr HB))); have n1_ := Aside0.mk (Yv HB hb); clear HB; have HO113 := n0_; have HB := n1_; clear n0_ n1_; clear hb ho108; have p8 : 0 ≤ (0 : Int) := (by omega); have q8 : (0 : Int) < ((y111.length : Int) : Int) := of_decide_eq_true (by first | (with_reducible assumption) | assumption); have qi8 : (0 < y111.length) = True := eq_true (by omega); obtain ⟨go8, co8, eo8, gb8, gl8, cl8, HG8⟩ := Kd.R_form HO113.out (by omega); (first | cases eo8 | (injection eo8 with ea_ en_ ec_; (first | subst ea_ | (injection ea_ with ea_; subst ea_)); subst ec_; clear en_)); have GB8 := Aside0.mk gb8; have GG8 := Aside0.mk HG8; clear gb8 gl8 HG8; obtain ⟨hx8_0, hf8_0⟩ := Kd.R_celln 0 HO113.out (0 : Int) p8 q8; (try rw [show ((0 : Int)).toNat = 0 from rfl] at hx8_0); (try simp only [Nat.reduceMul, Nat.zero_mul, Nat.zero_add, Nat.reduceAdd] at hx8_0); (try rw [show ((0 : Int)).toNat = 0 from rfl] at hf8_0); (try simp only [Nat.reduceMul, Nat.zero_mul, Nat.zero_add, Nat.reduceAdd] at hf8_0); replace p8 := eq_true p8; replace q8 := eq_true q8; obtain ⟨hy109_, hz109_⟩ := Kd.R_celln 0 HO113.out (0 : Int) (by omega) (of_decide_eq_true (by first | (with_reducible assumption) | assumption)); (try simp only [Int.reduceToNat, Int.toNat_zero, Int.toNat_ofNat, Nat.reduceMul, Nat.zero_mul, Nat.zero_add] at hy109_ hz109_); (try rw [show ((0 : Int)).toNat = 0 from rfl] at hy109_); (try rw [show ((0 : Int)).toNat = 0 from rfl] at hz109_); have HP109 := Kd.R_putg HO113.out (0 : Int) ((t110) % 256)) | ((with_reducible refine gate_store (t := 5) (p := 19) rfl ?_); refine store_event (t := 5) (p := 19) (v := ?vo_w110) (w1 := (w107.setCell ⟨go8, (0 : Int).toNat, none⟩ (.int .u8 ((t110) % 256)))) ?hg ?ho ?hn ?hr ?_; (case ho => rfl); (case hg => rfl); (case hn => rfl); (case hr => first | (go_simp; done) | (go_simp; rfl)); intro w110 hw; have hg : w107.grownBy w110 (some go8) := (by rw [hw]; exact HP109.2); have hp_ : Kd.R (Kd.int .u8) 5 w110 w.heap.size (fun _ => True) (.slice (some ⟨go8, 0, none⟩) y111.length co8) y114 := (by rw [hw, Ny114.out]; exact HP109.1); clear HP109; have n0_ := Aside0.mk (hp_); have n1_ := Aside0.mk ((by rw [hw]; exact Ys (HB.out) GB8.out : Below w.heap.size w w110)); clear HO113; clear HB; have HO113 := n0_; have HB := n1_; clear n0_ n1_; clear hg hw hp_; have hcv111 := own_string (P := Try.prog) Try.underlying40 Try.underlying5 Try.underlying9 (Kd.own_of_R HO113.out)))
             go_ret2
             exact ⟨by first | rfl | (simp [errW_none, errW_some] <;> rfl) | (simp [*, errW_none, errW_some] <;> rfl), Yr HB⟩
     ·
      rw [if_neg c7] at H
      exact absurd H (by simp)
    ·
     rw [if_neg c6] at H
     exact absurd H (by simp)

end Go.Proofs.Ytbdkfmhkgeoeaaa.Print
