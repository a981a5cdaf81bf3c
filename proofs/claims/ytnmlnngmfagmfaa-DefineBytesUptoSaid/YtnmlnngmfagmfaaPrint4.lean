-- Printed out of the translation by a program of this session's own. Not trusted: Lean checks it.
import Derived.Test.YtnmlnngmfagmfaaPrint0
import Derived.Test.YtnmlnngmfagmfaaPrint3
namespace Go.Proofs.Ytnmlnngmfagmfaa.Print
open Go.RowKit Go.Proofs.YtnmlnngmfagmfaaW.PrintWords Go.Proofs.YtnmlnngmfagmfaaW.PrintLast Go.Proofs.YtnmlnngmfagmfaaW.PrintMore Go.Proofs.YtnmlnngmfagmfaaX
attribute [local go_sem] max2_int min2_int max_two min_two max_three min_three max_four min_four   -- for this text's walks alone
set_option linter.unusedVariables false
set_option linter.unusedSimpArgs false

/-! ### pack_Num: function 22 -/
def pack_Num.j0 : Nat → Int → Bool → Option (ByteArray × Option Int)
 | 0, _, _ => none
 | k + 1, x0, x11 => if x11 = true then (some ((⟨#[]⟩ : ByteArray), some 1)) else ((pack_size.f k x0).bind fun t109 => (if 1 ≤ 281474976710656 then ((some (List.replicate 1 0 : List Int)).bind fun y110 => (if 0 < (y110.length : Int) then ((some (y110.set (0 : Int).toNat ((t109) % 256) : List Int)).bind fun y113 => (if t109 = 7 then (if y113.length < 140737488355328 then ((some (y113 ++ [(x0 / 281474976710656) % 256] : List Int)).bind fun y114 => (if y114.length < 140737488355328 then ((some (y114 ++ [(x0 / 1099511627776) % 256] : List Int)).bind fun y117 => (if y117.length < 140737488355328 then ((some (y117 ++ [(x0 / 4294967296) % 256] : List Int)).bind fun y120 => (if y120.length < 140737488355328 then ((some (y120 ++ [(x0 / 16777216) % 256] : List Int)).bind fun y123 => (if y123.length < 140737488355328 then ((some (y123 ++ [(x0 / 65536) % 256] : List Int)).bind fun y126 => (if y126.length < 140737488355328 then ((some (y126 ++ [(x0 / 256) % 256] : List Int)).bind fun y129 => (if y129.length < 140737488355328 then (some (strOfNums (y129 ++ [(x0) % 256]), none)) else (none))) else (none))) else (none))) else (none))) else (none))) else (none))) else (none)) else (if t109 = 6 then (if y113.length < 140737488355328 then ((some (y113 ++ [(x0 / 1099511627776) % 256] : List Int)).bind fun y135 => (if y135.length < 140737488355328 then ((some (y135 ++ [(x0 / 4294967296) % 256] : List Int)).bind fun y138 => (if y138.length < 140737488355328 then ((some (y138 ++ [(x0 / 16777216) % 256] : List Int)).bind fun y141 => (if y141.length < 140737488355328 then ((some (y141 ++ [(x0 / 65536) % 256] : List Int)).bind fun y144 => (if y144.length < 140737488355328 then ((some (y144 ++ [(x0 / 256) % 256] : List Int)).bind fun y147 => (if y147.length < 140737488355328 then (some (strOfNums (y147 ++ [(x0) % 256]), none)) else (none))) else (none))) else (none))) else (none))) else (none))) else (none)) else (if t109 = 5 then (if y113.length < 140737488355328 then ((some (y113 ++ [(x0 / 4294967296) % 256] : List Int)).bind fun y153 => (if y153.length < 140737488355328 then ((some (y153 ++ [(x0 / 16777216) % 256] : List Int)).bind fun y156 => (if y156.length < 140737488355328 then ((some (y156 ++ [(x0 / 65536) % 256] : List Int)).bind fun y159 => (if y159.length < 140737488355328 then ((some (y159 ++ [(x0 / 256) % 256] : List Int)).bind fun y162 => (if y162.length < 140737488355328 then (some (strOfNums (y162 ++ [(x0) % 256]), none)) else (none))) else (none))) else (none))) else (none))) else (none)) else (if t109 = 4 then (if y113.length < 140737488355328 then ((some (y113 ++ [(x0 / 16777216) % 256] : List Int)).bind fun y168 => (if y168.length < 140737488355328 then ((some (y168 ++ [(x0 / 65536) % 256] : List Int)).bind fun y171 => (if y171.length < 140737488355328 then ((some (y171 ++ [(x0 / 256) % 256] : List Int)).bind fun y174 => (if y174.length < 140737488355328 then (some (strOfNums (y174 ++ [(x0) % 256]), none)) else (none))) else (none))) else (none))) else (none)) else (if t109 = 3 then (if y113.length < 140737488355328 then ((some (y113 ++ [(x0 / 65536) % 256] : List Int)).bind fun y180 => (if y180.length < 140737488355328 then ((some (y180 ++ [(x0 / 256) % 256] : List Int)).bind fun y183 => (if y183.length < 140737488355328 then (some (strOfNums (y183 ++ [(x0) % 256]), none)) else (none))) else (none))) else (none)) else (if t109 = 2 then (if y113.length < 140737488355328 then ((some (y113 ++ [(x0 / 256) % 256] : List Int)).bind fun y189 => (if y189.length < 140737488355328 then (some (strOfNums (y189 ++ [(x0) % 256]), none)) else (none))) else (none)) else (if t109 = 1 then (if y113.length < 140737488355328 then (some (strOfNums (y113 ++ [(x0) % 256]), none)) else (none)) else (some (strOfNums y113, none)))))))))) else (none))) else (none)))
def pack_Num.f (k : Nat) (a0 : Int) : Option (ByteArray × Option Int) := if a0 < 0 then (pack_Num.j0 k a0 true) else (pack_Num.j0 k a0 (decide (a0 > 9007199254740991)))
theorem pack_Num.mono_l : ∀ k, (∀ y0 y1, LeO (pack_Num.j0 k y0 y1) (pack_Num.j0 (k + 1) y0 y1))
 | 0 => fun _ _ r h => by simp [pack_Num.j0] at h
 | k + 1 => by
  have ih0 := pack_Num.mono_l k
  ·
   intro y0 y1
   unfold pack_Num.j0
   repeat' first
   | (with_reducible exact ih0 _ _)
   | (with_reducible exact pack_size.mono _ _)
   | (with_reducible exact LeO.refl _)
   | (with_reducible exact LeO.none _)
   | (with_reducible refine LeO.ite ?_ ?_)
   | (with_reducible refine LeO.bind ?_ (fun _ => ?_))
   | exact ih0 _ _
   | exact pack_size.mono _ _
   | exact LeO.none _
   | refine LeO.ite ?_ ?_
   | refine LeO.bind ?_ (fun _ => ?_)
theorem pack_Num.mono : ∀ a0 k, LeO (pack_Num.f k a0) (pack_Num.f (k + 1) a0) := by
 intro a0 k
 have ih0 := pack_Num.mono_l k
 unfold pack_Num.f
 repeat' first
   | (with_reducible exact ih0 _ _)
   | (with_reducible exact pack_size.mono _ _)
   | (with_reducible exact LeO.refl _)
   | (with_reducible exact LeO.none _)
   | (with_reducible refine LeO.ite ?_ ?_)
   | (with_reducible refine LeO.bind ?_ (fun _ => ?_))
   | exact ih0 _ _
   | exact pack_size.mono _ _
   | exact LeO.none _
   | refine LeO.ite ?_ ?_
   | refine LeO.bind ?_ (fun _ => ?_)
set_option maxHeartbeats 8000000 in
set_option maxRecDepth 100000 in
theorem pack_Num.calls (k : Nat) (a0 : Int) (r1 : ByteArray) (r2 : Option Int) (w : World) (h : pack_Num.f k a0 = some (r1, r2)) :
  Calls Try.prog 22 #[.int .i64 a0] w fun e w' => e = .returned (.tuple #[.string r1, errW r2]) ∧ Below w.heap.size w w' := by
 have hu31 := Try.underlying31
 have hu48 := Try.underlying48
 have HB := Aside0.mk (Below.refl w.heap.size w)
 have H : (if a0 < 0 then (pack_Num.j0 k a0 true) else (pack_Num.j0 k a0 (decide (a0 > 9007199254740991)))) = some (r1, r2) := h
 clear h
 have HC2 := Aside0.mk H
 clear H
 go_enter Try.func22, Try.ntmps22
 go_upto_region 1 with (fail)
 go_cut [11] (fun v11 wc => ∃ (kq : Nat) (x11_1 : Bool), v11 = .bool x11_1 ∧ Aside0 (pack_Num.j0 kq a0 x11_1 = some (r1, r2)) ∧ Aside0 (kq ≤ k) ∧ Aside0 (Below w.heap.size w wc))
 case first =>
  have H := HC2.out
  clear HC2
  by_cases c3 : a0 < 0
  ·
   rw [if_pos c3] at H
   have c3b0 : decide (a0 < 0) = true := decide_eq_true c3
   clear c3
   (first | rw [c3b0] | (simp only [i64_w, i32_w]; rw [c3b0]) | skip)
   have H' := Aside0.mk H
   clear H
   go_wp2
   go_meet
   case rel => exact ⟨_, (true), (by first | rfl | (simp; done) | (simp [*]; done)), H', ⟨by first | omega | exact Nat.le_refl _⟩, ⟨Yr HB⟩⟩
  ·
   rw [if_neg c3] at H
   have c3b0 : decide (a0 < 0) = false := decide_eq_false c3
   clear c3
   (first | rw [c3b0] | (simp only [i64_w, i32_w]; rw [c3b0]) | skip)
   have H' := Aside0.mk H
   clear H
   go_wp2
   go_meet
   case rel => exact ⟨_, (decide (a0 > 9007199254740991)), (by first | rfl | (simp; done) | (simp [*]; done)), H', ⟨by first | omega | exact Nat.le_refl _⟩, ⟨Yr HB⟩⟩
 case rest =>
  clear HC2
  try clear c2
  try clear p2
  try clear c3
  try clear c3b0
  obtain ⟨kq, x11_1, rfl, HA, HJ1, HB⟩ := hcut
  cases kq with
  | zero => exact absurd HA.out (by simp [pack_Num.j0])
  | succ kj1 =>
   have H := HA.out
   clear HA
   simp only [pack_Num.j0] at H
   by_cases c4 : x11_1 = true
   ·
    subst c4
    have H1 : (some ((⟨#[]⟩ : ByteArray), some 1)) = some (r1, r2) := by rw [if_pos rfl] at H; exact H
    clear H
    have H := H1
    clear H1
    simp only [Option.some.injEq, Prod.mk.injEq] at H
    obtain ⟨rfl, rfl⟩ := H
    go_wp2
    go_ret2
    exact ⟨by first | rfl | (simp [errW_none, errW_some] <;> rfl) | (simp [*, errW_none, errW_some] <;> rfl), Yr HB⟩
   ·
    replace c4 := Bool.eq_false_iff.mpr c4
    subst c4
    have H1 : ((pack_size.f kj1 a0).bind fun t109 => (if 1 ≤ 281474976710656 then ((some (List.replicate 1 0 : List Int)).bind fun y110 => (if 0 < (y110.length : Int) then ((some (y110.set (0 : Int).toNat ((t109) % 256) : List Int)).bind fun y113 => (if t109 = 7 then (if y113.length < 140737488355328 then ((some (y113 ++ [(a0 / 281474976710656) % 256] : List Int)).bind fun y114 => (if y114.length < 140737488355328 then ((some (y114 ++ [(a0 / 1099511627776) % 256] : List Int)).bind fun y117 => (if y117.length < 140737488355328 then ((some (y117 ++ [(a0 / 4294967296) % 256] : List Int)).bind fun y120 => (if y120.length < 140737488355328 then ((some (y120 ++ [(a0 / 16777216) % 256] : List Int)).bind fun y123 => (if y123.length < 140737488355328 then ((some (y123 ++ [(a0 / 65536) % 256] : List Int)).bind fun y126 => (if y126.length < 140737488355328 then ((some (y126 ++ [(a0 / 256) % 256] : List Int)).bind fun y129 => (if y129.length < 140737488355328 then (some (strOfNums (y129 ++ [(a0) % 256]), none)) else (none))) else (none))) else (none))) else (none))) else (none))) else (none))) else (none)) else (if t109 = 6 then (if y113.length < 140737488355328 then ((some (y113 ++ [(a0 / 1099511627776) % 256] : List Int)).bind fun y135 => (if y135.length < 140737488355328 then ((some (y135 ++ [(a0 / 4294967296) % 256] : List Int)).bind fun y138 => (if y138.length < 140737488355328 then ((some (y138 ++ [(a0 / 16777216) % 256] : List Int)).bind fun y141 => (if y141.length < 140737488355328 then ((some (y141 ++ [(a0 / 65536) % 256] : List Int)).bind fun y144 => (if y144.length < 140737488355328 then ((some (y144 ++ [(a0 / 256) % 256] : List Int)).bind fun y147 => (if y147.length < 140737488355328 then (some (strOfNums (y147 ++ [(a0) % 256]), none)) else (none))) else (none))) else (none))) else (none))) else (none))) else (none)) else (if t109 = 5 then (if y113.length < 140737488355328 then ((some (y113 ++ [(a0 / 4294967296) % 256] : List Int)).bind fun y153 => (if y153.length < 140737488355328 then ((some (y153 ++ [(a0 / 16777216) % 256] : List Int)).bind fun y156 => (if y156.length < 140737488355328 then ((some (y156 ++ [(a0 / 65536) % 256] : List Int)).bind fun y159 => (if y159.length < 140737488355328 then ((some (y159 ++ [(a0 / 256) % 256] : List Int)).bind fun y162 => (if y162.length < 140737488355328 then (some (strOfNums (y162 ++ [(a0) % 256]), none)) else (none))) else (none))) else (none))) else (none))) else (none)) else (if t109 = 4 then (if y113.length < 140737488355328 then ((some (y113 ++ [(a0 / 16777216) % 256] : List Int)).bind fun y168 => (if y168.length < 140737488355328 then ((some (y168 ++ [(a0 / 65536) % 256] : List Int)).bind fun y171 => (if y171.length < 140737488355328 then ((some (y171 ++ [(a0 / 256) % 256] : List Int)).bind fun y174 => (if y174.length < 140737488355328 then (some (strOfNums (y174 ++ [(a0) % 256]), none)) else (none))) else (none))) else (none))) else (none)) else (if t109 = 3 then (if y113.length < 140737488355328 then ((some (y113 ++ [(a0 / 65536) % 256] : List Int)).bind fun y180 => (if y180.length < 140737488355328 then ((some (y180 ++ [(a0 / 256) % 256] : List Int)).bind fun y183 => (if y183.length < 140737488355328 then (some (strOfNums (y183 ++ [(a0) % 256]), none)) else (none))) else (none))) else (none)) else (if t109 = 2 then (if y113.length < 140737488355328 then ((some (y113 ++ [(a0 / 256) % 256] : List Int)).bind fun y189 => (if y189.length < 140737488355328 then (some (strOfNums (y189 ++ [(a0) % 256]), none)) else (none))) else (none)) else (if t109 = 1 then (if y113.length < 140737488355328 then (some (strOfNums (y113 ++ [(a0) % 256]), none)) else (none)) else (some (strOfNums y113, none)))))))))) else (none))) else (none))) = some (r1, r2) := by rw [if_neg (show ¬ (false = true) by decide)] at H; exact H
    clear H
    have H := H1
    clear H1
    replace H := Option.bind_eq_some_iff.mp H
    obtain ⟨t109, A50, H⟩ := H
    replace H : (if 1 ≤ 281474976710656 then ((some (List.replicate 1 0 : List Int)).bind fun y110 => (if 0 < (y110.length : Int) then ((some (y110.set (0 : Int).toNat ((t109) % 256) : List Int)).bind fun y113 => (if t109 = 7 then (if y113.length < 140737488355328 then ((some (y113 ++ [(a0 / 281474976710656) % 256] : List Int)).bind fun y114 => (if y114.length < 140737488355328 then ((some (y114 ++ [(a0 / 1099511627776) % 256] : List Int)).bind fun y117 => (if y117.length < 140737488355328 then ((some (y117 ++ [(a0 / 4294967296) % 256] : List Int)).bind fun y120 => (if y120.length < 140737488355328 then ((some (y120 ++ [(a0 / 16777216) % 256] : List Int)).bind fun y123 => (if y123.length < 140737488355328 then ((some (y123 ++ [(a0 / 65536) % 256] : List Int)).bind fun y126 => (if y126.length < 140737488355328 then ((some (y126 ++ [(a0 / 256) % 256] : List Int)).bind fun y129 => (if y129.length < 140737488355328 then (some (strOfNums (y129 ++ [(a0) % 256]), none)) else (none))) else (none))) else (none))) else (none))) else (none))) else (none))) else (none)) else (if t109 = 6 then (if y113.length < 140737488355328 then ((some (y113 ++ [(a0 / 1099511627776) % 256] : List Int)).bind fun y135 => (if y135.length < 140737488355328 then ((some (y135 ++ [(a0 / 4294967296) % 256] : List Int)).bind fun y138 => (if y138.length < 140737488355328 then ((some (y138 ++ [(a0 / 16777216) % 256] : List Int)).bind fun y141 => (if y141.length < 140737488355328 then ((some (y141 ++ [(a0 / 65536) % 256] : List Int)).bind fun y144 => (if y144.length < 140737488355328 then ((some (y144 ++ [(a0 / 256) % 256] : List Int)).bind fun y147 => (if y147.length < 140737488355328 then (some (strOfNums (y147 ++ [(a0) % 256]), none)) else (none))) else (none))) else (none))) else (none))) else (none))) else (none)) else (if t109 = 5 then (if y113.length < 140737488355328 then ((some (y113 ++ [(a0 / 4294967296) % 256] : List Int)).bind fun y153 => (if y153.length < 140737488355328 then ((some (y153 ++ [(a0 / 16777216) % 256] : List Int)).bind fun y156 => (if y156.length < 140737488355328 then ((some (y156 ++ [(a0 / 65536) % 256] : List Int)).bind fun y159 => (if y159.length < 140737488355328 then ((some (y159 ++ [(a0 / 256) % 256] : List Int)).bind fun y162 => (if y162.length < 140737488355328 then (some (strOfNums (y162 ++ [(a0) % 256]), none)) else (none))) else (none))) else (none))) else (none))) else (none)) else (if t109 = 4 then (if y113.length < 140737488355328 then ((some (y113 ++ [(a0 / 16777216) % 256] : List Int)).bind fun y168 => (if y168.length < 140737488355328 then ((some (y168 ++ [(a0 / 65536) % 256] : List Int)).bind fun y171 => (if y171.length < 140737488355328 then ((some (y171 ++ [(a0 / 256) % 256] : List Int)).bind fun y174 => (if y174.length < 140737488355328 then (some (strOfNums (y174 ++ [(a0) % 256]), none)) else (none))) else (none))) else (none))) else (none)) else (if t109 = 3 then (if y113.length < 140737488355328 then ((some (y113 ++ [(a0 / 65536) % 256] : List Int)).bind fun y180 => (if y180.length < 140737488355328 then ((some (y180 ++ [(a0 / 256) % 256] : List Int)).bind fun y183 => (if y183.length < 140737488355328 then (some (strOfNums (y183 ++ [(a0) % 256]), none)) else (none))) else (none))) else (none)) else (if t109 = 2 then (if y113.length < 140737488355328 then ((some (y113 ++ [(a0 / 256) % 256] : List Int)).bind fun y189 => (if y189.length < 140737488355328 then (some (strOfNums (y189 ++ [(a0) % 256]), none)) else (none))) else (none)) else (if t109 = 1 then (if y113.length < 140737488355328 then (some (strOfNums (y113 ++ [(a0) % 256]), none)) else (none)) else (some (strOfNums y113, none)))))))))) else (none))) else (none)) = some (r1, r2) := H
    have A5 := Aside0.mk A50
    clear A50
    by_cases c6 : 1 ≤ 281474976710656
    ·
     rw [if_pos c6] at H
     have c6b0 := eq_true c6
     have c6b1 : decide (1 ≤ 281474976710656) = true := decide_eq_true c6
     clear c6
     obtain ⟨y110, hy110⟩ : ∃ y_ : List Int, y_ = (List.replicate 1 0) := ⟨_, rfl⟩
     replace H : (if 0 < (y110.length : Int) then ((some (y110.set (0 : Int).toNat ((t109) % 256) : List Int)).bind fun y113 => (if t109 = 7 then (if y113.length < 140737488355328 then ((some (y113 ++ [(a0 / 281474976710656) % 256] : List Int)).bind fun y114 => (if y114.length < 140737488355328 then ((some (y114 ++ [(a0 / 1099511627776) % 256] : List Int)).bind fun y117 => (if y117.length < 140737488355328 then ((some (y117 ++ [(a0 / 4294967296) % 256] : List Int)).bind fun y120 => (if y120.length < 140737488355328 then ((some (y120 ++ [(a0 / 16777216) % 256] : List Int)).bind fun y123 => (if y123.length < 140737488355328 then ((some (y123 ++ [(a0 / 65536) % 256] : List Int)).bind fun y126 => (if y126.length < 140737488355328 then ((some (y126 ++ [(a0 / 256) % 256] : List Int)).bind fun y129 => (if y129.length < 140737488355328 then (some (strOfNums (y129 ++ [(a0) % 256]), none)) else (none))) else (none))) else (none))) else (none))) else (none))) else (none))) else (none)) else (if t109 = 6 then (if y113.length < 140737488355328 then ((some (y113 ++ [(a0 / 1099511627776) % 256] : List Int)).bind fun y135 => (if y135.length < 140737488355328 then ((some (y135 ++ [(a0 / 4294967296) % 256] : List Int)).bind fun y138 => (if y138.length < 140737488355328 then ((some (y138 ++ [(a0 / 16777216) % 256] : List Int)).bind fun y141 => (if y141.length < 140737488355328 then ((some (y141 ++ [(a0 / 65536) % 256] : List Int)).bind fun y144 => (if y144.length < 140737488355328 then ((some (y144 ++ [(a0 / 256) % 256] : List Int)).bind fun y147 => (if y147.length < 140737488355328 then (some (strOfNums (y147 ++ [(a0) % 256]), none)) else (none))) else (none))) else (none))) else (none))) else (none))) else (none)) else (if t109 = 5 then (if y113.length < 140737488355328 then ((some (y113 ++ [(a0 / 4294967296) % 256] : List Int)).bind fun y153 => (if y153.length < 140737488355328 then ((some (y153 ++ [(a0 / 16777216) % 256] : List Int)).bind fun y156 => (if y156.length < 140737488355328 then ((some (y156 ++ [(a0 / 65536) % 256] : List Int)).bind fun y159 => (if y159.length < 140737488355328 then ((some (y159 ++ [(a0 / 256) % 256] : List Int)).bind fun y162 => (if y162.length < 140737488355328 then (some (strOfNums (y162 ++ [(a0) % 256]), none)) else (none))) else (none))) else (none))) else (none))) else (none)) else (if t109 = 4 then (if y113.length < 140737488355328 then ((some (y113 ++ [(a0 / 16777216) % 256] : List Int)).bind fun y168 => (if y168.length < 140737488355328 then ((some (y168 ++ [(a0 / 65536) % 256] : List Int)).bind fun y171 => (if y171.length < 140737488355328 then ((some (y171 ++ [(a0 / 256) % 256] : List Int)).bind fun y174 => (if y174.length < 140737488355328 then (some (strOfNums (y174 ++ [(a0) % 256]), none)) else (none))) else (none))) else (none))) else (none)) else (if t109 = 3 then (if y113.length < 140737488355328 then ((some (y113 ++ [(a0 / 65536) % 256] : List Int)).bind fun y180 => (if y180.length < 140737488355328 then ((some (y180 ++ [(a0 / 256) % 256] : List Int)).bind fun y183 => (if y183.length < 140737488355328 then (some (strOfNums (y183 ++ [(a0) % 256]), none)) else (none))) else (none))) else (none)) else (if t109 = 2 then (if y113.length < 140737488355328 then ((some (y113 ++ [(a0 / 256) % 256] : List Int)).bind fun y189 => (if y189.length < 140737488355328 then (some (strOfNums (y189 ++ [(a0) % 256]), none)) else (none))) else (none)) else (if t109 = 1 then (if y113.length < 140737488355328 then (some (strOfNums (y113 ++ [(a0) % 256]), none)) else (none)) else (some (strOfNums y113, none)))))))))) else (none)) = some (r1, r2) := by first | (rw [hy110]; with_reducible exact H) | (have H2_ := (Option.bind_some _ _).symm.trans H; rw [hy110]; with_reducible exact H2_) | (have H2_ := (Option.bind_some _ _).symm.trans H; with_reducible exact H2_) | with_reducible exact H | (rw [hy110]; exact H) | exact H
     have Ny110 := Aside0.mk hy110
     clear hy110
     by_cases c7 : 0 < (y110.length : Int)
     ·
      rw [if_pos c7] at H
      have c7b0 : decide (0 < (y110.length : Int)) = true := decide_eq_true c7
      have c7b1 : decide (0 < y110.length) = true := decide_eq_true (by omega)
      clear c7
      obtain ⟨y113, hy113⟩ : ∃ y_ : List Int, y_ = (y110.set (0 : Int).toNat ((t109) % 256)) := ⟨_, rfl⟩
      replace H : (if t109 = 7 then (if y113.length < 140737488355328 then ((some (y113 ++ [(a0 / 281474976710656) % 256] : List Int)).bind fun y114 => (if y114.length < 140737488355328 then ((some (y114 ++ [(a0 / 1099511627776) % 256] : List Int)).bind fun y117 => (if y117.length < 140737488355328 then ((some (y117 ++ [(a0 / 4294967296) % 256] : List Int)).bind fun y120 => (if y120.length < 140737488355328 then ((some (y120 ++ [(a0 / 16777216) % 256] : List Int)).bind fun y123 => (if y123.length < 140737488355328 then ((some (y123 ++ [(a0 / 65536) % 256] : List Int)).bind fun y126 => (if y126.length < 140737488355328 then ((some (y126 ++ [(a0 / 256) % 256] : List Int)).bind fun y129 => (if y129.length < 140737488355328 then (some (strOfNums (y129 ++ [(a0) % 256]), none)) else (none))) else (none))) else (none))) else (none))) else (none))) else (none))) else (none)) else (if t109 = 6 then (if y113.length < 140737488355328 then ((some (y113 ++ [(a0 / 1099511627776) % 256] : List Int)).bind fun y135 => (if y135.length < 140737488355328 then ((some (y135 ++ [(a0 / 4294967296) % 256] : List Int)).bind fun y138 => (if y138.length < 140737488355328 then ((some (y138 ++ [(a0 / 16777216) % 256] : List Int)).bind fun y141 => (if y141.length < 140737488355328 then ((some (y141 ++ [(a0 / 65536) % 256] : List Int)).bind fun y144 => (if y144.length < 140737488355328 then ((some (y144 ++ [(a0 / 256) % 256] : List Int)).bind fun y147 => (if y147.length < 140737488355328 then (some (strOfNums (y147 ++ [(a0) % 256]), none)) else (none))) else (none))) else (none))) else (none))) else (none))) else (none)) else (if t109 = 5 then (if y113.length < 140737488355328 then ((some (y113 ++ [(a0 / 4294967296) % 256] : List Int)).bind fun y153 => (if y153.length < 140737488355328 then ((some (y153 ++ [(a0 / 16777216) % 256] : List Int)).bind fun y156 => (if y156.length < 140737488355328 then ((some (y156 ++ [(a0 / 65536) % 256] : List Int)).bind fun y159 => (if y159.length < 140737488355328 then ((some (y159 ++ [(a0 / 256) % 256] : List Int)).bind fun y162 => (if y162.length < 140737488355328 then (some (strOfNums (y162 ++ [(a0) % 256]), none)) else (none))) else (none))) else (none))) else (none))) else (none)) else (if t109 = 4 then (if y113.length < 140737488355328 then ((some (y113 ++ [(a0 / 16777216) % 256] : List Int)).bind fun y168 => (if y168.length < 140737488355328 then ((some (y168 ++ [(a0 / 65536) % 256] : List Int)).bind fun y171 => (if y171.length < 140737488355328 then ((some (y171 ++ [(a0 / 256) % 256] : List Int)).bind fun y174 => (if y174.length < 140737488355328 then (some (strOfNums (y174 ++ [(a0) % 256]), none)) else (none))) else (none))) else (none))) else (none)) else (if t109 = 3 then (if y113.length < 140737488355328 then ((some (y113 ++ [(a0 / 65536) % 256] : List Int)).bind fun y180 => (if y180.length < 140737488355328 then ((some (y180 ++ [(a0 / 256) % 256] : List Int)).bind fun y183 => (if y183.length < 140737488355328 then (some (strOfNums (y183 ++ [(a0) % 256]), none)) else (none))) else (none))) else (none)) else (if t109 = 2 then (if y113.length < 140737488355328 then ((some (y113 ++ [(a0 / 256) % 256] : List Int)).bind fun y189 => (if y189.length < 140737488355328 then (some (strOfNums (y189 ++ [(a0) % 256]), none)) else (none))) else (none)) else (if t109 = 1 then (if y113.length < 140737488355328 then (some (strOfNums (y113 ++ [(a0) % 256]), none)) else (none)) else (some (strOfNums y113, none))))))))) = some (r1, r2) := by first | (rw [hy113]; with_reducible exact H) | (have H2_ := (Option.bind_some _ _).symm.trans H; rw [hy113]; with_reducible exact H2_) | (have H2_ := (Option.bind_some _ _).symm.trans H; with_reducible exact H2_) | with_reducible exact H | (rw [hy113]; exact H) | exact H
      have Ny113 := Aside0.mk hy113
      clear hy113
      by_cases c9 : t109 = 7
      ·
       rw [if_pos c9] at H
       have c9b0 : (t109 == 7) = true := beq_iff_eq.mpr c9
       have c9b1 : (t109 != 7) = false := bne_eq_false_iff_eq.mpr c9
       clear c9
       by_cases c10 : y113.length < 140737488355328
       ·
        rw [if_pos c10] at H
        have LMc10 := Aside0.mk c10
        clear c10
        obtain ⟨y114, hy114⟩ : ∃ y_ : List Int, y_ = (y113 ++ [(a0 / 281474976710656) % 256]) := ⟨_, rfl⟩
        replace H : (if y114.length < 140737488355328 then ((some (y114 ++ [(a0 / 1099511627776) % 256] : List Int)).bind fun y117 => (if y117.length < 140737488355328 then ((some (y117 ++ [(a0 / 4294967296) % 256] : List Int)).bind fun y120 => (if y120.length < 140737488355328 then ((some (y120 ++ [(a0 / 16777216) % 256] : List Int)).bind fun y123 => (if y123.length < 140737488355328 then ((some (y123 ++ [(a0 / 65536) % 256] : List Int)).bind fun y126 => (if y126.length < 140737488355328 then ((some (y126 ++ [(a0 / 256) % 256] : List Int)).bind fun y129 => (if y129.length < 140737488355328 then (some (strOfNums (y129 ++ [(a0) % 256]), none)) else (none))) else (none))) else (none))) else (none))) else (none))) else (none)) = some (r1, r2) := by first | (rw [hy114]; with_reducible exact H) | (have H2_ := (Option.bind_some _ _).symm.trans H; rw [hy114]; with_reducible exact H2_) | (have H2_ := (Option.bind_some _ _).symm.trans H; with_reducible exact H2_) | with_reducible exact H | (rw [hy114]; exact H) | exact H
        have Ny114 := Aside0.mk hy114
        clear hy114
        by_cases c11 : y114.length < 140737488355328
        ·
         rw [if_pos c11] at H
         have LMc11 := Aside0.mk c11
         clear c11
         obtain ⟨y117, hy117⟩ : ∃ y_ : List Int, y_ = (y114 ++ [(a0 / 1099511627776) % 256]) := ⟨_, rfl⟩
         replace H : (if y117.length < 140737488355328 then ((some (y117 ++ [(a0 / 4294967296) % 256] : List Int)).bind fun y120 => (if y120.length < 140737488355328 then ((some (y120 ++ [(a0 / 16777216) % 256] : List Int)).bind fun y123 => (if y123.length < 140737488355328 then ((some (y123 ++ [(a0 / 65536) % 256] : List Int)).bind fun y126 => (if y126.length < 140737488355328 then ((some (y126 ++ [(a0 / 256) % 256] : List Int)).bind fun y129 => (if y129.length < 140737488355328 then (some (strOfNums (y129 ++ [(a0) % 256]), none)) else (none))) else (none))) else (none))) else (none))) else (none)) = some (r1, r2) := by first | (rw [hy117]; with_reducible exact H) | (have H2_ := (Option.bind_some _ _).symm.trans H; rw [hy117]; with_reducible exact H2_) | (have H2_ := (Option.bind_some _ _).symm.trans H; with_reducible exact H2_) | with_reducible exact H | (rw [hy117]; exact H) | exact H
         have Ny117 := Aside0.mk hy117
         clear hy117
         by_cases c12 : y117.length < 140737488355328
         ·
          rw [if_pos c12] at H
          have LMc12 := Aside0.mk c12
          clear c12
          obtain ⟨y120, hy120⟩ : ∃ y_ : List Int, y_ = (y117 ++ [(a0 / 4294967296) % 256]) := ⟨_, rfl⟩
          replace H : (if y120.length < 140737488355328 then ((some (y120 ++ [(a0 / 16777216) % 256] : List Int)).bind fun y123 => (if y123.length < 140737488355328 then ((some (y123 ++ [(a0 / 65536) % 256] : List Int)).bind fun y126 => (if y126.length < 140737488355328 then ((some (y126 ++ [(a0 / 256) % 256] : List Int)).bind fun y129 => (if y129.length < 140737488355328 then (some (strOfNums (y129 ++ [(a0) % 256]), none)) else (none))) else (none))) else (none))) else (none)) = some (r1, r2) := by first | (rw [hy120]; with_reducible exact H) | (have H2_ := (Option.bind_some _ _).symm.trans H; rw [hy120]; with_reducible exact H2_) | (have H2_ := (Option.bind_some _ _).symm.trans H; with_reducible exact H2_) | with_reducible exact H | (rw [hy120]; exact H) | exact H
          have Ny120 := Aside0.mk hy120
          clear hy120
          by_cases c13 : y120.length < 140737488355328
          ·
           rw [if_pos c13] at H
           have LMc13 := Aside0.mk c13
           clear c13
           obtain ⟨y123, hy123⟩ : ∃ y_ : List Int, y_ = (y120 ++ [(a0 / 16777216) % 256]) := ⟨_, rfl⟩
           replace H : (if y123.length < 140737488355328 then ((some (y123 ++ [(a0 / 65536) % 256] : List Int)).bind fun y126 => (if y126.length < 140737488355328 then ((some (y126 ++ [(a0 / 256) % 256] : List Int)).bind fun y129 => (if y129.length < 140737488355328 then (some (strOfNums (y129 ++ [(a0) % 256]), none)) else (none))) else (none))) else (none)) = some (r1, r2) := by first | (rw [hy123]; with_reducible exact H) | (have H2_ := (Option.bind_some _ _).symm.trans H; rw [hy123]; with_reducible exact H2_) | (have H2_ := (Option.bind_some _ _).symm.trans H; with_reducible exact H2_) | with_reducible exact H | (rw [hy123]; exact H) | exact H
           have Ny123 := Aside0.mk hy123
           clear hy123
           by_cases c14 : y123.length < 140737488355328
           ·
            rw [if_pos c14] at H
            have LMc14 := Aside0.mk c14
            clear c14
            obtain ⟨y126, hy126⟩ : ∃ y_ : List Int, y_ = (y123 ++ [(a0 / 65536) % 256]) := ⟨_, rfl⟩
            replace H : (if y126.length < 140737488355328 then ((some (y126 ++ [(a0 / 256) % 256] : List Int)).bind fun y129 => (if y129.length < 140737488355328 then (some (strOfNums (y129 ++ [(a0) % 256]), none)) else (none))) else (none)) = some (r1, r2) := by first | (rw [hy126]; with_reducible exact H) | (have H2_ := (Option.bind_some _ _).symm.trans H; rw [hy126]; with_reducible exact H2_) | (have H2_ := (Option.bind_some _ _).symm.trans H; with_reducible exact H2_) | with_reducible exact H | (rw [hy126]; exact H) | exact H
            have Ny126 := Aside0.mk hy126
            clear hy126
            by_cases c15 : y126.length < 140737488355328
            ·
             rw [if_pos c15] at H
             have LMc15 := Aside0.mk c15
             clear c15
             obtain ⟨y129, hy129⟩ : ∃ y_ : List Int, y_ = (y126 ++ [(a0 / 256) % 256]) := ⟨_, rfl⟩
             replace H : (if y129.length < 140737488355328 then (some (strOfNums (y129 ++ [(a0) % 256]), none)) else (none)) = some (r1, r2) := by first | (rw [hy129]; with_reducible exact H) | (have H2_ := (Option.bind_some _ _).symm.trans H; rw [hy129]; with_reducible exact H2_) | (have H2_ := (Option.bind_some _ _).symm.trans H; with_reducible exact H2_) | with_reducible exact H | (rw [hy129]; exact H) | exact H
             have Ny129 := Aside0.mk hy129
             clear hy129
             by_cases c16 : y129.length < 140737488355328
             ·
              rw [if_pos c16] at H
              have LMc16 := Aside0.mk c16
              clear c16
              obtain ⟨y132, hy132⟩ : ∃ y_ : List Int, y_ = (y129 ++ [(a0) % 256]) := ⟨_, rfl⟩
              replace H : (some (strOfNums y132, none)) = some (r1, r2) := by first | (rw [hy132]; with_reducible exact H) | (have H2_ := (Option.bind_some _ _).symm.trans H; rw [hy132]; with_reducible exact H2_) | (have H2_ := (Option.bind_some _ _).symm.trans H; with_reducible exact H2_) | with_reducible exact H | (rw [hy132]; exact H) | exact H
              have Ny132 := Aside0.mk hy132
              clear hy132
              simp only [Option.some.injEq, Prod.mk.injEq] at H
              obtain ⟨rfl, rfl⟩ := H
              go_wp2_with (first | ((with_reducible refine gate_callee (f := 30) rfl ?_); refine goesL_ (some 14) rfl rfl Try.func30 (by kernel_rfl) rfl #[.int .i64 a0] rfl (by (try simp only [List.map_toArray, List.map_cons, List.map_nil]); first | done | rfl | (simp only [List.length_drop, List.length_take]; rfl)) ?_; (with_reducible refine (pack_size.calls kj1 a0 t109 _ A5.out).mono ?_); rintro e w' ⟨rfl, ⟨nd, rfl⟩⟩; refine ⟨_, rfl, ?_⟩; (try (rw [drewN_self wc]; generalize hq_ : World.drewN wc _ = wc; have n0_ : Aside0 (Below w.heap.size w wc) := ⟨by rw [← hq_]; exact (Yr HB)⟩; clear HB hq_; have HB := n0_; clear n0_))) | ((with_reducible refine gate_dst (N := 15) rfl ?_); refine Go.Proofs.YtnmlnngmfagmfaaX.R_make_cap (Kd.int .u8) _ 5 rfl (N := 15) rfl 47 _ _ rfl 1 8 rfl rfl Try.underlying47 (.int .u8 0) 1 info5 rfl (by decide) (by omega) 0 (ok := fun _ => True) (okp := fun _ => True) rfl (fun _ hk => hk) trivial (by omega) (by omega) (by omega) (Below.refl _ _) (Nat.le_refl _) ?_; intro v111 w17 ho18 hb hg_ hnew_; clear hg_ hnew_; (first | rw [← Ny110.out] at ho18 | (simp only [Int.reduceToNat] at ho18; rw [← Ny110.out] at ho18)); have n0_ := Aside0.mk (Kd.R_lower ho18 (below_size (Yr HB))); have n1_ := Aside0.mk (Yv HB hb); clear HB; have HO112 := n0_; have HB := n1_; clear n0_ n1_; clear hb ho18; have p8 : 0 ≤ (0 : Int) := (by omega); have q8 : (0 : Int) < ((y110.length : Int) : Int) := of_decide_eq_true (by first | (with_reducible assumption) | assumption); have qi8 : (0 < y110.length) = True := eq_true (by omega); obtain ⟨go8, co8, eo8, gb8, gl8, cl8, HG8⟩ := Kd.R_form HO112.out (by omega); (first | cases eo8 | (injection eo8 with ea_ en_ ec_; (first | subst ea_ | (injection ea_ with ea_; subst ea_)); subst ec_; clear en_)); have GB8 := Aside0.mk gb8; have GG8 := Aside0.mk HG8; clear gb8 gl8 HG8; obtain ⟨hx8_0, hf8_0⟩ := Kd.R_celln 0 HO112.out (0 : Int) p8 q8; (try rw [show ((0 : Int)).toNat = 0 from rfl] at hx8_0); (try simp only [Nat.reduceMul, Nat.zero_mul, Nat.zero_add, Nat.reduceAdd] at hx8_0); (try rw [show ((0 : Int)).toNat = 0 from rfl] at hf8_0); (try simp only [Nat.reduceMul, Nat.zero_mul, Nat.zero_add, Nat.reduceAdd] at hf8_0); replace p8 := eq_true p8; replace q8 := eq_true q8; obtain ⟨hy19_, hz19_⟩ := Kd.R_celln 0 HO112.out (0 : Int) (by omega) (of_decide_eq_true (by first | (with_reducible assumption) | assumption)); (try simp only [Int.reduceToNat, Int.toNat_zero, Int.toNat_ofNat, Nat.reduceMul, Nat.zero_mul, Nat.zero_add] at hy19_ hz19_); (try rw [show ((0 : Int)).toNat = 0 from rfl] at hy19_); (try rw [show ((0 : Int)).toNat = 0 from rfl] at hz19_); have HP19 := Kd.R_putg HO112.out (0 : Int) ((t109) % 256)) | ((with_reducible refine gate_store (t := 5) (p := 19) rfl ?_); refine store_event (t := 5) (p := 19) (v := ?vo_w20) (w1 := (w17.setCell ⟨go8, (0 : Int).toNat, none⟩ (.int .u8 ((t109) % 256)))) ?hg ?ho ?hn ?hr ?_; (case ho => rfl); (case hg => rfl); (case hn => rfl); (case hr => first | (go_simp; done) | (go_simp; rfl)); intro w20 hw; have hg : w17.grownBy w20 (some go8) := (by rw [hw]; exact HP19.2); have hp_ : Kd.R (Kd.int .u8) 5 w20 w.heap.size (fun _ => True) (.slice (some ⟨go8, 0, none⟩) y110.length co8) y113 := (by rw [hw, Ny113.out]; exact HP19.1); clear HP19; have n0_ := Aside0.mk (hp_); have n1_ := Aside0.mk ((by rw [hw]; exact Ys (HB.out) GB8.out : Below w.heap.size w w20)); clear HO112; clear HB; have HO112 := n0_; have HB := n1_; clear n0_ n1_; clear hg hw hp_) | ((with_reducible refine gate_builtin (b := .append) (xs := #[.tmp 35, .tmp 39]) rfl ?_); at_builtin; refine Kd.R_append (Kd.int .u8) (w0 := w) w.heap.size rfl (.tmp 35) (.tmp 39) 47 5 (.int .u8 0) 1 rfl Try.underlying47 info5 rfl (by decide) (by omega) (.slice (some ⟨go8, 0, none⟩) y110.length co8) y113 ((a0 / 281474976710656) % 256) [.int .u8 ((a0 / 281474976710656) % 256)] (fun _ => True) (fun _ => False) rfl rfl ?aP (fun _ hk => hk.elim) ?aF ?aO ?aB ?aS ?aL ?_; (case aP => exact rfl); (case aB => exact (Yr HB)); (case aF => exact (fun _ _ => trivial)); (case aO => exact (by (with_reducible repeat (first | apply Kd.R_alloc | apply Kd.R_drewN | apply Kd.R_drew)); exact HO112.out)); (case aS => exact (below_size (Yr HB))); (case aL => have := LMc10.out; omega); intro v115 w21 ho hb hg hat; rw [← Ny114.out] at ho; have n0_ := Aside0.mk (hb); have n1_ := Aside0.mk (ho); clear HB; clear HO112; have HB := n0_; have HO116 := n1_; clear n0_ n1_; clear ho hb hg hat) | ((with_reducible refine gate_builtin (b := .append) (xs := #[.tmp 41, .tmp 45]) rfl ?_); at_builtin; refine Kd.R_append (Kd.int .u8) (w0 := w) w.heap.size rfl (.tmp 41) (.tmp 45) 47 5 (.int .u8 0) 1 rfl Try.underlying47 info5 rfl (by decide) (by omega) v115 y114 ((a0 / 1099511627776) % 256) [.int .u8 ((a0 / 1099511627776) % 256)] (fun _ => True) (fun _ => False) rfl rfl ?aP (fun _ hk => hk.elim) ?aF ?aO ?aB ?aS ?aL ?_; (case aP => exact rfl); (case aB => exact (Yr HB)); (case aF => exact (fun _ _ => trivial)); (case aO => exact (by (with_reducible repeat (first | apply Kd.R_alloc | apply Kd.R_drewN | apply Kd.R_drew)); exact HO116.out)); (case aS => exact (below_size (Yr HB))); (case aL => have := LMc11.out; omega); intro v118 w22 ho hb hg hat; rw [← Ny117.out] at ho; have n0_ := Aside0.mk (hb); have n1_ := Aside0.mk (ho); clear HB; clear HO116; have HB := n0_; have HO119 := n1_; clear n0_ n1_; clear ho hb hg hat) | ((with_reducible refine gate_builtin (b := .append) (xs := #[.tmp 47, .tmp 51]) rfl ?_); at_builtin; refine Kd.R_append (Kd.int .u8) (w0 := w) w.heap.size rfl (.tmp 47) (.tmp 51) 47 5 (.int .u8 0) 1 rfl Try.underlying47 info5 rfl (by decide) (by omega) v118 y117 ((a0 / 4294967296) % 256) [.int .u8 ((a0 / 4294967296) % 256)] (fun _ => True) (fun _ => False) rfl rfl ?aP (fun _ hk => hk.elim) ?aF ?aO ?aB ?aS ?aL ?_; (case aP => exact rfl); (case aB => exact (Yr HB)); (case aF => exact (fun _ _ => trivial)); (case aO => exact (by (with_reducible repeat (first | apply Kd.R_alloc | apply Kd.R_drewN | apply Kd.R_drew)); exact HO119.out)); (case aS => exact (below_size (Yr HB))); (case aL => have := LMc12.out; omega); intro v121 w23 ho hb hg hat; rw [← Ny120.out] at ho; have n0_ := Aside0.mk (hb); have n1_ := Aside0.mk (ho); clear HB; clear HO119; have HB := n0_; have HO122 := n1_; clear n0_ n1_; clear ho hb hg hat) | ((with_reducible refine gate_builtin (b := .append) (xs := #[.tmp 53, .tmp 57]) rfl ?_); at_builtin; refine Kd.R_append (Kd.int .u8) (w0 := w) w.heap.size rfl (.tmp 53) (.tmp 57) 47 5 (.int .u8 0) 1 rfl Try.underlying47 info5 rfl (by decide) (by omega) v121 y120 ((a0 / 16777216) % 256) [.int .u8 ((a0 / 16777216) % 256)] (fun _ => True) (fun _ => False) rfl rfl ?aP (fun _ hk => hk.elim) ?aF ?aO ?aB ?aS ?aL ?_; (case aP => exact rfl); (case aB => exact (Yr HB)); (case aF => exact (fun _ _ => trivial)); (case aO => exact (by (with_reducible repeat (first | apply Kd.R_alloc | apply Kd.R_drewN | apply Kd.R_drew)); exact HO122.out)); (case aS => exact (below_size (Yr HB))); (case aL => have := LMc13.out; omega); intro v124 w24 ho hb hg hat; rw [← Ny123.out] at ho; have n0_ := Aside0.mk (hb); have n1_ := Aside0.mk (ho); clear HB; clear HO122; have HB := n0_; have HO125 := n1_; clear n0_ n1_; clear ho hb hg hat) | ((with_reducible refine gate_builtin (b := .append) (xs := #[.tmp 59, .tmp 63]) rfl ?_); at_builtin; refine Kd.R_append (Kd.int .u8) (w0 := w) w.heap.size rfl (.tmp 59) (.tmp 63) 47 5 (.int .u8 0) 1 rfl Try.underlying47 info5 rfl (by decide) (by omega) v124 y123 ((a0 / 65536) % 256) [.int .u8 ((a0 / 65536) % 256)] (fun _ => True) (fun _ => False) rfl rfl ?aP (fun _ hk => hk.elim) ?aF ?aO ?aB ?aS ?aL ?_; (case aP => exact rfl); (case aB => exact (Yr HB)); (case aF => exact (fun _ _ => trivial)); (case aO => exact (by (with_reducible repeat (first | apply Kd.R_alloc | apply Kd.R_drewN | apply Kd.R_drew)); exact HO125.out)); (case aS => exact (below_size (Yr HB))); (case aL => have := LMc14.out; omega); intro v127 w25 ho hb hg hat; rw [← Ny126.out] at ho; have n0_ := Aside0.mk (hb); have n1_ := Aside0.mk (ho); clear HB; clear HO125; have HB := n0_; have HO128 := n1_; clear n0_ n1_; clear ho hb hg hat) | ((with_reducible refine gate_builtin (b := .append) (xs := #[.tmp 65, .tmp 69]) rfl ?_); at_builtin; refine Kd.R_append (Kd.int .u8) (w0 := w) w.heap.size rfl (.tmp 65) (.tmp 69) 47 5 (.int .u8 0) 1 rfl Try.underlying47 info5 rfl (by decide) (by omega) v127 y126 ((a0 / 256) % 256) [.int .u8 ((a0 / 256) % 256)] (fun _ => True) (fun _ => False) rfl rfl ?aP (fun _ hk => hk.elim) ?aF ?aO ?aB ?aS ?aL ?_; (case aP => exact rfl); (case aB => exact (Yr HB)); (case aF => exact (fun _ _ => trivial)); (case aO => exact (by (with_reducible repeat (first | apply Kd.R_alloc | apply Kd.R_drewN | apply Kd.R_drew)); exact HO128.out)); (case aS => exact (below_size (Yr HB))); (case aL => have := LMc15.out; omega); intro v130 w26 ho hb hg hat; rw [← Ny129.out] at ho; have n0_ := Aside0.mk (hb); have n1_ := Aside0.mk (ho); clear HB; clear HO128; have HB := n0_; have HO131 := n1_; clear n0_ n1_; clear ho hb hg hat) | ((with_reducible refine gate_builtin (b := .append) (xs := #[.tmp 71, .tmp 74]) rfl ?_); at_builtin; refine Kd.R_append (Kd.int .u8) (w0 := w) w.heap.size rfl (.tmp 71) (.tmp 74) 47 5 (.int .u8 0) 1 rfl Try.underlying47 info5 rfl (by decide) (by omega) v130 y129 ((a0) % 256) [.int .u8 ((a0) % 256)] (fun _ => True) (fun _ => False) rfl rfl ?aP (fun _ hk => hk.elim) ?aF ?aO ?aB ?aS ?aL ?_; (case aP => exact rfl); (case aB => exact (Yr HB)); (case aF => exact (fun _ _ => trivial)); (case aO => exact (by (with_reducible repeat (first | apply Kd.R_alloc | apply Kd.R_drewN | apply Kd.R_drew)); exact HO131.out)); (case aS => exact (below_size (Yr HB))); (case aL => have := LMc16.out; omega); intro v133 w27 ho hb hg hat; rw [← Ny132.out] at ho; have n0_ := Aside0.mk (hb); have n1_ := Aside0.mk (ho); clear HB; clear HO131; have HB := n0_; have HO134 := n1_; clear n0_ n1_; clear ho hb hg hat; have hcv28 := own_string (P := Try.prog) Try.underlying47 Try.underlying5 Try.underlying9 (Kd.own_of_R HO134.out)))
              go_ret2
              exact ⟨by first | rfl | (simp [errW_none, errW_some] <;> rfl) | (simp [*, errW_none, errW_some] <;> rfl), Yr HB⟩
             ·
              rw [if_neg c16] at H
              exact absurd H (by simp)
            ·
             rw [if_neg c15] at H
             exact absurd H (by simp)
           ·
            rw [if_neg c14] at H
            exact absurd H (by simp)
          ·
           rw [if_neg c13] at H
           exact absurd H (by simp)
         ·
          rw [if_neg c12] at H
          exact absurd H (by simp)
        ·
         rw [if_neg c11] at H
         exact absurd H (by simp)
       ·
        rw [if_neg c10] at H
        exact absurd H (by simp)
      ·
       rw [if_neg c9] at H
       have c9b0 : (t109 == 7) = false := beq_eq_false_iff_ne.mpr c9
       have c9b1 : (t109 != 7) = true := bne_iff_ne.mpr c9
       by_cases c29 : t109 = 6
       ·
        rw [if_pos c29] at H
        have c29b0 : (t109 == 6) = true := beq_iff_eq.mpr c29
        have c29b1 : (t109 != 6) = false := bne_eq_false_iff_eq.mpr c29
        clear c29
        by_cases c30 : y113.length < 140737488355328
        ·
         rw [if_pos c30] at H
         have LMc30 := Aside0.mk c30
         clear c30
         obtain ⟨y135, hy135⟩ : ∃ y_ : List Int, y_ = (y113 ++ [(a0 / 1099511627776) % 256]) := ⟨_, rfl⟩
         replace H : (if y135.length < 140737488355328 then ((some (y135 ++ [(a0 / 4294967296) % 256] : List Int)).bind fun y138 => (if y138.length < 140737488355328 then ((some (y138 ++ [(a0 / 16777216) % 256] : List Int)).bind fun y141 => (if y141.length < 140737488355328 then ((some (y141 ++ [(a0 / 65536) % 256] : List Int)).bind fun y144 => (if y144.length < 140737488355328 then ((some (y144 ++ [(a0 / 256) % 256] : List Int)).bind fun y147 => (if y147.length < 140737488355328 then (some (strOfNums (y147 ++ [(a0) % 256]), none)) else (none))) else (none))) else (none))) else (none))) else (none)) = some (r1, r2) := by first | (rw [hy135]; with_reducible exact H) | (have H2_ := (Option.bind_some _ _).symm.trans H; rw [hy135]; with_reducible exact H2_) | (have H2_ := (Option.bind_some _ _).symm.trans H; with_reducible exact H2_) | with_reducible exact H | (rw [hy135]; exact H) | exact H
         have Ny135 := Aside0.mk hy135
         clear hy135
         by_cases c31 : y135.length < 140737488355328
         ·
          rw [if_pos c31] at H
          have LMc31 := Aside0.mk c31
          clear c31
          obtain ⟨y138, hy138⟩ : ∃ y_ : List Int, y_ = (y135 ++ [(a0 / 4294967296) % 256]) := ⟨_, rfl⟩
          replace H : (if y138.length < 140737488355328 then ((some (y138 ++ [(a0 / 16777216) % 256] : List Int)).bind fun y141 => (if y141.length < 140737488355328 then ((some (y141 ++ [(a0 / 65536) % 256] : List Int)).bind fun y144 => (if y144.length < 140737488355328 then ((some (y144 ++ [(a0 / 256) % 256] : List Int)).bind fun y147 => (if y147.length < 140737488355328 then (some (strOfNums (y147 ++ [(a0) % 256]), none)) else (none))) else (none))) else (none))) else (none)) = some (r1, r2) := by first | (rw [hy138]; with_reducible exact H) | (have H2_ := (Option.bind_some _ _).symm.trans H; rw [hy138]; with_reducible exact H2_) | (have H2_ := (Option.bind_some _ _).symm.trans H; with_reducible exact H2_) | with_reducible exact H | (rw [hy138]; exact H) | exact H
          have Ny138 := Aside0.mk hy138
          clear hy138
          by_cases c32 : y138.length < 140737488355328
          ·
           rw [if_pos c32] at H
           have LMc32 := Aside0.mk c32
           clear c32
           obtain ⟨y141, hy141⟩ : ∃ y_ : List Int, y_ = (y138 ++ [(a0 / 16777216) % 256]) := ⟨_, rfl⟩
           replace H : (if y141.length < 140737488355328 then ((some (y141 ++ [(a0 / 65536) % 256] : List Int)).bind fun y144 => (if y144.length < 140737488355328 then ((some (y144 ++ [(a0 / 256) % 256] : List Int)).bind fun y147 => (if y147.length < 140737488355328 then (some (strOfNums (y147 ++ [(a0) % 256]), none)) else (none))) else (none))) else (none)) = some (r1, r2) := by first | (rw [hy141]; with_reducible exact H) | (have H2_ := (Option.bind_some _ _).symm.trans H; rw [hy141]; with_reducible exact H2_) | (have H2_ := (Option.bind_some _ _).symm.trans H; with_reducible exact H2_) | with_reducible exact H | (rw [hy141]; exact H) | exact H
           have Ny141 := Aside0.mk hy141
           clear hy141
           by_cases c33 : y141.length < 140737488355328
           ·
            rw [if_pos c33] at H
            have LMc33 := Aside0.mk c33
            clear c33
            obtain ⟨y144, hy144⟩ : ∃ y_ : List Int, y_ = (y141 ++ [(a0 / 65536) % 256]) := ⟨_, rfl⟩
            replace H : (if y144.length < 140737488355328 then ((some (y144 ++ [(a0 / 256) % 256] : List Int)).bind fun y147 => (if y147.length < 140737488355328 then (some (strOfNums (y147 ++ [(a0) % 256]), none)) else (none))) else (none)) = some (r1, r2) := by first | (rw [hy144]; with_reducible exact H) | (have H2_ := (Option.bind_some _ _).symm.trans H; rw [hy144]; with_reducible exact H2_) | (have H2_ := (Option.bind_some _ _).symm.trans H; with_reducible exact H2_) | with_reducible exact H | (rw [hy144]; exact H) | exact H
            have Ny144 := Aside0.mk hy144
            clear hy144
            by_cases c34 : y144.length < 140737488355328
            ·
             rw [if_pos c34] at H
             have LMc34 := Aside0.mk c34
             clear c34
             obtain ⟨y147, hy147⟩ : ∃ y_ : List Int, y_ = (y144 ++ [(a0 / 256) % 256]) := ⟨_, rfl⟩
             replace H : (if y147.length < 140737488355328 then (some (strOfNums (y147 ++ [(a0) % 256]), none)) else (none)) = some (r1, r2) := by first | (rw [hy147]; with_reducible exact H) | (have H2_ := (Option.bind_some _ _).symm.trans H; rw [hy147]; with_reducible exact H2_) | (have H2_ := (Option.bind_some _ _).symm.trans H; with_reducible exact H2_) | with_reducible exact H | (rw [hy147]; exact H) | exact H
             have Ny147 := Aside0.mk hy147
             clear hy147
             by_cases c35 : y147.length < 140737488355328
             ·
              rw [if_pos c35] at H
              have LMc35 := Aside0.mk c35
              clear c35
              obtain ⟨y150, hy150⟩ : ∃ y_ : List Int, y_ = (y147 ++ [(a0) % 256]) := ⟨_, rfl⟩
              replace H : (some (strOfNums y150, none)) = some (r1, r2) := by first | (rw [hy150]; with_reducible exact H) | (have H2_ := (Option.bind_some _ _).symm.trans H; rw [hy150]; with_reducible exact H2_) | (have H2_ := (Option.bind_some _ _).symm.trans H; with_reducible exact H2_) | with_reducible exact H | (rw [hy150]; exact H) | exact H
              have Ny150 := Aside0.mk hy150
              clear hy150
              simp only [Option.some.injEq, Prod.mk.injEq] at H
              obtain ⟨rfl, rfl⟩ := H
              go_wp2_with (first | ((with_reducible refine gate_callee (f := 30) rfl ?_); refine goesL_ (some 14) rfl rfl Try.func30 (by kernel_rfl) rfl #[.int .i64 a0] rfl (by (try simp only [List.map_toArray, List.map_cons, List.map_nil]); first | done | rfl | (simp only [List.length_drop, List.length_take]; rfl)) ?_; (with_reducible refine (pack_size.calls kj1 a0 t109 _ A5.out).mono ?_); rintro e w' ⟨rfl, ⟨nd, rfl⟩⟩; refine ⟨_, rfl, ?_⟩; (try (rw [drewN_self wc]; generalize hq_ : World.drewN wc _ = wc; have n0_ : Aside0 (Below w.heap.size w wc) := ⟨by rw [← hq_]; exact (Yr HB)⟩; clear HB hq_; have HB := n0_; clear n0_))) | ((with_reducible refine gate_dst (N := 15) rfl ?_); refine Go.Proofs.YtnmlnngmfagmfaaX.R_make_cap (Kd.int .u8) _ 5 rfl (N := 15) rfl 47 _ _ rfl 1 8 rfl rfl Try.underlying47 (.int .u8 0) 1 info5 rfl (by decide) (by omega) 0 (ok := fun _ => True) (okp := fun _ => True) rfl (fun _ hk => hk) trivial (by omega) (by omega) (by omega) (Below.refl _ _) (Nat.le_refl _) ?_; intro v111 w36 ho37 hb hg_ hnew_; clear hg_ hnew_; (first | rw [← Ny110.out] at ho37 | (simp only [Int.reduceToNat] at ho37; rw [← Ny110.out] at ho37)); have n0_ := Aside0.mk (Kd.R_lower ho37 (below_size (Yr HB))); have n1_ := Aside0.mk (Yv HB hb); clear HB; have HO112 := n0_; have HB := n1_; clear n0_ n1_; clear hb ho37; have p8 : 0 ≤ (0 : Int) := (by omega); have q8 : (0 : Int) < ((y110.length : Int) : Int) := of_decide_eq_true (by first | (with_reducible assumption) | assumption); have qi8 : (0 < y110.length) = True := eq_true (by omega); obtain ⟨go8, co8, eo8, gb8, gl8, cl8, HG8⟩ := Kd.R_form HO112.out (by omega); (first | cases eo8 | (injection eo8 with ea_ en_ ec_; (first | subst ea_ | (injection ea_ with ea_; subst ea_)); subst ec_; clear en_)); have GB8 := Aside0.mk gb8; have GG8 := Aside0.mk HG8; clear gb8 gl8 HG8; obtain ⟨hx8_0, hf8_0⟩ := Kd.R_celln 0 HO112.out (0 : Int) p8 q8; (try rw [show ((0 : Int)).toNat = 0 from rfl] at hx8_0); (try simp only [Nat.reduceMul, Nat.zero_mul, Nat.zero_add, Nat.reduceAdd] at hx8_0); (try rw [show ((0 : Int)).toNat = 0 from rfl] at hf8_0); (try simp only [Nat.reduceMul, Nat.zero_mul, Nat.zero_add, Nat.reduceAdd] at hf8_0); replace p8 := eq_true p8; replace q8 := eq_true q8; obtain ⟨hy38_, hz38_⟩ := Kd.R_celln 0 HO112.out (0 : Int) (by omega) (of_decide_eq_true (by first | (with_reducible assumption) | assumption)); (try simp only [Int.reduceToNat, Int.toNat_zero, Int.toNat_ofNat, Nat.reduceMul, Nat.zero_mul, Nat.zero_add] at hy38_ hz38_); (try rw [show ((0 : Int)).toNat = 0 from rfl] at hy38_); (try rw [show ((0 : Int)).toNat = 0 from rfl] at hz38_); have HP38 := Kd.R_putg HO112.out (0 : Int) ((t109) % 256)) | ((with_reducible refine gate_store (t := 5) (p := 19) rfl ?_); refine store_event (t := 5) (p := 19) (v := ?vo_w39) (w1 := (w36.setCell ⟨go8, (0 : Int).toNat, none⟩ (.int .u8 ((t109) % 256)))) ?hg ?ho ?hn ?hr ?_; (case ho => rfl); (case hg => rfl); (case hn => rfl); (case hr => first | (go_simp; done) | (go_simp; rfl)); intro w39 hw; have hg : w36.grownBy w39 (some go8) := (by rw [hw]; exact HP38.2); have hp_ : Kd.R (Kd.int .u8) 5 w39 w.heap.size (fun _ => True) (.slice (some ⟨go8, 0, none⟩) y110.length co8) y113 := (by rw [hw, Ny113.out]; exact HP38.1); clear HP38; have n0_ := Aside0.mk (hp_); have n1_ := Aside0.mk ((by rw [hw]; exact Ys (HB.out) GB8.out : Below w.heap.size w w39)); clear HO112; clear HB; have HO112 := n0_; have HB := n1_; clear n0_ n1_; clear hg hw hp_) | ((with_reducible refine gate_builtin (b := .append) (xs := #[.tmp 41, .tmp 45]) rfl ?_); at_builtin; refine Kd.R_append (Kd.int .u8) (w0 := w) w.heap.size rfl (.tmp 41) (.tmp 45) 47 5 (.int .u8 0) 1 rfl Try.underlying47 info5 rfl (by decide) (by omega) (.slice (some ⟨go8, 0, none⟩) y110.length co8) y113 ((a0 / 1099511627776) % 256) [.int .u8 ((a0 / 1099511627776) % 256)] (fun _ => True) (fun _ => False) rfl rfl ?aP (fun _ hk => hk.elim) ?aF ?aO ?aB ?aS ?aL ?_; (case aP => exact rfl); (case aB => exact (Yr HB)); (case aF => exact (fun _ _ => trivial)); (case aO => exact (by (with_reducible repeat (first | apply Kd.R_alloc | apply Kd.R_drewN | apply Kd.R_drew)); exact HO112.out)); (case aS => exact (below_size (Yr HB))); (case aL => have := LMc30.out; omega); intro v136 w40 ho hb hg hat; rw [← Ny135.out] at ho; have n0_ := Aside0.mk (hb); have n1_ := Aside0.mk (ho); clear HB; clear HO112; have HB := n0_; have HO137 := n1_; clear n0_ n1_; clear ho hb hg hat) | ((with_reducible refine gate_builtin (b := .append) (xs := #[.tmp 47, .tmp 51]) rfl ?_); at_builtin; refine Kd.R_append (Kd.int .u8) (w0 := w) w.heap.size rfl (.tmp 47) (.tmp 51) 47 5 (.int .u8 0) 1 rfl Try.underlying47 info5 rfl (by decide) (by omega) v136 y135 ((a0 / 4294967296) % 256) [.int .u8 ((a0 / 4294967296) % 256)] (fun _ => True) (fun _ => False) rfl rfl ?aP (fun _ hk => hk.elim) ?aF ?aO ?aB ?aS ?aL ?_; (case aP => exact rfl); (case aB => exact (Yr HB)); (case aF => exact (fun _ _ => trivial)); (case aO => exact (by (with_reducible repeat (first | apply Kd.R_alloc | apply Kd.R_drewN | apply Kd.R_drew)); exact HO137.out)); (case aS => exact (below_size (Yr HB))); (case aL => have := LMc31.out; omega); intro v139 w41 ho hb hg hat; rw [← Ny138.out] at ho; have n0_ := Aside0.mk (hb); have n1_ := Aside0.mk (ho); clear HB; clear HO137; have HB := n0_; have HO140 := n1_; clear n0_ n1_; clear ho hb hg hat) | ((with_reducible refine gate_builtin (b := .append) (xs := #[.tmp 53, .tmp 57]) rfl ?_); at_builtin; refine Kd.R_append (Kd.int .u8) (w0 := w) w.heap.size rfl (.tmp 53) (.tmp 57) 47 5 (.int .u8 0) 1 rfl Try.underlying47 info5 rfl (by decide) (by omega) v139 y138 ((a0 / 16777216) % 256) [.int .u8 ((a0 / 16777216) % 256)] (fun _ => True) (fun _ => False) rfl rfl ?aP (fun _ hk => hk.elim) ?aF ?aO ?aB ?aS ?aL ?_; (case aP => exact rfl); (case aB => exact (Yr HB)); (case aF => exact (fun _ _ => trivial)); (case aO => exact (by (with_reducible repeat (first | apply Kd.R_alloc | apply Kd.R_drewN | apply Kd.R_drew)); exact HO140.out)); (case aS => exact (below_size (Yr HB))); (case aL => have := LMc32.out; omega); intro v142 w42 ho hb hg hat; rw [← Ny141.out] at ho; have n0_ := Aside0.mk (hb); have n1_ := Aside0.mk (ho); clear HB; clear HO140; have HB := n0_; have HO143 := n1_; clear n0_ n1_; clear ho hb hg hat) | ((with_reducible refine gate_builtin (b := .append) (xs := #[.tmp 59, .tmp 63]) rfl ?_); at_builtin; refine Kd.R_append (Kd.int .u8) (w0 := w) w.heap.size rfl (.tmp 59) (.tmp 63) 47 5 (.int .u8 0) 1 rfl Try.underlying47 info5 rfl (by decide) (by omega) v142 y141 ((a0 / 65536) % 256) [.int .u8 ((a0 / 65536) % 256)] (fun _ => True) (fun _ => False) rfl rfl ?aP (fun _ hk => hk.elim) ?aF ?aO ?aB ?aS ?aL ?_; (case aP => exact rfl); (case aB => exact (Yr HB)); (case aF => exact (fun _ _ => trivial)); (case aO => exact (by (with_reducible repeat (first | apply Kd.R_alloc | apply Kd.R_drewN | apply Kd.R_drew)); exact HO143.out)); (case aS => exact (below_size (Yr HB))); (case aL => have := LMc33.out; omega); intro v145 w43 ho hb hg hat; rw [← Ny144.out] at ho; have n0_ := Aside0.mk (hb); have n1_ := Aside0.mk (ho); clear HB; clear HO143; have HB := n0_; have HO146 := n1_; clear n0_ n1_; clear ho hb hg hat) | ((with_reducible refine gate_builtin (b := .append) (xs := #[.tmp 65, .tmp 69]) rfl ?_); at_builtin; refine Kd.R_append (Kd.int .u8) (w0 := w) w.heap.size rfl (.tmp 65) (.tmp 69) 47 5 (.int .u8 0) 1 rfl Try.underlying47 info5 rfl (by decide) (by omega) v145 y144 ((a0 / 256) % 256) [.int .u8 ((a0 / 256) % 256)] (fun _ => True) (fun _ => False) rfl rfl ?aP (fun _ hk => hk.elim) ?aF ?aO ?aB ?aS ?aL ?_; (case aP => exact rfl); (case aB => exact (Yr HB)); (case aF => exact (fun _ _ => trivial)); (case aO => exact (by (with_reducible repeat (first | apply Kd.R_alloc | apply Kd.R_drewN | apply Kd.R_drew)); exact HO146.out)); (case aS => exact (below_size (Yr HB))); (case aL => have := LMc34.out; omega); intro v148 w44 ho hb hg hat; rw [← Ny147.out] at ho; have n0_ := Aside0.mk (hb); have n1_ := Aside0.mk (ho); clear HB; clear HO146; have HB := n0_; have HO149 := n1_; clear n0_ n1_; clear ho hb hg hat) | ((with_reducible refine gate_builtin (b := .append) (xs := #[.tmp 71, .tmp 74]) rfl ?_); at_builtin; refine Kd.R_append (Kd.int .u8) (w0 := w) w.heap.size rfl (.tmp 71) (.tmp 74) 47 5 (.int .u8 0) 1 rfl Try.underlying47 info5 rfl (by decide) (by omega) v148 y147 ((a0) % 256) [.int .u8 ((a0) % 256)] (fun _ => True) (fun _ => False) rfl rfl ?aP (fun _ hk => hk.elim) ?aF ?aO ?aB ?aS ?aL ?_; (case aP => exact rfl); (case aB => exact (Yr HB)); (case aF => exact (fun _ _ => trivial)); (case aO => exact (by (with_reducible repeat (first | apply Kd.R_alloc | apply Kd.R_drewN | apply Kd.R_drew)); exact HO149.out)); (case aS => exact (below_size (Yr HB))); (case aL => have := LMc35.out; omega); intro v151 w45 ho hb hg hat; rw [← Ny150.out] at ho; have n0_ := Aside0.mk (hb); have n1_ := Aside0.mk (ho); clear HB; clear HO149; have HB := n0_; have HO152 := n1_; clear n0_ n1_; clear ho hb hg hat; have hcv46 := own_string (P := Try.prog) Try.underlying47 Try.underlying5 Try.underlying9 (Kd.own_of_R HO152.out)))
              go_ret2
              exact ⟨by first | rfl | (simp [errW_none, errW_some] <;> rfl) | (simp [*, errW_none, errW_some] <;> rfl), Yr HB⟩
             ·
              rw [if_neg c35] at H
              exact absurd H (by simp)
            ·
             rw [if_neg c34] at H
             exact absurd H (by simp)
           ·
            rw [if_neg c33] at H
            exact absurd H (by simp)
          ·
           rw [if_neg c32] at H
           exact absurd H (by simp)
         ·
          rw [if_neg c31] at H
          exact absurd H (by simp)
        ·
         rw [if_neg c30] at H
         exact absurd H (by simp)
       ·
        rw [if_neg c29] at H
        have c29b0 : (t109 == 6) = false := beq_eq_false_iff_ne.mpr c29
        have c29b1 : (t109 != 6) = true := bne_iff_ne.mpr c29
        by_cases c47 : t109 = 5
        ·
         rw [if_pos c47] at H
         have c47b0 : (t109 == 5) = true := beq_iff_eq.mpr c47
         have c47b1 : (t109 != 5) = false := bne_eq_false_iff_eq.mpr c47
         clear c47
         by_cases c48 : y113.length < 140737488355328
         ·
          rw [if_pos c48] at H
          have LMc48 := Aside0.mk c48
          clear c48
          obtain ⟨y153, hy153⟩ : ∃ y_ : List Int, y_ = (y113 ++ [(a0 / 4294967296) % 256]) := ⟨_, rfl⟩
          replace H : (if y153.length < 140737488355328 then ((some (y153 ++ [(a0 / 16777216) % 256] : List Int)).bind fun y156 => (if y156.length < 140737488355328 then ((some (y156 ++ [(a0 / 65536) % 256] : List Int)).bind fun y159 => (if y159.length < 140737488355328 then ((some (y159 ++ [(a0 / 256) % 256] : List Int)).bind fun y162 => (if y162.length < 140737488355328 then (some (strOfNums (y162 ++ [(a0) % 256]), none)) else (none))) else (none))) else (none))) else (none)) = some (r1, r2) := by first | (rw [hy153]; with_reducible exact H) | (have H2_ := (Option.bind_some _ _).symm.trans H; rw [hy153]; with_reducible exact H2_) | (have H2_ := (Option.bind_some _ _).symm.trans H; with_reducible exact H2_) | with_reducible exact H | (rw [hy153]; exact H) | exact H
          have Ny153 := Aside0.mk hy153
          clear hy153
          by_cases c49 : y153.length < 140737488355328
          ·
           rw [if_pos c49] at H
           have LMc49 := Aside0.mk c49
           clear c49
           obtain ⟨y156, hy156⟩ : ∃ y_ : List Int, y_ = (y153 ++ [(a0 / 16777216) % 256]) := ⟨_, rfl⟩
           replace H : (if y156.length < 140737488355328 then ((some (y156 ++ [(a0 / 65536) % 256] : List Int)).bind fun y159 => (if y159.length < 140737488355328 then ((some (y159 ++ [(a0 / 256) % 256] : List Int)).bind fun y162 => (if y162.length < 140737488355328 then (some (strOfNums (y162 ++ [(a0) % 256]), none)) else (none))) else (none))) else (none)) = some (r1, r2) := by first | (rw [hy156]; with_reducible exact H) | (have H2_ := (Option.bind_some _ _).symm.trans H; rw [hy156]; with_reducible exact H2_) | (have H2_ := (Option.bind_some _ _).symm.trans H; with_reducible exact H2_) | with_reducible exact H | (rw [hy156]; exact H) | exact H
           have Ny156 := Aside0.mk hy156
           clear hy156
           by_cases c50 : y156.length < 140737488355328
           ·
            rw [if_pos c50] at H
            have LMc50 := Aside0.mk c50
            clear c50
            obtain ⟨y159, hy159⟩ : ∃ y_ : List Int, y_ = (y156 ++ [(a0 / 65536) % 256]) := ⟨_, rfl⟩
            replace H : (if y159.length < 140737488355328 then ((some (y159 ++ [(a0 / 256) % 256] : List Int)).bind fun y162 => (if y162.length < 140737488355328 then (some (strOfNums (y162 ++ [(a0) % 256]), none)) else (none))) else (none)) = some (r1, r2) := by first | (rw [hy159]; with_reducible exact H) | (have H2_ := (Option.bind_some _ _).symm.trans H; rw [hy159]; with_reducible exact H2_) | (have H2_ := (Option.bind_some _ _).symm.trans H; with_reducible exact H2_) | with_reducible exact H | (rw [hy159]; exact H) | exact H
            have Ny159 := Aside0.mk hy159
            clear hy159
            by_cases c51 : y159.length < 140737488355328
            ·
             rw [if_pos c51] at H
             have LMc51 := Aside0.mk c51
             clear c51
             obtain ⟨y162, hy162⟩ : ∃ y_ : List Int, y_ = (y159 ++ [(a0 / 256) % 256]) := ⟨_, rfl⟩
             replace H : (if y162.length < 140737488355328 then (some (strOfNums (y162 ++ [(a0) % 256]), none)) else (none)) = some (r1, r2) := by first | (rw [hy162]; with_reducible exact H) | (have H2_ := (Option.bind_some _ _).symm.trans H; rw [hy162]; with_reducible exact H2_) | (have H2_ := (Option.bind_some _ _).symm.trans H; with_reducible exact H2_) | with_reducible exact H | (rw [hy162]; exact H) | exact H
             have Ny162 := Aside0.mk hy162
             clear hy162
             by_cases c52 : y162.length < 140737488355328
             ·
              rw [if_pos c52] at H
              have LMc52 := Aside0.mk c52
              clear c52
              obtain ⟨y165, hy165⟩ : ∃ y_ : List Int, y_ = (y162 ++ [(a0) % 256]) := ⟨_, rfl⟩
              replace H : (some (strOfNums y165, none)) = some (r1, r2) := by first | (rw [hy165]; with_reducible exact H) | (have H2_ := (Option.bind_some _ _).symm.trans H; rw [hy165]; with_reducible exact H2_) | (have H2_ := (Option.bind_some _ _).symm.trans H; with_reducible exact H2_) | with_reducible exact H | (rw [hy165]; exact H) | exact H
              have Ny165 := Aside0.mk hy165
              clear hy165
              simp only [Option.some.injEq, Prod.mk.injEq] at H
              obtain ⟨rfl, rfl⟩ := H
              go_wp2_with (first | ((with_reducible refine gate_callee (f := 30) rfl ?_); refine goesL_ (some 14) rfl rfl Try.func30 (by kernel_rfl) rfl #[.int .i64 a0] rfl (by (try simp only [List.map_toArray, List.map_cons, List.map_nil]); first | done | rfl | (simp only [List.length_drop, List.length_take]; rfl)) ?_; (with_reducible refine (pack_size.calls kj1 a0 t109 _ A5.out).mono ?_); rintro e w' ⟨rfl, ⟨nd, rfl⟩⟩; refine ⟨_, rfl, ?_⟩; (try (rw [drewN_self wc]; generalize hq_ : World.drewN wc _ = wc; have n0_ : Aside0 (Below w.heap.size w wc) := ⟨by rw [← hq_]; exact (Yr HB)⟩; clear HB hq_; have HB := n0_; clear n0_))) | ((with_reducible refine gate_dst (N := 15) rfl ?_); refine Go.Proofs.YtnmlnngmfagmfaaX.R_make_cap (Kd.int .u8) _ 5 rfl (N := 15) rfl 47 _ _ rfl 1 8 rfl rfl Try.underlying47 (.int .u8 0) 1 info5 rfl (by decide) (by omega) 0 (ok := fun _ => True) (okp := fun _ => True) rfl (fun _ hk => hk) trivial (by omega) (by omega) (by omega) (Below.refl _ _) (Nat.le_refl _) ?_; intro v111 w53 ho54 hb hg_ hnew_; clear hg_ hnew_; (first | rw [← Ny110.out] at ho54 | (simp only [Int.reduceToNat] at ho54; rw [← Ny110.out] at ho54)); have n0_ := Aside0.mk (Kd.R_lower ho54 (below_size (Yr HB))); have n1_ := Aside0.mk (Yv HB hb); clear HB; have HO112 := n0_; have HB := n1_; clear n0_ n1_; clear hb ho54; have p8 : 0 ≤ (0 : Int) := (by omega); have q8 : (0 : Int) < ((y110.length : Int) : Int) := of_decide_eq_true (by first | (with_reducible assumption) | assumption); have qi8 : (0 < y110.length) = True := eq_true (by omega); obtain ⟨go8, co8, eo8, gb8, gl8, cl8, HG8⟩ := Kd.R_form HO112.out (by omega); (first | cases eo8 | (injection eo8 with ea_ en_ ec_; (first | subst ea_ | (injection ea_ with ea_; subst ea_)); subst ec_; clear en_)); have GB8 := Aside0.mk gb8; have GG8 := Aside0.mk HG8; clear gb8 gl8 HG8; obtain ⟨hx8_0, hf8_0⟩ := Kd.R_celln 0 HO112.out (0 : Int) p8 q8; (try rw [show ((0 : Int)).toNat = 0 from rfl] at hx8_0); (try simp only [Nat.reduceMul, Nat.zero_mul, Nat.zero_add, Nat.reduceAdd] at hx8_0); (try rw [show ((0 : Int)).toNat = 0 from rfl] at hf8_0); (try simp only [Nat.reduceMul, Nat.zero_mul, Nat.zero_add, Nat.reduceAdd] at hf8_0); replace p8 := eq_true p8; replace q8 := eq_true q8; obtain ⟨hy55_, hz55_⟩ := Kd.R_celln 0 HO112.out (0 : Int) (by omega) (of_decide_eq_true (by first | (with_reducible assumption) | assumption)); (try simp only [Int.reduceToNat, Int.toNat_zero, Int.toNat_ofNat, Nat.reduceMul, Nat.zero_mul, Nat.zero_add] at hy55_ hz55_); (try rw [show ((0 : Int)).toNat = 0 from rfl] at hy55_); (try rw [show ((0 : Int)).toNat = 0 from rfl] at hz55_); have HP55 := Kd.R_putg HO112.out (0 : Int) ((t109) % 256)) | ((with_reducible refine gate_store (t := 5) (p := 19) rfl ?_); refine store_event (t := 5) (p := 19) (v := ?vo_w56) (w1 := (w53.setCell ⟨go8, (0 : Int).toNat, none⟩ (.int .u8 ((t109) % 256)))) ?hg ?ho ?hn ?hr ?_; (case ho => rfl); (case hg => rfl); (case hn => rfl); (case hr => first | (go_simp; done) | (go_simp; rfl)); intro w56 hw; have hg : w53.grownBy w56 (some go8) := (by rw [hw]; exact HP55.2); have hp_ : Kd.R (Kd.int .u8) 5 w56 w.heap.size (fun _ => True) (.slice (some ⟨go8, 0, none⟩) y110.length co8) y113 := (by rw [hw, Ny113.out]; exact HP55.1); clear HP55; have n0_ := Aside0.mk (hp_); have n1_ := Aside0.mk ((by rw [hw]; exact Ys (HB.out) GB8.out : Below w.heap.size w w56)); clear HO112; clear HB; have HO112 := n0_; have HB := n1_; clear n0_ n1_; clear hg hw hp_) | ((with_reducible refine gate_builtin (b := .append) (xs := #[.tmp 47, .tmp 51]) rfl ?_); at_builtin; refine Kd.R_append (Kd.int .u8) (w0 := w) w.heap.size rfl (.tmp 47) (.tmp 51) 47 5 (.int .u8 0) 1 rfl Try.underlying47 info5 rfl (by decide) (by omega) (.slice (some ⟨go8, 0, none⟩) y110.length co8) y113 ((a0 / 4294967296) % 256) [.int .u8 ((a0 / 4294967296) % 256)] (fun _ => True) (fun _ => False) rfl rfl ?aP (fun _ hk => hk.elim) ?aF ?aO ?aB ?aS ?aL ?_; (case aP => exact rfl); (case aB => exact (Yr HB)); (case aF => exact (fun _ _ => trivial)); (case aO => exact (by (with_reducible repeat (first | apply Kd.R_alloc | apply Kd.R_drewN | apply Kd.R_drew)); exact HO112.out)); (case aS => exact (below_size (Yr HB))); (case aL => have := LMc48.out; omega); intro v154 w57 ho hb hg hat; rw [← Ny153.out] at ho; have n0_ := Aside0.mk (hb); have n1_ := Aside0.mk (ho); clear HB; clear HO112; have HB := n0_; have HO155 := n1_; clear n0_ n1_; clear ho hb hg hat) | ((with_reducible refine gate_builtin (b := .append) (xs := #[.tmp 53, .tmp 57]) rfl ?_); at_builtin; refine Kd.R_append (Kd.int .u8) (w0 := w) w.heap.size rfl (.tmp 53) (.tmp 57) 47 5 (.int .u8 0) 1 rfl Try.underlying47 info5 rfl (by decide) (by omega) v154 y153 ((a0 / 16777216) % 256) [.int .u8 ((a0 / 16777216) % 256)] (fun _ => True) (fun _ => False) rfl rfl ?aP (fun _ hk => hk.elim) ?aF ?aO ?aB ?aS ?aL ?_; (case aP => exact rfl); (case aB => exact (Yr HB)); (case aF => exact (fun _ _ => trivial)); (case aO => exact (by (with_reducible repeat (first | apply Kd.R_alloc | apply Kd.R_drewN | apply Kd.R_drew)); exact HO155.out)); (case aS => exact (below_size (Yr HB))); (case aL => have := LMc49.out; omega); intro v157 w58 ho hb hg hat; rw [← Ny156.out] at ho; have n0_ := Aside0.mk (hb); have n1_ := Aside0.mk (ho); clear HB; clear HO155; have HB := n0_; have HO158 := n1_; clear n0_ n1_; clear ho hb hg hat) | ((with_reducible refine gate_builtin (b := .append) (xs := #[.tmp 59, .tmp 63]) rfl ?_); at_builtin; refine Kd.R_append (Kd.int .u8) (w0 := w) w.heap.size rfl (.tmp 59) (.tmp 63) 47 5 (.int .u8 0) 1 rfl Try.underlying47 info5 rfl (by decide) (by omega) v157 y156 ((a0 / 65536) % 256) [.int .u8 ((a0 / 65536) % 256)] (fun _ => True) (fun _ => False) rfl rfl ?aP (fun _ hk => hk.elim) ?aF ?aO ?aB ?aS ?aL ?_; (case aP => exact rfl); (case aB => exact (Yr HB)); (case aF => exact (fun _ _ => trivial)); (case aO => exact (by (with_reducible repeat (first | apply Kd.R_alloc | apply Kd.R_drewN | apply Kd.R_drew)); exact HO158.out)); (case aS => exact (below_size (Yr HB))); (case aL => have := LMc50.out; omega); intro v160 w59 ho hb hg hat; rw [← Ny159.out] at ho; have n0_ := Aside0.mk (hb); have n1_ := Aside0.mk (ho); clear HB; clear HO158; have HB := n0_; have HO161 := n1_; clear n0_ n1_; clear ho hb hg hat) | ((with_reducible refine gate_builtin (b := .append) (xs := #[.tmp 65, .tmp 69]) rfl ?_); at_builtin; refine Kd.R_append (Kd.int .u8) (w0 := w) w.heap.size rfl (.tmp 65) (.tmp 69) 47 5 (.int .u8 0) 1 rfl Try.underlying47 info5 rfl (by decide) (by omega) v160 y159 ((a0 / 256) % 256) [.int .u8 ((a0 / 256) % 256)] (fun _ => True) (fun _ => False) rfl rfl ?aP (fun _ hk => hk.elim) ?aF ?aO ?aB ?aS ?aL ?_; (case aP => exact rfl); (case aB => exact (Yr HB)); (case aF => exact (fun _ _ => trivial)); (case aO => exact (by (with_reducible repeat (first | apply Kd.R_alloc | apply Kd.R_drewN | apply Kd.R_drew)); exact HO161.out)); (case aS => exact (below_size (Yr HB))); (case aL => have := LMc51.out; omega); intro v163 w60 ho hb hg hat; rw [← Ny162.out] at ho; have n0_ := Aside0.mk (hb); have n1_ := Aside0.mk (ho); clear HB; clear HO161; have HB := n0_; have HO164 := n1_; clear n0_ n1_; clear ho hb hg hat) | ((with_reducible refine gate_builtin (b := .append) (xs := #[.tmp 71, .tmp 74]) rfl ?_); at_builtin; refine Kd.R_append (Kd.int .u8) (w0 := w) w.heap.size rfl (.tmp 71) (.tmp 74) 47 5 (.int .u8 0) 1 rfl Try.underlying47 info5 rfl (by decide) (by omega) v163 y162 ((a0) % 256) [.int .u8 ((a0) % 256)] (fun _ => True) (fun _ => False) rfl rfl ?aP (fun _ hk => hk.elim) ?aF ?aO ?aB ?aS ?aL ?_; (case aP => exact rfl); (case aB => exact (Yr HB)); (case aF => exact (fun _ _ => trivial)); (case aO => exact (by (with_reducible repeat (first | apply Kd.R_alloc | apply Kd.R_drewN | apply Kd.R_drew)); exact HO164.out)); (case aS => exact (below_size (Yr HB))); (case aL => have := LMc52.out; omega); intro v166 w61 ho hb hg hat; rw [← Ny165.out] at ho; have n0_ := Aside0.mk (hb); have n1_ := Aside0.mk (ho); clear HB; clear HO164; have HB := n0_; have HO167 := n1_; clear n0_ n1_; clear ho hb hg hat; have hcv62 := own_string (P := Try.prog) Try.underlying47 Try.underlying5 Try.underlying9 (Kd.own_of_R HO167.out)))
              go_ret2
              exact ⟨by first | rfl | (simp [errW_none, errW_some] <;> rfl) | (simp [*, errW_none, errW_some] <;> rfl), Yr HB⟩
             ·
              rw [if_neg c52] at H
              exact absurd H (by simp)
            ·
             rw [if_neg c51] at H
             exact absurd H (by simp)
           ·
            rw [if_neg c50] at H
            exact absurd H (by simp)
          ·
           rw [if_neg c49] at H
           exact absurd H (by simp)
         ·
          rw [if_neg c48] at H
          exact absurd H (by simp)
        ·
         rw [if_neg c47] at H
         have c47b0 : (t109 == 5) = false := beq_eq_false_iff_ne.mpr c47
         have c47b1 : (t109 != 5) = true := bne_iff_ne.mpr c47
         by_cases c63 : t109 = 4
         ·
          rw [if_pos c63] at H
          have c63b0 : (t109 == 4) = true := beq_iff_eq.mpr c63
          have c63b1 : (t109 != 4) = false := bne_eq_false_iff_eq.mpr c63
          clear c63
          by_cases c64 : y113.length < 140737488355328
          ·
           rw [if_pos c64] at H
           have LMc64 := Aside0.mk c64
           clear c64
           obtain ⟨y168, hy168⟩ : ∃ y_ : List Int, y_ = (y113 ++ [(a0 / 16777216) % 256]) := ⟨_, rfl⟩
           replace H : (if y168.length < 140737488355328 then ((some (y168 ++ [(a0 / 65536) % 256] : List Int)).bind fun y171 => (if y171.length < 140737488355328 then ((some (y171 ++ [(a0 / 256) % 256] : List Int)).bind fun y174 => (if y174.length < 140737488355328 then (some (strOfNums (y174 ++ [(a0) % 256]), none)) else (none))) else (none))) else (none)) = some (r1, r2) := by first | (rw [hy168]; with_reducible exact H) | (have H2_ := (Option.bind_some _ _).symm.trans H; rw [hy168]; with_reducible exact H2_) | (have H2_ := (Option.bind_some _ _).symm.trans H; with_reducible exact H2_) | with_reducible exact H | (rw [hy168]; exact H) | exact H
           have Ny168 := Aside0.mk hy168
           clear hy168
           by_cases c65 : y168.length < 140737488355328
           ·
            rw [if_pos c65] at H
            have LMc65 := Aside0.mk c65
            clear c65
            obtain ⟨y171, hy171⟩ : ∃ y_ : List Int, y_ = (y168 ++ [(a0 / 65536) % 256]) := ⟨_, rfl⟩
            replace H : (if y171.length < 140737488355328 then ((some (y171 ++ [(a0 / 256) % 256] : List Int)).bind fun y174 => (if y174.length < 140737488355328 then (some (strOfNums (y174 ++ [(a0) % 256]), none)) else (none))) else (none)) = some (r1, r2) := by first | (rw [hy171]; with_reducible exact H) | (have H2_ := (Option.bind_some _ _).symm.trans H; rw [hy171]; with_reducible exact H2_) | (have H2_ := (Option.bind_some _ _).symm.trans H; with_reducible exact H2_) | with_reducible exact H | (rw [hy171]; exact H) | exact H
            have Ny171 := Aside0.mk hy171
            clear hy171
            by_cases c66 : y171.length < 140737488355328
            ·
             rw [if_pos c66] at H
             have LMc66 := Aside0.mk c66
             clear c66
             obtain ⟨y174, hy174⟩ : ∃ y_ : List Int, y_ = (y171 ++ [(a0 / 256) % 256]) := ⟨_, rfl⟩
             replace H : (if y174.length < 140737488355328 then (some (strOfNums (y174 ++ [(a0) % 256]), none)) else (none)) = some (r1, r2) := by first | (rw [hy174]; with_reducible exact H) | (have H2_ := (Option.bind_some _ _).symm.trans H; rw [hy174]; with_reducible exact H2_) | (have H2_ := (Option.bind_some _ _).symm.trans H; with_reducible exact H2_) | with_reducible exact H | (rw [hy174]; exact H) | exact H
             have Ny174 := Aside0.mk hy174
             clear hy174
             by_cases c67 : y174.length < 140737488355328
             ·
              rw [if_pos c67] at H
              have LMc67 := Aside0.mk c67
              clear c67
              obtain ⟨y177, hy177⟩ : ∃ y_ : List Int, y_ = (y174 ++ [(a0) % 256]) := ⟨_, rfl⟩
              replace H : (some (strOfNums y177, none)) = some (r1, r2) := by first | (rw [hy177]; with_reducible exact H) | (have H2_ := (Option.bind_some _ _).symm.trans H; rw [hy177]; with_reducible exact H2_) | (have H2_ := (Option.bind_some _ _).symm.trans H; with_reducible exact H2_) | with_reducible exact H | (rw [hy177]; exact H) | exact H
              have Ny177 := Aside0.mk hy177
              clear hy177
              simp only [Option.some.injEq, Prod.mk.injEq] at H
              obtain ⟨rfl, rfl⟩ := H
              go_wp2_with (first | ((with_reducible refine gate_callee (f := 30) rfl ?_); refine goesL_ (some 14) rfl rfl Try.func30 (by kernel_rfl) rfl #[.int .i64 a0] rfl (by (try simp only [List.map_toArray, List.map_cons, List.map_nil]); first | done | rfl | (simp only [List.length_drop, List.length_take]; rfl)) ?_; (with_reducible refine (pack_size.calls kj1 a0 t109 _ A5.out).mono ?_); rintro e w' ⟨rfl, ⟨nd, rfl⟩⟩; refine ⟨_, rfl, ?_⟩; (try (rw [drewN_self wc]; generalize hq_ : World.drewN wc _ = wc; have n0_ : Aside0 (Below w.heap.size w wc) := ⟨by rw [← hq_]; exact (Yr HB)⟩; clear HB hq_; have HB := n0_; clear n0_))) | ((with_reducible refine gate_dst (N := 15) rfl ?_); refine Go.Proofs.YtnmlnngmfagmfaaX.R_make_cap (Kd.int .u8) _ 5 rfl (N := 15) rfl 47 _ _ rfl 1 8 rfl rfl Try.underlying47 (.int .u8 0) 1 info5 rfl (by decide) (by omega) 0 (ok := fun _ => True) (okp := fun _ => True) rfl (fun _ hk => hk) trivial (by omega) (by omega) (by omega) (Below.refl _ _) (Nat.le_refl _) ?_; intro v111 w68 ho69 hb hg_ hnew_; clear hg_ hnew_; (first | rw [← Ny110.out] at ho69 | (simp only [Int.reduceToNat] at ho69; rw [← Ny110.out] at ho69)); have n0_ := Aside0.mk (Kd.R_lower ho69 (below_size (Yr HB))); have n1_ := Aside0.mk (Yv HB hb); clear HB; have HO112 := n0_; have HB := n1_; clear n0_ n1_; clear hb ho69; have p8 : 0 ≤ (0 : Int) := (by omega); have q8 : (0 : Int) < ((y110.length : Int) : Int) := of_decide_eq_true (by first | (with_reducible assumption) | assumption); have qi8 : (0 < y110.length) = True := eq_true (by omega); obtain ⟨go8, co8, eo8, gb8, gl8, cl8, HG8⟩ := Kd.R_form HO112.out (by omega); (first | cases eo8 | (injection eo8 with ea_ en_ ec_; (first | subst ea_ | (injection ea_ with ea_; subst ea_)); subst ec_; clear en_)); have GB8 := Aside0.mk gb8; have GG8 := Aside0.mk HG8; clear gb8 gl8 HG8; obtain ⟨hx8_0, hf8_0⟩ := Kd.R_celln 0 HO112.out (0 : Int) p8 q8; (try rw [show ((0 : Int)).toNat = 0 from rfl] at hx8_0); (try simp only [Nat.reduceMul, Nat.zero_mul, Nat.zero_add, Nat.reduceAdd] at hx8_0); (try rw [show ((0 : Int)).toNat = 0 from rfl] at hf8_0); (try simp only [Nat.reduceMul, Nat.zero_mul, Nat.zero_add, Nat.reduceAdd] at hf8_0); replace p8 := eq_true p8; replace q8 := eq_true q8; obtain ⟨hy70_, hz70_⟩ := Kd.R_celln 0 HO112.out (0 : Int) (by omega) (of_decide_eq_true (by first | (with_reducible assumption) | assumption)); (try simp only [Int.reduceToNat, Int.toNat_zero, Int.toNat_ofNat, Nat.reduceMul, Nat.zero_mul, Nat.zero_add] at hy70_ hz70_); (try rw [show ((0 : Int)).toNat = 0 from rfl] at hy70_); (try rw [show ((0 : Int)).toNat = 0 from rfl] at hz70_); have HP70 := Kd.R_putg HO112.out (0 : Int) ((t109) % 256)) | ((with_reducible refine gate_store (t := 5) (p := 19) rfl ?_); refine store_event (t := 5) (p := 19) (v := ?vo_w71) (w1 := (w68.setCell ⟨go8, (0 : Int).toNat, none⟩ (.int .u8 ((t109) % 256)))) ?hg ?ho ?hn ?hr ?_; (case ho => rfl); (case hg => rfl); (case hn => rfl); (case hr => first | (go_simp; done) | (go_simp; rfl)); intro w71 hw; have hg : w68.grownBy w71 (some go8) := (by rw [hw]; exact HP70.2); have hp_ : Kd.R (Kd.int .u8) 5 w71 w.heap.size (fun _ => True) (.slice (some ⟨go8, 0, none⟩) y110.length co8) y113 := (by rw [hw, Ny113.out]; exact HP70.1); clear HP70; have n0_ := Aside0.mk (hp_); have n1_ := Aside0.mk ((by rw [hw]; exact Ys (HB.out) GB8.out : Below w.heap.size w w71)); clear HO112; clear HB; have HO112 := n0_; have HB := n1_; clear n0_ n1_; clear hg hw hp_) | ((with_reducible refine gate_builtin (b := .append) (xs := #[.tmp 53, .tmp 57]) rfl ?_); at_builtin; refine Kd.R_append (Kd.int .u8) (w0 := w) w.heap.size rfl (.tmp 53) (.tmp 57) 47 5 (.int .u8 0) 1 rfl Try.underlying47 info5 rfl (by decide) (by omega) (.slice (some ⟨go8, 0, none⟩) y110.length co8) y113 ((a0 / 16777216) % 256) [.int .u8 ((a0 / 16777216) % 256)] (fun _ => True) (fun _ => False) rfl rfl ?aP (fun _ hk => hk.elim) ?aF ?aO ?aB ?aS ?aL ?_; (case aP => exact rfl); (case aB => exact (Yr HB)); (case aF => exact (fun _ _ => trivial)); (case aO => exact (by (with_reducible repeat (first | apply Kd.R_alloc | apply Kd.R_drewN | apply Kd.R_drew)); exact HO112.out)); (case aS => exact (below_size (Yr HB))); (case aL => have := LMc64.out; omega); intro v169 w72 ho hb hg hat; rw [← Ny168.out] at ho; have n0_ := Aside0.mk (hb); have n1_ := Aside0.mk (ho); clear HB; clear HO112; have HB := n0_; have HO170 := n1_; clear n0_ n1_; clear ho hb hg hat) | ((with_reducible refine gate_builtin (b := .append) (xs := #[.tmp 59, .tmp 63]) rfl ?_); at_builtin; refine Kd.R_append (Kd.int .u8) (w0 := w) w.heap.size rfl (.tmp 59) (.tmp 63) 47 5 (.int .u8 0) 1 rfl Try.underlying47 info5 rfl (by decide) (by omega) v169 y168 ((a0 / 65536) % 256) [.int .u8 ((a0 / 65536) % 256)] (fun _ => True) (fun _ => False) rfl rfl ?aP (fun _ hk => hk.elim) ?aF ?aO ?aB ?aS ?aL ?_; (case aP => exact rfl); (case aB => exact (Yr HB)); (case aF => exact (fun _ _ => trivial)); (case aO => exact (by (with_reducible repeat (first | apply Kd.R_alloc | apply Kd.R_drewN | apply Kd.R_drew)); exact HO170.out)); (case aS => exact (below_size (Yr HB))); (case aL => have := LMc65.out; omega); intro v172 w73 ho hb hg hat; rw [← Ny171.out] at ho; have n0_ := Aside0.mk (hb); have n1_ := Aside0.mk (ho); clear HB; clear HO170; have HB := n0_; have HO173 := n1_; clear n0_ n1_; clear ho hb hg hat) | ((with_reducible refine gate_builtin (b := .append) (xs := #[.tmp 65, .tmp 69]) rfl ?_); at_builtin; refine Kd.R_append (Kd.int .u8) (w0 := w) w.heap.size rfl (.tmp 65) (.tmp 69) 47 5 (.int .u8 0) 1 rfl Try.underlying47 info5 rfl (by decide) (by omega) v172 y171 ((a0 / 256) % 256) [.int .u8 ((a0 / 256) % 256)] (fun _ => True) (fun _ => False) rfl rfl ?aP (fun _ hk => hk.elim) ?aF ?aO ?aB ?aS ?aL ?_; (case aP => exact rfl); (case aB => exact (Yr HB)); (case aF => exact (fun _ _ => trivial)); (case aO => exact (by (with_reducible repeat (first | apply Kd.R_alloc | apply Kd.R_drewN | apply Kd.R_drew)); exact HO173.out)); (case aS => exact (below_size (Yr HB))); (case aL => have := LMc66.out; omega); intro v175 w74 ho hb hg hat; rw [← Ny174.out] at ho; have n0_ := Aside0.mk (hb); have n1_ := Aside0.mk (ho); clear HB; clear HO173; have HB := n0_; have HO176 := n1_; clear n0_ n1_; clear ho hb hg hat) | ((with_reducible refine gate_builtin (b := .append) (xs := #[.tmp 71, .tmp 74]) rfl ?_); at_builtin; refine Kd.R_append (Kd.int .u8) (w0 := w) w.heap.size rfl (.tmp 71) (.tmp 74) 47 5 (.int .u8 0) 1 rfl Try.underlying47 info5 rfl (by decide) (by omega) v175 y174 ((a0) % 256) [.int .u8 ((a0) % 256)] (fun _ => True) (fun _ => False) rfl rfl ?aP (fun _ hk => hk.elim) ?aF ?aO ?aB ?aS ?aL ?_; (case aP => exact rfl); (case aB => exact (Yr HB)); (case aF => exact (fun _ _ => trivial)); (case aO => exact (by (with_reducible repeat (first | apply Kd.R_alloc | apply Kd.R_drewN | apply Kd.R_drew)); exact HO176.out)); (case aS => exact (below_size (Yr HB))); (case aL => have := LMc67.out; omega); intro v178 w75 ho hb hg hat; rw [← Ny177.out] at ho; have n0_ := Aside0.mk (hb); have n1_ := Aside0.mk (ho); clear HB; clear HO176; have HB := n0_; have HO179 := n1_; clear n0_ n1_; clear ho hb hg hat; have hcv76 := own_string (P := Try.prog) Try.underlying47 Try.underlying5 Try.underlying9 (Kd.own_of_R HO179.out)))
              go_ret2
              exact ⟨by first | rfl | (simp [errW_none, errW_some] <;> rfl) | (simp [*, errW_none, errW_some] <;> rfl), Yr HB⟩
             ·
              rw [if_neg c67] at H
              exact absurd H (by simp)
            ·
             rw [if_neg c66] at H
             exact absurd H (by simp)
           ·
            rw [if_neg c65] at H
            exact absurd H (by simp)
          ·
           rw [if_neg c64] at H
           exact absurd H (by simp)
         ·
          rw [if_neg c63] at H
          have c63b0 : (t109 == 4) = false := beq_eq_false_iff_ne.mpr c63
          have c63b1 : (t109 != 4) = true := bne_iff_ne.mpr c63
          by_cases c77 : t109 = 3
          ·
           rw [if_pos c77] at H
           have c77b0 : (t109 == 3) = true := beq_iff_eq.mpr c77
           have c77b1 : (t109 != 3) = false := bne_eq_false_iff_eq.mpr c77
           clear c77
           by_cases c78 : y113.length < 140737488355328
           ·
            rw [if_pos c78] at H
            have LMc78 := Aside0.mk c78
            clear c78
            obtain ⟨y180, hy180⟩ : ∃ y_ : List Int, y_ = (y113 ++ [(a0 / 65536) % 256]) := ⟨_, rfl⟩
            replace H : (if y180.length < 140737488355328 then ((some (y180 ++ [(a0 / 256) % 256] : List Int)).bind fun y183 => (if y183.length < 140737488355328 then (some (strOfNums (y183 ++ [(a0) % 256]), none)) else (none))) else (none)) = some (r1, r2) := by first | (rw [hy180]; with_reducible exact H) | (have H2_ := (Option.bind_some _ _).symm.trans H; rw [hy180]; with_reducible exact H2_) | (have H2_ := (Option.bind_some _ _).symm.trans H; with_reducible exact H2_) | with_reducible exact H | (rw [hy180]; exact H) | exact H
            have Ny180 := Aside0.mk hy180
            clear hy180
            by_cases c79 : y180.length < 140737488355328
            ·
             rw [if_pos c79] at H
             have LMc79 := Aside0.mk c79
             clear c79
             obtain ⟨y183, hy183⟩ : ∃ y_ : List Int, y_ = (y180 ++ [(a0 / 256) % 256]) := ⟨_, rfl⟩
             replace H : (if y183.length < 140737488355328 then (some (strOfNums (y183 ++ [(a0) % 256]), none)) else (none)) = some (r1, r2) := by first | (rw [hy183]; with_reducible exact H) | (have H2_ := (Option.bind_some _ _).symm.trans H; rw [hy183]; with_reducible exact H2_) | (have H2_ := (Option.bind_some _ _).symm.trans H; with_reducible exact H2_) | with_reducible exact H | (rw [hy183]; exact H) | exact H
             have Ny183 := Aside0.mk hy183
             clear hy183
             by_cases c80 : y183.length < 140737488355328
             ·
              rw [if_pos c80] at H
              have LMc80 := Aside0.mk c80
              clear c80
              obtain ⟨y186, hy186⟩ : ∃ y_ : List Int, y_ = (y183 ++ [(a0) % 256]) := ⟨_, rfl⟩
              replace H : (some (strOfNums y186, none)) = some (r1, r2) := by first | (rw [hy186]; with_reducible exact H) | (have H2_ := (Option.bind_some _ _).symm.trans H; rw [hy186]; with_reducible exact H2_) | (have H2_ := (Option.bind_some _ _).symm.trans H; with_reducible exact H2_) | with_reducible exact H | (rw [hy186]; exact H) | exact H
              have Ny186 := Aside0.mk hy186
              clear hy186
              simp only [Option.some.injEq, Prod.mk.injEq] at H
              obtain ⟨rfl, rfl⟩ := H
              go_wp2_with (first | ((with_reducible refine gate_callee (f := 30) rfl ?_); refine goesL_ (some 14) rfl rfl Try.func30 (by kernel_rfl) rfl #[.int .i64 a0] rfl (by (try simp only [List.map_toArray, List.map_cons, List.map_nil]); first | done | rfl | (simp only [List.length_drop, List.length_take]; rfl)) ?_; (with_reducible refine (pack_size.calls kj1 a0 t109 _ A5.out).mono ?_); rintro e w' ⟨rfl, ⟨nd, rfl⟩⟩; refine ⟨_, rfl, ?_⟩; (try (rw [drewN_self wc]; generalize hq_ : World.drewN wc _ = wc; have n0_ : Aside0 (Below w.heap.size w wc) := ⟨by rw [← hq_]; exact (Yr HB)⟩; clear HB hq_; have HB := n0_; clear n0_))) | ((with_reducible refine gate_dst (N := 15) rfl ?_); refine Go.Proofs.YtnmlnngmfagmfaaX.R_make_cap (Kd.int .u8) _ 5 rfl (N := 15) rfl 47 _ _ rfl 1 8 rfl rfl Try.underlying47 (.int .u8 0) 1 info5 rfl (by decide) (by omega) 0 (ok := fun _ => True) (okp := fun _ => True) rfl (fun _ hk => hk) trivial (by omega) (by omega) (by omega) (Below.refl _ _) (Nat.le_refl _) ?_; intro v111 w81 ho82 hb hg_ hnew_; clear hg_ hnew_; (first | rw [← Ny110.out] at ho82 | (simp only [Int.reduceToNat] at ho82; rw [← Ny110.out] at ho82)); have n0_ := Aside0.mk (Kd.R_lower ho82 (below_size (Yr HB))); have n1_ := Aside0.mk (Yv HB hb); clear HB; have HO112 := n0_; have HB := n1_; clear n0_ n1_; clear hb ho82; have p8 : 0 ≤ (0 : Int) := (by omega); have q8 : (0 : Int) < ((y110.length : Int) : Int) := of_decide_eq_true (by first | (with_reducible assumption) | assumption); have qi8 : (0 < y110.length) = True := eq_true (by omega); obtain ⟨go8, co8, eo8, gb8, gl8, cl8, HG8⟩ := Kd.R_form HO112.out (by omega); (first | cases eo8 | (injection eo8 with ea_ en_ ec_; (first | subst ea_ | (injection ea_ with ea_; subst ea_)); subst ec_; clear en_)); have GB8 := Aside0.mk gb8; have GG8 := Aside0.mk HG8; clear gb8 gl8 HG8; obtain ⟨hx8_0, hf8_0⟩ := Kd.R_celln 0 HO112.out (0 : Int) p8 q8; (try rw [show ((0 : Int)).toNat = 0 from rfl] at hx8_0); (try simp only [Nat.reduceMul, Nat.zero_mul, Nat.zero_add, Nat.reduceAdd] at hx8_0); (try rw [show ((0 : Int)).toNat = 0 from rfl] at hf8_0); (try simp only [Nat.reduceMul, Nat.zero_mul, Nat.zero_add, Nat.reduceAdd] at hf8_0); replace p8 := eq_true p8; replace q8 := eq_true q8; obtain ⟨hy83_, hz83_⟩ := Kd.R_celln 0 HO112.out (0 : Int) (by omega) (of_decide_eq_true (by first | (with_reducible assumption) | assumption)); (try simp only [Int.reduceToNat, Int.toNat_zero, Int.toNat_ofNat, Nat.reduceMul, Nat.zero_mul, Nat.zero_add] at hy83_ hz83_); (try rw [show ((0 : Int)).toNat = 0 from rfl] at hy83_); (try rw [show ((0 : Int)).toNat = 0 from rfl] at hz83_); have HP83 := Kd.R_putg HO112.out (0 : Int) ((t109) % 256)) | ((with_reducible refine gate_store (t := 5) (p := 19) rfl ?_); refine store_event (t := 5) (p := 19) (v := ?vo_w84) (w1 := (w81.setCell ⟨go8, (0 : Int).toNat, none⟩ (.int .u8 ((t109) % 256)))) ?hg ?ho ?hn ?hr ?_; (case ho => rfl); (case hg => rfl); (case hn => rfl); (case hr => first | (go_simp; done) | (go_simp; rfl)); intro w84 hw; have hg : w81.grownBy w84 (some go8) := (by rw [hw]; exact HP83.2); have hp_ : Kd.R (Kd.int .u8) 5 w84 w.heap.size (fun _ => True) (.slice (some ⟨go8, 0, none⟩) y110.length co8) y113 := (by rw [hw, Ny113.out]; exact HP83.1); clear HP83; have n0_ := Aside0.mk (hp_); have n1_ := Aside0.mk ((by rw [hw]; exact Ys (HB.out) GB8.out : Below w.heap.size w w84)); clear HO112; clear HB; have HO112 := n0_; have HB := n1_; clear n0_ n1_; clear hg hw hp_) | ((with_reducible refine gate_builtin (b := .append) (xs := #[.tmp 59, .tmp 63]) rfl ?_); at_builtin; refine Kd.R_append (Kd.int .u8) (w0 := w) w.heap.size rfl (.tmp 59) (.tmp 63) 47 5 (.int .u8 0) 1 rfl Try.underlying47 info5 rfl (by decide) (by omega) (.slice (some ⟨go8, 0, none⟩) y110.length co8) y113 ((a0 / 65536) % 256) [.int .u8 ((a0 / 65536) % 256)] (fun _ => True) (fun _ => False) rfl rfl ?aP (fun _ hk => hk.elim) ?aF ?aO ?aB ?aS ?aL ?_; (case aP => exact rfl); (case aB => exact (Yr HB)); (case aF => exact (fun _ _ => trivial)); (case aO => exact (by (with_reducible repeat (first | apply Kd.R_alloc | apply Kd.R_drewN | apply Kd.R_drew)); exact HO112.out)); (case aS => exact (below_size (Yr HB))); (case aL => have := LMc78.out; omega); intro v181 w85 ho hb hg hat; rw [← Ny180.out] at ho; have n0_ := Aside0.mk (hb); have n1_ := Aside0.mk (ho); clear HB; clear HO112; have HB := n0_; have HO182 := n1_; clear n0_ n1_; clear ho hb hg hat) | ((with_reducible refine gate_builtin (b := .append) (xs := #[.tmp 65, .tmp 69]) rfl ?_); at_builtin; refine Kd.R_append (Kd.int .u8) (w0 := w) w.heap.size rfl (.tmp 65) (.tmp 69) 47 5 (.int .u8 0) 1 rfl Try.underlying47 info5 rfl (by decide) (by omega) v181 y180 ((a0 / 256) % 256) [.int .u8 ((a0 / 256) % 256)] (fun _ => True) (fun _ => False) rfl rfl ?aP (fun _ hk => hk.elim) ?aF ?aO ?aB ?aS ?aL ?_; (case aP => exact rfl); (case aB => exact (Yr HB)); (case aF => exact (fun _ _ => trivial)); (case aO => exact (by (with_reducible repeat (first | apply Kd.R_alloc | apply Kd.R_drewN | apply Kd.R_drew)); exact HO182.out)); (case aS => exact (below_size (Yr HB))); (case aL => have := LMc79.out; omega); intro v184 w86 ho hb hg hat; rw [← Ny183.out] at ho; have n0_ := Aside0.mk (hb); have n1_ := Aside0.mk (ho); clear HB; clear HO182; have HB := n0_; have HO185 := n1_; clear n0_ n1_; clear ho hb hg hat) | ((with_reducible refine gate_builtin (b := .append) (xs := #[.tmp 71, .tmp 74]) rfl ?_); at_builtin; refine Kd.R_append (Kd.int .u8) (w0 := w) w.heap.size rfl (.tmp 71) (.tmp 74) 47 5 (.int .u8 0) 1 rfl Try.underlying47 info5 rfl (by decide) (by omega) v184 y183 ((a0) % 256) [.int .u8 ((a0) % 256)] (fun _ => True) (fun _ => False) rfl rfl ?aP (fun _ hk => hk.elim) ?aF ?aO ?aB ?aS ?aL ?_; (case aP => exact rfl); (case aB => exact (Yr HB)); (case aF => exact (fun _ _ => trivial)); (case aO => exact (by (with_reducible repeat (first | apply Kd.R_alloc | apply Kd.R_drewN | apply Kd.R_drew)); exact HO185.out)); (case aS => exact (below_size (Yr HB))); (case aL => have := LMc80.out; omega); intro v187 w87 ho hb hg hat; rw [← Ny186.out] at ho; have n0_ := Aside0.mk (hb); have n1_ := Aside0.mk (ho); clear HB; clear HO185; have HB := n0_; have HO188 := n1_; clear n0_ n1_; clear ho hb hg hat; have hcv88 := own_string (P := Try.prog) Try.underlying47 Try.underlying5 Try.underlying9 (Kd.own_of_R HO188.out)))
              go_ret2
              exact ⟨by first | rfl | (simp [errW_none, errW_some] <;> rfl) | (simp [*, errW_none, errW_some] <;> rfl), Yr HB⟩
             ·
              rw [if_neg c80] at H
              exact absurd H (by simp)
            ·
             rw [if_neg c79] at H
             exact absurd H (by simp)
           ·
            rw [if_neg c78] at H
            exact absurd H (by simp)
          ·
           rw [if_neg c77] at H
           have c77b0 : (t109 == 3) = false := beq_eq_false_iff_ne.mpr c77
           have c77b1 : (t109 != 3) = true := bne_iff_ne.mpr c77
           by_cases c89 : t109 = 2
           ·
            rw [if_pos c89] at H
            have c89b0 : (t109 == 2) = true := beq_iff_eq.mpr c89
            have c89b1 : (t109 != 2) = false := bne_eq_false_iff_eq.mpr c89
            clear c89
            by_cases c90 : y113.length < 140737488355328
            ·
             rw [if_pos c90] at H
             have LMc90 := Aside0.mk c90
             clear c90
             obtain ⟨y189, hy189⟩ : ∃ y_ : List Int, y_ = (y113 ++ [(a0 / 256) % 256]) := ⟨_, rfl⟩
             replace H : (if y189.length < 140737488355328 then (some (strOfNums (y189 ++ [(a0) % 256]), none)) else (none)) = some (r1, r2) := by first | (rw [hy189]; with_reducible exact H) | (have H2_ := (Option.bind_some _ _).symm.trans H; rw [hy189]; with_reducible exact H2_) | (have H2_ := (Option.bind_some _ _).symm.trans H; with_reducible exact H2_) | with_reducible exact H | (rw [hy189]; exact H) | exact H
             have Ny189 := Aside0.mk hy189
             clear hy189
             by_cases c91 : y189.length < 140737488355328
             ·
              rw [if_pos c91] at H
              have LMc91 := Aside0.mk c91
              clear c91
              obtain ⟨y192, hy192⟩ : ∃ y_ : List Int, y_ = (y189 ++ [(a0) % 256]) := ⟨_, rfl⟩
              replace H : (some (strOfNums y192, none)) = some (r1, r2) := by first | (rw [hy192]; with_reducible exact H) | (have H2_ := (Option.bind_some _ _).symm.trans H; rw [hy192]; with_reducible exact H2_) | (have H2_ := (Option.bind_some _ _).symm.trans H; with_reducible exact H2_) | with_reducible exact H | (rw [hy192]; exact H) | exact H
              have Ny192 := Aside0.mk hy192
              clear hy192
              simp only [Option.some.injEq, Prod.mk.injEq] at H
              obtain ⟨rfl, rfl⟩ := H
              go_wp2_with (first | ((with_reducible refine gate_callee (f := 30) rfl ?_); refine goesL_ (some 14) rfl rfl Try.func30 (by kernel_rfl) rfl #[.int .i64 a0] rfl (by (try simp only [List.map_toArray, List.map_cons, List.map_nil]); first | done | rfl | (simp only [List.length_drop, List.length_take]; rfl)) ?_; (with_reducible refine (pack_size.calls kj1 a0 t109 _ A5.out).mono ?_); rintro e w' ⟨rfl, ⟨nd, rfl⟩⟩; refine ⟨_, rfl, ?_⟩; (try (rw [drewN_self wc]; generalize hq_ : World.drewN wc _ = wc; have n0_ : Aside0 (Below w.heap.size w wc) := ⟨by rw [← hq_]; exact (Yr HB)⟩; clear HB hq_; have HB := n0_; clear n0_))) | ((with_reducible refine gate_dst (N := 15) rfl ?_); refine Go.Proofs.YtnmlnngmfagmfaaX.R_make_cap (Kd.int .u8) _ 5 rfl (N := 15) rfl 47 _ _ rfl 1 8 rfl rfl Try.underlying47 (.int .u8 0) 1 info5 rfl (by decide) (by omega) 0 (ok := fun _ => True) (okp := fun _ => True) rfl (fun _ hk => hk) trivial (by omega) (by omega) (by omega) (Below.refl _ _) (Nat.le_refl _) ?_; intro v111 w92 ho93 hb hg_ hnew_; clear hg_ hnew_; (first | rw [← Ny110.out] at ho93 | (simp only [Int.reduceToNat] at ho93; rw [← Ny110.out] at ho93)); have n0_ := Aside0.mk (Kd.R_lower ho93 (below_size (Yr HB))); have n1_ := Aside0.mk (Yv HB hb); clear HB; have HO112 := n0_; have HB := n1_; clear n0_ n1_; clear hb ho93; have p8 : 0 ≤ (0 : Int) := (by omega); have q8 : (0 : Int) < ((y110.length : Int) : Int) := of_decide_eq_true (by first | (with_reducible assumption) | assumption); have qi8 : (0 < y110.length) = True := eq_true (by omega); obtain ⟨go8, co8, eo8, gb8, gl8, cl8, HG8⟩ := Kd.R_form HO112.out (by omega); (first | cases eo8 | (injection eo8 with ea_ en_ ec_; (first | subst ea_ | (injection ea_ with ea_; subst ea_)); subst ec_; clear en_)); have GB8 := Aside0.mk gb8; have GG8 := Aside0.mk HG8; clear gb8 gl8 HG8; obtain ⟨hx8_0, hf8_0⟩ := Kd.R_celln 0 HO112.out (0 : Int) p8 q8; (try rw [show ((0 : Int)).toNat = 0 from rfl] at hx8_0); (try simp only [Nat.reduceMul, Nat.zero_mul, Nat.zero_add, Nat.reduceAdd] at hx8_0); (try rw [show ((0 : Int)).toNat = 0 from rfl] at hf8_0); (try simp only [Nat.reduceMul, Nat.zero_mul, Nat.zero_add, Nat.reduceAdd] at hf8_0); replace p8 := eq_true p8; replace q8 := eq_true q8; obtain ⟨hy94_, hz94_⟩ := Kd.R_celln 0 HO112.out (0 : Int) (by omega) (of_decide_eq_true (by first | (with_reducible assumption) | assumption)); (try simp only [Int.reduceToNat, Int.toNat_zero, Int.toNat_ofNat, Nat.reduceMul, Nat.zero_mul, Nat.zero_add] at hy94_ hz94_); (try rw [show ((0 : Int)).toNat = 0 from rfl] at hy94_); (try rw [show ((0 : Int)).toNat = 0 from rfl] at hz94_); have HP94 := Kd.R_putg HO112.out (0 : Int) ((t109) % 256)) | ((with_reducible refine gate_store (t := 5) (p := 19) rfl ?_); refine store_event (t := 5) (p := 19) (v := ?vo_w95) (w1 := (w92.setCell ⟨go8, (0 : Int).toNat, none⟩ (.int .u8 ((t109) % 256)))) ?hg ?ho ?hn ?hr ?_; (case ho => rfl); (case hg => rfl); (case hn => rfl); (case hr => first | (go_simp; done) | (go_simp; rfl)); intro w95 hw; have hg : w92.grownBy w95 (some go8) := (by rw [hw]; exact HP94.2); have hp_ : Kd.R (Kd.int .u8) 5 w95 w.heap.size (fun _ => True) (.slice (some ⟨go8, 0, none⟩) y110.length co8) y113 := (by rw [hw, Ny113.out]; exact HP94.1); clear HP94; have n0_ := Aside0.mk (hp_); have n1_ := Aside0.mk ((by rw [hw]; exact Ys (HB.out) GB8.out : Below w.heap.size w w95)); clear HO112; clear HB; have HO112 := n0_; have HB := n1_; clear n0_ n1_; clear hg hw hp_) | ((with_reducible refine gate_builtin (b := .append) (xs := #[.tmp 65, .tmp 69]) rfl ?_); at_builtin; refine Kd.R_append (Kd.int .u8) (w0 := w) w.heap.size rfl (.tmp 65) (.tmp 69) 47 5 (.int .u8 0) 1 rfl Try.underlying47 info5 rfl (by decide) (by omega) (.slice (some ⟨go8, 0, none⟩) y110.length co8) y113 ((a0 / 256) % 256) [.int .u8 ((a0 / 256) % 256)] (fun _ => True) (fun _ => False) rfl rfl ?aP (fun _ hk => hk.elim) ?aF ?aO ?aB ?aS ?aL ?_; (case aP => exact rfl); (case aB => exact (Yr HB)); (case aF => exact (fun _ _ => trivial)); (case aO => exact (by (with_reducible repeat (first | apply Kd.R_alloc | apply Kd.R_drewN | apply Kd.R_drew)); exact HO112.out)); (case aS => exact (below_size (Yr HB))); (case aL => have := LMc90.out; omega); intro v190 w96 ho hb hg hat; rw [← Ny189.out] at ho; have n0_ := Aside0.mk (hb); have n1_ := Aside0.mk (ho); clear HB; clear HO112; have HB := n0_; have HO191 := n1_; clear n0_ n1_; clear ho hb hg hat) | ((with_reducible refine gate_builtin (b := .append) (xs := #[.tmp 71, .tmp 74]) rfl ?_); at_builtin; refine Kd.R_append (Kd.int .u8) (w0 := w) w.heap.size rfl (.tmp 71) (.tmp 74) 47 5 (.int .u8 0) 1 rfl Try.underlying47 info5 rfl (by decide) (by omega) v190 y189 ((a0) % 256) [.int .u8 ((a0) % 256)] (fun _ => True) (fun _ => False) rfl rfl ?aP (fun _ hk => hk.elim) ?aF ?aO ?aB ?aS ?aL ?_; (case aP => exact rfl); (case aB => exact (Yr HB)); (case aF => exact (fun _ _ => trivial)); (case aO => exact (by (with_reducible repeat (first | apply Kd.R_alloc | apply Kd.R_drewN | apply Kd.R_drew)); exact HO191.out)); (case aS => exact (below_size (Yr HB))); (case aL => have := LMc91.out; omega); intro v193 w97 ho hb hg hat; rw [← Ny192.out] at ho; have n0_ := Aside0.mk (hb); have n1_ := Aside0.mk (ho); clear HB; clear HO191; have HB := n0_; have HO194 := n1_; clear n0_ n1_; clear ho hb hg hat; have hcv98 := own_string (P := Try.prog) Try.underlying47 Try.underlying5 Try.underlying9 (Kd.own_of_R HO194.out)))
              go_ret2
              exact ⟨by first | rfl | (simp [errW_none, errW_some] <;> rfl) | (simp [*, errW_none, errW_some] <;> rfl), Yr HB⟩
             ·
              rw [if_neg c91] at H
              exact absurd H (by simp)
            ·
             rw [if_neg c90] at H
             exact absurd H (by simp)
           ·
            rw [if_neg c89] at H
            have c89b0 : (t109 == 2) = false := beq_eq_false_iff_ne.mpr c89
            have c89b1 : (t109 != 2) = true := bne_iff_ne.mpr c89
            by_cases c99 : t109 = 1
            ·
             rw [if_pos c99] at H
             have c99b0 : (t109 == 1) = true := beq_iff_eq.mpr c99
             have c99b1 : (t109 != 1) = false := bne_eq_false_iff_eq.mpr c99
             clear c99
             by_cases c100 : y113.length < 140737488355328
             ·
              rw [if_pos c100] at H
              have LMc100 := Aside0.mk c100
              clear c100
              obtain ⟨y195, hy195⟩ : ∃ y_ : List Int, y_ = (y113 ++ [(a0) % 256]) := ⟨_, rfl⟩
              replace H : (some (strOfNums y195, none)) = some (r1, r2) := by first | (rw [hy195]; with_reducible exact H) | (have H2_ := (Option.bind_some _ _).symm.trans H; rw [hy195]; with_reducible exact H2_) | (have H2_ := (Option.bind_some _ _).symm.trans H; with_reducible exact H2_) | with_reducible exact H | (rw [hy195]; exact H) | exact H
              have Ny195 := Aside0.mk hy195
              clear hy195
              simp only [Option.some.injEq, Prod.mk.injEq] at H
              obtain ⟨rfl, rfl⟩ := H
              go_wp2_with (first | ((with_reducible refine gate_callee (f := 30) rfl ?_); refine goesL_ (some 14) rfl rfl Try.func30 (by kernel_rfl) rfl #[.int .i64 a0] rfl (by (try simp only [List.map_toArray, List.map_cons, List.map_nil]); first | done | rfl | (simp only [List.length_drop, List.length_take]; rfl)) ?_; (with_reducible refine (pack_size.calls kj1 a0 t109 _ A5.out).mono ?_); rintro e w' ⟨rfl, ⟨nd, rfl⟩⟩; refine ⟨_, rfl, ?_⟩; (try (rw [drewN_self wc]; generalize hq_ : World.drewN wc _ = wc; have n0_ : Aside0 (Below w.heap.size w wc) := ⟨by rw [← hq_]; exact (Yr HB)⟩; clear HB hq_; have HB := n0_; clear n0_))) | ((with_reducible refine gate_dst (N := 15) rfl ?_); refine Go.Proofs.YtnmlnngmfagmfaaX.R_make_cap (Kd.int .u8) _ 5 rfl (N := 15) rfl 47 _ _ rfl 1 8 rfl rfl Try.underlying47 (.int .u8 0) 1 info5 rfl (by decide) (by omega) 0 (ok := fun _ => True) (okp := fun _ => True) rfl (fun _ hk => hk) trivial (by omega) (by omega) (by omega) (Below.refl _ _) (Nat.le_refl _) ?_; intro v111 w101 ho102 hb hg_ hnew_; clear hg_ hnew_; (first | rw [← Ny110.out] at ho102 | (simp only [Int.reduceToNat] at ho102; rw [← Ny110.out] at ho102)); have n0_ := Aside0.mk (Kd.R_lower ho102 (below_size (Yr HB))); have n1_ := Aside0.mk (Yv HB hb); clear HB; have HO112 := n0_; have HB := n1_; clear n0_ n1_; clear hb ho102; have p8 : 0 ≤ (0 : Int) := (by omega); have q8 : (0 : Int) < ((y110.length : Int) : Int) := of_decide_eq_true (by first | (with_reducible assumption) | assumption); have qi8 : (0 < y110.length) = True := eq_true (by omega); obtain ⟨go8, co8, eo8, gb8, gl8, cl8, HG8⟩ := Kd.R_form HO112.out (by omega); (first | cases eo8 | (injection eo8 with ea_ en_ ec_; (first | subst ea_ | (injection ea_ with ea_; subst ea_)); subst ec_; clear en_)); have GB8 := Aside0.mk gb8; have GG8 := Aside0.mk HG8; clear gb8 gl8 HG8; obtain ⟨hx8_0, hf8_0⟩ := Kd.R_celln 0 HO112.out (0 : Int) p8 q8; (try rw [show ((0 : Int)).toNat = 0 from rfl] at hx8_0); (try simp only [Nat.reduceMul, Nat.zero_mul, Nat.zero_add, Nat.reduceAdd] at hx8_0); (try rw [show ((0 : Int)).toNat = 0 from rfl] at hf8_0); (try simp only [Nat.reduceMul, Nat.zero_mul, Nat.zero_add, Nat.reduceAdd] at hf8_0); replace p8 := eq_true p8; replace q8 := eq_true q8; obtain ⟨hy103_, hz103_⟩ := Kd.R_celln 0 HO112.out (0 : Int) (by omega) (of_decide_eq_true (by first | (with_reducible assumption) | assumption)); (try simp only [Int.reduceToNat, Int.toNat_zero, Int.toNat_ofNat, Nat.reduceMul, Nat.zero_mul, Nat.zero_add] at hy103_ hz103_); (try rw [show ((0 : Int)).toNat = 0 from rfl] at hy103_); (try rw [show ((0 : Int)).toNat = 0 from rfl] at hz103_); have HP103 := Kd.R_putg HO112.out (0 : Int) ((t109) % 256)) | ((with_reducible refine gate_store (t := 5) (p := 19) rfl ?_); refine store_event (t := 5) (p := 19) (v := ?vo_w104) (w1 := (w101.setCell ⟨go8, (0 : Int).toNat, none⟩ (.int .u8 ((t109) % 256)))) ?hg ?ho ?hn ?hr ?_; (case ho => rfl); (case hg => rfl); (case hn => rfl); (case hr => first | (go_simp; done) | (go_simp; rfl)); intro w104 hw; have hg : w101.grownBy w104 (some go8) := (by rw [hw]; exact HP103.2); have hp_ : Kd.R (Kd.int .u8) 5 w104 w.heap.size (fun _ => True) (.slice (some ⟨go8, 0, none⟩) y110.length co8) y113 := (by rw [hw, Ny113.out]; exact HP103.1); clear HP103; have n0_ := Aside0.mk (hp_); have n1_ := Aside0.mk ((by rw [hw]; exact Ys (HB.out) GB8.out : Below w.heap.size w w104)); clear HO112; clear HB; have HO112 := n0_; have HB := n1_; clear n0_ n1_; clear hg hw hp_) | ((with_reducible refine gate_builtin (b := .append) (xs := #[.tmp 71, .tmp 74]) rfl ?_); at_builtin; refine Kd.R_append (Kd.int .u8) (w0 := w) w.heap.size rfl (.tmp 71) (.tmp 74) 47 5 (.int .u8 0) 1 rfl Try.underlying47 info5 rfl (by decide) (by omega) (.slice (some ⟨go8, 0, none⟩) y110.length co8) y113 ((a0) % 256) [.int .u8 ((a0) % 256)] (fun _ => True) (fun _ => False) rfl rfl ?aP (fun _ hk => hk.elim) ?aF ?aO ?aB ?aS ?aL ?_; (case aP => exact rfl); (case aB => exact (Yr HB)); (case aF => exact (fun _ _ => trivial)); (case aO => exact (by (with_reducible repeat (first | apply Kd.R_alloc | apply Kd.R_drewN | apply Kd.R_drew)); exact HO112.out)); (case aS => exact (below_size (Yr HB))); (case aL => have := LMc100.out; omega); intro v196 w105 ho hb hg hat; rw [← Ny195.out] at ho; have n0_ := Aside0.mk (hb); have n1_ := Aside0.mk (ho); clear HB; clear HO112; have HB := n0_; have HO197 := n1_; clear n0_ n1_; clear ho hb hg hat; have hcv106 := own_string (P := Try.prog) Try.underlying47 Try.underlying5 Try.underlying9 (Kd.own_of_R HO197.out)))
              go_ret2
              exact ⟨by first | rfl | (simp [errW_none, errW_some] <;> rfl) | (simp [*, errW_none, errW_some] <;> rfl), Yr HB⟩
             ·
              rw [if_neg c100] at H
              exact absurd H (by simp)
            ·
             rw [if_neg c99] at H
             have c99b0 : (t109 == 1) = false := beq_eq_false_iff_ne.mpr c99
             have c99b1 : (t109 != 1) = true := bne_iff_ne.mpr c99
             simp only [Option.some.injEq, Prod.mk.injEq] at H
             obtain ⟨rfl, rfl⟩ := H
             go_wp2_with (first | ((with_reducible refine gate_callee (f := 30) rfl ?_); refine goesL_ (some 14) rfl rfl Try.func30 (by kernel_rfl) rfl #[.int .i64 a0] rfl (by (try simp only [List.map_toArray, List.map_cons, List.map_nil]); first | done | rfl | (simp only [List.length_drop, List.length_take]; rfl)) ?_; (with_reducible refine (pack_size.calls kj1 a0 t109 _ A5.out).mono ?_); rintro e w' ⟨rfl, ⟨nd, rfl⟩⟩; refine ⟨_, rfl, ?_⟩; (try (rw [drewN_self wc]; generalize hq_ : World.drewN wc _ = wc; have n0_ : Aside0 (Below w.heap.size w wc) := ⟨by rw [← hq_]; exact (Yr HB)⟩; clear HB hq_; have HB := n0_; clear n0_))) | ((with_reducible refine gate_dst (N := 15) rfl ?_); refine Go.Proofs.YtnmlnngmfagmfaaX.R_make_cap (Kd.int .u8) _ 5 rfl (N := 15) rfl 47 _ _ rfl 1 8 rfl rfl Try.underlying47 (.int .u8 0) 1 info5 rfl (by decide) (by omega) 0 (ok := fun _ => True) (okp := fun _ => True) rfl (fun _ hk => hk) trivial (by omega) (by omega) (by omega) (Below.refl _ _) (Nat.le_refl _) ?_; intro v111 w107 ho108 hb hg_ hnew_; clear hg_ hnew_; (first | rw [← Ny110.out] at ho108 | (simp only [Int.reduceToNat] at ho108; rw [← Ny110.out] at ho108)); have n0_ := Aside0.mk (Kd.R_lower ho108 (below_size (Yr HB))); have n1_ := Aside0.mk (Yv HB hb); clear HB; have HO112 := n0_; have HB := n1_; clear n0_ n1_; clear hb ho108; have p8 : 0 ≤ (0 : Int) := (by omega); have q8 : (0 : Int) < ((y110.length : Int) : Int) := of_decide_eq_true (by first | (with_reducible assumption) | assumption); have qi8 : (0 < y110.length) = True := eq_true (by omega); obtain ⟨go8, co8, eo8, gb8, gl8, cl8, HG8⟩ := Kd.R_form HO112.out (by omega); (first | cases eo8 | (injection eo8 with ea_ en_ ec_; (first | subst ea_ | (injection ea_ with ea_; subst ea_)); subst ec_; clear en_)); have GB8 := Aside0.mk gb8; have GG8 := Aside0.mk HG8; clear gb8 gl8 HG8; obtain ⟨hx8_0, hf8_0⟩ := Kd.R_celln 0 HO112.out (0 : Int) p8 q8; (try rw [show ((0 : Int)).toNat = 0 from rfl] at hx8_0); (try simp only [Nat.reduceMul, Nat.zero_mul, Nat.zero_add, Nat.reduceAdd] at hx8_0); (try rw [show ((0 : Int)).toNat = 0 from rfl] at hf8_0); (try simp only [Nat.reduceMul, Nat.zero_mul, Nat.zero_add, Nat.reduceAdd] at hf8_0); replace p8 := eq_true p8; replace q8 := eq_true q8; obtain ⟨hy109_, hz109_⟩ := Kd.R_celln 0 HO112.out (0 : Int) (by omega) (of_decide_eq_true (by first | (with_reducible assumption) | assumption)); (try simp only [Int.reduceToNat, Int.toNat_zero, Int.toNat_ofNat, Nat.reduceMul, Nat.zero_mul, Nat.zero_add] at hy109_ hz109_); (try rw [show ((0 : Int)).toNat = 0 from rfl] at hy109_); (try rw [show ((0 : Int)).toNat = 0 from rfl] at hz109_); have HP109 := Kd.R_putg HO112.out (0 : Int) ((t109) % 256)) | ((with_reducible refine gate_store (t := 5) (p := 19) rfl ?_); refine store_event (t := 5) (p := 19) (v := ?vo_w110) (w1 := (w107.setCell ⟨go8, (0 : Int).toNat, none⟩ (.int .u8 ((t109) % 256)))) ?hg ?ho ?hn ?hr ?_; (case ho => rfl); (case hg => rfl); (case hn => rfl); (case hr => first | (go_simp; done) | (go_simp; rfl)); intro w110 hw; have hg : w107.grownBy w110 (some go8) := (by rw [hw]; exact HP109.2); have hp_ : Kd.R (Kd.int .u8) 5 w110 w.heap.size (fun _ => True) (.slice (some ⟨go8, 0, none⟩) y110.length co8) y113 := (by rw [hw, Ny113.out]; exact HP109.1); clear HP109; have n0_ := Aside0.mk (hp_); have n1_ := Aside0.mk ((by rw [hw]; exact Ys (HB.out) GB8.out : Below w.heap.size w w110)); clear HO112; clear HB; have HO112 := n0_; have HB := n1_; clear n0_ n1_; clear hg hw hp_; have hcv111 := own_string (P := Try.prog) Try.underlying47 Try.underlying5 Try.underlying9 (Kd.own_of_R HO112.out)))
             go_ret2
             exact ⟨by first | rfl | (simp [errW_none, errW_some] <;> rfl) | (simp [*, errW_none, errW_some] <;> rfl), Yr HB⟩
     ·
      rw [if_neg c7] at H
      exact absurd H (by simp)
    ·
     rw [if_neg c6] at H
     exact absurd H (by simp)

/-! ### pack_Text: function 21 -/
def pack_Text.f (k : Nat) (a0 : ByteArray) : Option (ByteArray × Option Int) := if (a0.size : Int) > 1048576 then (some ((⟨#[]⟩ : ByteArray), some 5)) else ((pack_Num.f k (a0.size : Int)).bind fun bt198 => (if bt198.1.size + a0.size ≤ 9223372036854775807 then (some (bt198.1 ++ a0, bt198.2)) else (none)))
theorem pack_Text.mono : ∀ a0 k, LeO (pack_Text.f k a0) (pack_Text.f (k + 1) a0) := by
 intro a0 k
 unfold pack_Text.f
 repeat' first
   | (with_reducible exact pack_Num.mono _ _)
   | (with_reducible exact LeO.refl _)
   | (with_reducible exact LeO.none _)
   | (with_reducible refine LeO.ite ?_ ?_)
   | (with_reducible refine LeO.bind ?_ (fun _ => ?_))
   | exact pack_Num.mono _ _
   | exact LeO.none _
   | refine LeO.ite ?_ ?_
   | refine LeO.bind ?_ (fun _ => ?_)
set_option maxHeartbeats 8000000 in
set_option maxRecDepth 100000 in
theorem pack_Text.calls (k : Nat) (a0 : ByteArray) (r1 : ByteArray) (r2 : Option Int) (w : World) (h : pack_Text.f k a0 = some (r1, r2)) :
  Calls Try.prog 21 #[.string a0] w fun e w' => e = .returned (.tuple #[.string r1, errW r2]) ∧ Below w.heap.size w w' := by
 have hu31 := Try.underlying31
 have hu48 := Try.underlying48
 have HB := Aside0.mk (Below.refl w.heap.size w)
 have H : (if (a0.size : Int) > 1048576 then (some ((⟨#[]⟩ : ByteArray), some 5)) else ((pack_Num.f k (a0.size : Int)).bind fun bt198 => (if bt198.1.size + a0.size ≤ 9223372036854775807 then (some (bt198.1 ++ a0, bt198.2)) else (none)))) = some (r1, r2) := h
 clear h
 by_cases c2 : (a0.size : Int) > 1048576
 ·
  rw [if_pos c2] at H
  have c2b0 : decide (1048576 < (a0.size : Int)) = true := decide_eq_true c2
  have c2b1 : decide (1048576 < a0.size) = true := decide_eq_true (by omega)
  clear c2
  simp only [Option.some.injEq, Prod.mk.injEq] at H
  obtain ⟨rfl, rfl⟩ := H
  go_enter Try.func21, Try.ntmps21
  go_wp2
  go_ret2
  exact ⟨by first | rfl | (simp [errW_none, errW_some] <;> rfl) | (simp [*, errW_none, errW_some] <;> rfl), Yr HB⟩
 ·
  rw [if_neg c2] at H
  have c2b0 : decide (1048576 < (a0.size : Int)) = false := decide_eq_false c2
  have c2b1 : decide (1048576 < a0.size) = false := decide_eq_false (by omega)
  clear c2
  replace H := Option.bind_eq_some_iff.mp H
  obtain ⟨⟨t198, t199⟩, A30, H⟩ := H
  replace H : (if t198.size + a0.size ≤ 9223372036854775807 then (some (t198 ++ a0, t199)) else (none)) = some (r1, r2) := H
  have A3 := Aside0.mk A30
  clear A30
  by_cases c4 : t198.size + a0.size ≤ 9223372036854775807
  ·
   rw [if_pos c4] at H
   have c4b0 := eq_true c4
   have c4b1 : decide (t198.size + a0.size ≤ 9223372036854775807) = true := decide_eq_true c4
   try have c4b2 : (9223372036854775807 < t198.size + a0.size) = False := eq_false (Nat.not_lt.2 c4)
   simp only [Option.some.injEq, Prod.mk.injEq] at H
   obtain ⟨rfl, rfl⟩ := H
   go_enter Try.func21, Try.ntmps21
   go_wp2_with (first | ((with_reducible refine gate_callee (f := 22) rfl ?_); refine goesL_ (some 13) rfl rfl Try.func22 (by kernel_rfl) rfl #[.int .i64 (a0.size : Int)] rfl (by (try simp only [List.map_toArray, List.map_cons, List.map_nil]); first | done | rfl | (simp only [List.length_drop, List.length_take]; rfl)) ?_; (with_reducible refine (pack_Num.calls k (a0.size : Int) t198 t199 _ A3.out).mono ?_); rintro e w5 ⟨rfl, hb⟩; refine ⟨_, rfl, ?_⟩; have n0_ := Aside0.mk (Yv HB hb); clear HB; have HB := n0_; clear n0_; (try clear hb); (try clear hb2); (try clear hk); (try clear hi); (try simp only [errW_none, errW_some])))
   go_ret2
   exact ⟨by first | rfl | (simp [errW_none, errW_some] <;> rfl) | (simp [*, errW_none, errW_some] <;> rfl), Yr HB⟩
  ·
   rw [if_neg c4] at H
   exact absurd H (by simp)

end Go.Proofs.Ytnmlnngmfagmfaa.Print
