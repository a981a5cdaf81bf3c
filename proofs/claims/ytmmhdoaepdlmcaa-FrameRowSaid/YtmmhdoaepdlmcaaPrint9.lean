-- Printed out of the translation by a program of this session's own. Not trusted: Lean checks it.
import Derived.Test.YtmmhdoaepdlmcaaPrint0
import Derived.Test.YtmmhdoaepdlmcaaPrint3
import Derived.Test.YtmmhdoaepdlmcaaPrint4
import Derived.Test.YtmmhdoaepdlmcaaPrint7
namespace Go.Proofs.Ytmmhdoaepdlmcaa.Print
open Go.RowKit Go.Proofs.YtmmhdoaepdlmcaaW.PrintWords Go.Proofs.YtmmhdoaepdlmcaaW.PrintLast Go.Proofs.YtmmhdoaepdlmcaaW.PrintMore Go.Proofs.YtmmhdoaepdlmcaaX
attribute [local go_sem] max2_int min2_int max_two min_two max_three min_three max_four min_four   -- for this text's walks alone
set_option linter.unusedVariables false
set_option linter.unusedSimpArgs false

/-! ### palinodelaw03_FrameRow: function 8 -/
mutual
def palinodelaw03_FrameRow.l0 : Nat → List ByteArray → ByteArray → Int → Bool → ByteArray → Int → Option (Bool)
 | 0, _, _, _, _, _, _ => none
 | k + 1, x0, x1, x2, x7, x8, x9 => if x9 < (x0.length : Int) then (if 0 ≤ x9 then ((frame_Put.f k (rdOf ByteArray.empty x0 x9)).bind fun bt329 => (if bt329.2.isNone = true then (if x8.size + bt329.1.size ≤ 9223372036854775807 then (palinodelaw03_FrameRow.l0 k x0 x1 x2 x7 (x8 ++ bt329.1) (wrap64 (x9 + 1))) else (none)) else (if x7 = true then (some (decide (((rdOf ByteArray.empty x0 x9).size : Int) > 1048576))) else (some false)))) else (none)) else ((frame_All.f k x8).bind fun bt333 => (if (bt333.1.length : Int) = (x0.length : Int) then (if bt333.2.1 = (x8.size : Int) then (if bt333.2.2.isNone = true then (palinodelaw03_FrameRow.j1 k x0 x1 x2 x7 x8 bt333.1 false) else (palinodelaw03_FrameRow.j1 k x0 x1 x2 x7 x8 bt333.1 true)) else (palinodelaw03_FrameRow.j1 k x0 x1 x2 x7 x8 bt333.1 true)) else (palinodelaw03_FrameRow.j1 k x0 x1 x2 x7 x8 bt333.1 true)))
def palinodelaw03_FrameRow.j1 : Nat → List ByteArray → ByteArray → Int → Bool → ByteArray → List ByteArray → Bool → Option (Bool)
 | 0, _, _, _, _, _, _, _ => none
 | k + 1, x0, x1, x2, x7, x8, x12, x76 => if x76 = true then (some false) else (palinodelaw03_FrameRow.l1 k x0 x1 x2 x7 x8 x12 0)
def palinodelaw03_FrameRow.l1 : Nat → List ByteArray → ByteArray → Int → Bool → ByteArray → List ByteArray → Int → Option (Bool)
 | 0, _, _, _, _, _, _, _ => none
 | k + 1, x0, x1, x2, x7, x8, x12, x15 => if x15 < (x0.length : Int) then (if 0 ≤ x15 then (if x15 < (x12.length : Int) then (if (rdOf ByteArray.empty x12 x15).toList = (rdOf ByteArray.empty x0 x15).toList then (palinodelaw03_FrameRow.l1 k x0 x1 x2 x7 x8 x12 (wrap64 (x15 + 1))) else (some false)) else (none)) else (none)) else ((frame_Put.f k x1).bind fun bt341 => (if bt341.2.isNone = true then (palinodelaw03_FrameRow.j3 k x0 x1 x2 x7 x8 bt341.1 ((bt341.1.size : Int) == 0)) else (palinodelaw03_FrameRow.j3 k x0 x1 x2 x7 x8 bt341.1 true)))
def palinodelaw03_FrameRow.j3 : Nat → List ByteArray → ByteArray → Int → Bool → ByteArray → ByteArray → Bool → Option (Bool)
 | 0, _, _, _, _, _, _, _ => none
 | k + 1, x0, x1, x2, x7, x8, x16, x103 => if x103 = true then (if x7 = true then (some (decide ((x1.size : Int) > 1048576))) else (some false)) else (if x2 < 0 then (palinodelaw03_FrameRow.j4 k x0 (wrap64 (-(wrap64 (x2 + 1)))) x7 x8 x16) else (palinodelaw03_FrameRow.j4 k x0 x2 x7 x8 x16))
def palinodelaw03_FrameRow.j4 : Nat → List ByteArray → Int → Bool → ByteArray → ByteArray → Option (Bool)
 | 0, _, _, _, _, _ => none
 | k + 1, x0, x2, x7, x8, x16 => if (x16.size : Int) = 0 then (none) else (if (wrap64 (1 + (Int.tmod x2 (x16.size : Int)))) = (x16.size : Int) then (some x7) else (if 0 ≤ (wrap64 (1 + (Int.tmod x2 (x16.size : Int)))) then (if (wrap64 (1 + (Int.tmod x2 (x16.size : Int)))) ≤ (x16.size : Int) then (if x8.size + (x16.extract 0 ((wrap64 (1 + (Int.tmod x2 (x16.size : Int)))) : Int).toNat).size ≤ 9223372036854775807 then ((frame_All.f k (x8 ++ (x16.extract 0 ((wrap64 (1 + (Int.tmod x2 (x16.size : Int)))) : Int).toNat))).bind fun bt344 => (if x7 = true then (if (bt344.1.length : Int) = (x0.length : Int) then (if bt344.2.1 = (x8.size : Int) then ((palinodelaw03_is.f bt344.2.2 2).bind fun t349 => (some t349)) else (some false)) else (some false)) else (some false))) else (none)) else (none)) else (none)))
end
def palinodelaw03_FrameRow.f (k : Nat) (l0 : List ByteArray) (a1 : ByteArray) (a2 : Int) : Option (Bool) := (palinodelaw03_examples.f k).bind fun t326 => (if 0 ≤ (mn (l0.length : Int) 20) then (if (mn (l0.length : Int) 20) ≤ (l0.length : Int) then (palinodelaw03_FrameRow.l0 k (l0.take ((mn (l0.length : Int) 20) : Int).toNat) a1 a2 t326 (⟨#[]⟩ : ByteArray) 0) else (none)) else (none))
theorem palinodelaw03_FrameRow.mono_l : ∀ k, (∀ y0 y1 y2 y3 y4 y5, LeO (palinodelaw03_FrameRow.l0 k y0 y1 y2 y3 y4 y5) (palinodelaw03_FrameRow.l0 (k + 1) y0 y1 y2 y3 y4 y5)) ∧ (∀ y0 y1 y2 y3 y4 y5 y6, LeO (palinodelaw03_FrameRow.j1 k y0 y1 y2 y3 y4 y5 y6) (palinodelaw03_FrameRow.j1 (k + 1) y0 y1 y2 y3 y4 y5 y6)) ∧ (∀ y0 y1 y2 y3 y4 y5 y6, LeO (palinodelaw03_FrameRow.l1 k y0 y1 y2 y3 y4 y5 y6) (palinodelaw03_FrameRow.l1 (k + 1) y0 y1 y2 y3 y4 y5 y6)) ∧ (∀ y0 y1 y2 y3 y4 y5 y6, LeO (palinodelaw03_FrameRow.j3 k y0 y1 y2 y3 y4 y5 y6) (palinodelaw03_FrameRow.j3 (k + 1) y0 y1 y2 y3 y4 y5 y6)) ∧ (∀ y0 y1 y2 y3 y4, LeO (palinodelaw03_FrameRow.j4 k y0 y1 y2 y3 y4) (palinodelaw03_FrameRow.j4 (k + 1) y0 y1 y2 y3 y4))
 | 0 => ⟨fun _ _ _ _ _ _ r h => by simp [palinodelaw03_FrameRow.l0] at h, fun _ _ _ _ _ _ _ r h => by simp [palinodelaw03_FrameRow.j1] at h, fun _ _ _ _ _ _ _ r h => by simp [palinodelaw03_FrameRow.l1] at h, fun _ _ _ _ _ _ _ r h => by simp [palinodelaw03_FrameRow.j3] at h, fun _ _ _ _ _ r h => by simp [palinodelaw03_FrameRow.j4] at h⟩
 | k + 1 => by
  obtain ⟨ih0, ih1, ih2, ih3, ih4⟩ := palinodelaw03_FrameRow.mono_l k
  refine ⟨?_, ?_, ?_, ?_, ?_⟩
  ·
   intro y0 y1 y2 y3 y4 y5
   unfold palinodelaw03_FrameRow.l0
   repeat' first
   | (with_reducible exact ih0 _ _ _ _ _ _)
   | (with_reducible exact ih1 _ _ _ _ _ _ _)
   | (with_reducible exact ih2 _ _ _ _ _ _ _)
   | (with_reducible exact ih3 _ _ _ _ _ _ _)
   | (with_reducible exact ih4 _ _ _ _ _)
   | (with_reducible exact frame_All.mono _ _)
   | (with_reducible exact frame_Put.mono _ _)
   | (with_reducible exact palinodelaw03_examples.mono _)
   | (with_reducible exact LeO.refl _)
   | (with_reducible exact LeO.none _)
   | (with_reducible refine LeO.ite ?_ ?_)
   | (with_reducible refine LeO.bind ?_ (fun _ => ?_))
   | exact ih0 _ _ _ _ _ _
   | exact ih1 _ _ _ _ _ _ _
   | exact ih2 _ _ _ _ _ _ _
   | exact ih3 _ _ _ _ _ _ _
   | exact ih4 _ _ _ _ _
   | exact frame_All.mono _ _
   | exact frame_Put.mono _ _
   | exact palinodelaw03_examples.mono _
   | exact LeO.none _
   | refine LeO.ite ?_ ?_
   | refine LeO.bind ?_ (fun _ => ?_)
  ·
   intro y0 y1 y2 y3 y4 y5 y6
   unfold palinodelaw03_FrameRow.j1
   repeat' first
   | (with_reducible exact ih0 _ _ _ _ _ _)
   | (with_reducible exact ih1 _ _ _ _ _ _ _)
   | (with_reducible exact ih2 _ _ _ _ _ _ _)
   | (with_reducible exact ih3 _ _ _ _ _ _ _)
   | (with_reducible exact ih4 _ _ _ _ _)
   | (with_reducible exact frame_All.mono _ _)
   | (with_reducible exact frame_Put.mono _ _)
   | (with_reducible exact palinodelaw03_examples.mono _)
   | (with_reducible exact LeO.refl _)
   | (with_reducible exact LeO.none _)
   | (with_reducible refine LeO.ite ?_ ?_)
   | (with_reducible refine LeO.bind ?_ (fun _ => ?_))
   | exact ih0 _ _ _ _ _ _
   | exact ih1 _ _ _ _ _ _ _
   | exact ih2 _ _ _ _ _ _ _
   | exact ih3 _ _ _ _ _ _ _
   | exact ih4 _ _ _ _ _
   | exact frame_All.mono _ _
   | exact frame_Put.mono _ _
   | exact palinodelaw03_examples.mono _
   | exact LeO.none _
   | refine LeO.ite ?_ ?_
   | refine LeO.bind ?_ (fun _ => ?_)
  ·
   intro y0 y1 y2 y3 y4 y5 y6
   unfold palinodelaw03_FrameRow.l1
   repeat' first
   | (with_reducible exact ih0 _ _ _ _ _ _)
   | (with_reducible exact ih1 _ _ _ _ _ _ _)
   | (with_reducible exact ih2 _ _ _ _ _ _ _)
   | (with_reducible exact ih3 _ _ _ _ _ _ _)
   | (with_reducible exact ih4 _ _ _ _ _)
   | (with_reducible exact frame_All.mono _ _)
   | (with_reducible exact frame_Put.mono _ _)
   | (with_reducible exact palinodelaw03_examples.mono _)
   | (with_reducible exact LeO.refl _)
   | (with_reducible exact LeO.none _)
   | (with_reducible refine LeO.ite ?_ ?_)
   | (with_reducible refine LeO.bind ?_ (fun _ => ?_))
   | exact ih0 _ _ _ _ _ _
   | exact ih1 _ _ _ _ _ _ _
   | exact ih2 _ _ _ _ _ _ _
   | exact ih3 _ _ _ _ _ _ _
   | exact ih4 _ _ _ _ _
   | exact frame_All.mono _ _
   | exact frame_Put.mono _ _
   | exact palinodelaw03_examples.mono _
   | exact LeO.none _
   | refine LeO.ite ?_ ?_
   | refine LeO.bind ?_ (fun _ => ?_)
  ·
   intro y0 y1 y2 y3 y4 y5 y6
   unfold palinodelaw03_FrameRow.j3
   repeat' first
   | (with_reducible exact ih0 _ _ _ _ _ _)
   | (with_reducible exact ih1 _ _ _ _ _ _ _)
   | (with_reducible exact ih2 _ _ _ _ _ _ _)
   | (with_reducible exact ih3 _ _ _ _ _ _ _)
   | (with_reducible exact ih4 _ _ _ _ _)
   | (with_reducible exact frame_All.mono _ _)
   | (with_reducible exact frame_Put.mono _ _)
   | (with_reducible exact palinodelaw03_examples.mono _)
   | (with_reducible exact LeO.refl _)
   | (with_reducible exact LeO.none _)
   | (with_reducible refine LeO.ite ?_ ?_)
   | (with_reducible refine LeO.bind ?_ (fun _ => ?_))
   | exact ih0 _ _ _ _ _ _
   | exact ih1 _ _ _ _ _ _ _
   | exact ih2 _ _ _ _ _ _ _
   | exact ih3 _ _ _ _ _ _ _
   | exact ih4 _ _ _ _ _
   | exact frame_All.mono _ _
   | exact frame_Put.mono _ _
   | exact palinodelaw03_examples.mono _
   | exact LeO.none _
   | refine LeO.ite ?_ ?_
   | refine LeO.bind ?_ (fun _ => ?_)
  ·
   intro y0 y1 y2 y3 y4
   unfold palinodelaw03_FrameRow.j4
   repeat' first
   | (with_reducible exact ih0 _ _ _ _ _ _)
   | (with_reducible exact ih1 _ _ _ _ _ _ _)
   | (with_reducible exact ih2 _ _ _ _ _ _ _)
   | (with_reducible exact ih3 _ _ _ _ _ _ _)
   | (with_reducible exact ih4 _ _ _ _ _)
   | (with_reducible exact frame_All.mono _ _)
   | (with_reducible exact frame_Put.mono _ _)
   | (with_reducible exact palinodelaw03_examples.mono _)
   | (with_reducible exact LeO.refl _)
   | (with_reducible exact LeO.none _)
   | (with_reducible refine LeO.ite ?_ ?_)
   | (with_reducible refine LeO.bind ?_ (fun _ => ?_))
   | exact ih0 _ _ _ _ _ _
   | exact ih1 _ _ _ _ _ _ _
   | exact ih2 _ _ _ _ _ _ _
   | exact ih3 _ _ _ _ _ _ _
   | exact ih4 _ _ _ _ _
   | exact frame_All.mono _ _
   | exact frame_Put.mono _ _
   | exact palinodelaw03_examples.mono _
   | exact LeO.none _
   | refine LeO.ite ?_ ?_
   | refine LeO.bind ?_ (fun _ => ?_)
theorem palinodelaw03_FrameRow.mono : ∀ a0 a1 a2 k, LeO (palinodelaw03_FrameRow.f k a0 a1 a2) (palinodelaw03_FrameRow.f (k + 1) a0 a1 a2) := by
 intro a0 a1 a2 k
 obtain ⟨ih0, ih1, ih2, ih3, ih4⟩ := palinodelaw03_FrameRow.mono_l k
 unfold palinodelaw03_FrameRow.f
 repeat' first
   | (with_reducible exact ih0 _ _ _ _ _ _)
   | (with_reducible exact ih1 _ _ _ _ _ _ _)
   | (with_reducible exact ih2 _ _ _ _ _ _ _)
   | (with_reducible exact ih3 _ _ _ _ _ _ _)
   | (with_reducible exact ih4 _ _ _ _ _)
   | (with_reducible exact frame_All.mono _ _)
   | (with_reducible exact frame_Put.mono _ _)
   | (with_reducible exact palinodelaw03_examples.mono _)
   | (with_reducible exact LeO.refl _)
   | (with_reducible exact LeO.none _)
   | (with_reducible refine LeO.ite ?_ ?_)
   | (with_reducible refine LeO.bind ?_ (fun _ => ?_))
   | exact ih0 _ _ _ _ _ _
   | exact ih1 _ _ _ _ _ _ _
   | exact ih2 _ _ _ _ _ _ _
   | exact ih3 _ _ _ _ _ _ _
   | exact ih4 _ _ _ _ _
   | exact frame_All.mono _ _
   | exact frame_Put.mono _ _
   | exact palinodelaw03_examples.mono _
   | exact LeO.none _
   | refine LeO.ite ?_ ?_
   | refine LeO.bind ?_ (fun _ => ?_)
set_option maxHeartbeats 8000000 in
set_option maxRecDepth 100000 in
theorem palinodelaw03_FrameRow.calls (k : Nat) (A0 : Option Addr) (c0 : Nat) (l0 : List ByteArray) (a1 : ByteArray) (a2 : Int) (r : Bool) (w : World) (hr0 : Kd.C Kd.string w A0 l0.length l0) (hc0 : l0.length ≤ c0) (h : palinodelaw03_FrameRow.f k l0 a1 a2 = some r) (HEX_ : Aside0 (∀ k_ r_, palinodelaw03_examples.f k_ = some r_ → r_ = true)) (HRT_ : Aside0 (r = true) := by first | exact ⟨rfl⟩ | assumption) :
  Calls Try.prog 8 #[.slice A0 l0.length c0, .string a1, .int .i64 a2] w fun e w' => e = .returned (.bool r) ∧ Below w.heap.size w w' := by
 have hu24 := Try.underlying24
 have hu50 := Try.underlying50
 have HR0 := Aside0.mk hr0
 have HC0 := Aside0.mk hc0
 clear hr0 hc0
 have HB := Aside0.mk (Below.refl w.heap.size w)
 have H : ((palinodelaw03_examples.f k).bind fun t326 => (if 0 ≤ (mn (l0.length : Int) 20) then (if (mn (l0.length : Int) 20) ≤ (l0.length : Int) then (palinodelaw03_FrameRow.l0 k (l0.take ((mn (l0.length : Int) 20) : Int).toNat) a1 a2 t326 (⟨#[]⟩ : ByteArray) 0) else (none)) else (none))) = some r := h
 clear h
 replace H := Option.bind_eq_some_iff.mp H
 obtain ⟨t326, A40, H⟩ := H
 replace H : (if 0 ≤ (mn (l0.length : Int) 20) then (if (mn (l0.length : Int) 20) ≤ (l0.length : Int) then (palinodelaw03_FrameRow.l0 k (l0.take ((mn (l0.length : Int) 20) : Int).toNat) a1 a2 t326 (⟨#[]⟩ : ByteArray) 0) else (none)) else (none)) = some r := H
 have A4 := Aside0.mk A40
 have HTA4_ : Aside0 (t326 = true) := ⟨HEX_.out _ _ A40⟩
 clear A40
 obtain ⟨ji5, hji5⟩ : ∃ j_ : Int, (mn (l0.length : Int) 20) = j_ := ⟨_, rfl⟩
 replace H : (if 0 ≤ (ji5) then (if (ji5) ≤ (l0.length : Int) then (palinodelaw03_FrameRow.l0 k (l0.take ((ji5) : Int).toNat) a1 a2 t326 (⟨#[]⟩ : ByteArray) 0) else (none)) else (none)) = some r := by first | (rw [hji5] at H; exact H) | (simp only [hji5] at H ⊢; exact H)
 (try rw [hji5] at A4)
 (try (have hji5h : ji5 ≤ 20 := by (rw [← hji5]; unfold mn; (repeat' split) <;> omega)))
 (try (have hji5g : ji5 ≤ 64 := by omega))
 (try (have hji5l : 0 ≤ ji5 := by (rw [← hji5]; unfold mn; (repeat' split) <;> omega)))
 (try (have hji5m : 0 ≤ ji5 := by omega))
 have hji5_ : (if 20 < (l0.length : Int) then 20 else (l0.length : Int)) = ji5 := hji5
 obtain ⟨LC_, hLC_⟩ : ∃ L_ : List ByteArray, l0.take ((ji5) : Int).toNat = L_ := ⟨_, rfl⟩
 rw [hLC_] at H
 by_cases c6 : 0 ≤ (ji5)
 ·
  rw [if_pos c6] at H
  have c6b0 := eq_true c6
  have c6b1 : decide (0 ≤ (ji5)) = true := decide_eq_true c6
  clear c6
  by_cases c7 : (ji5) ≤ (l0.length : Int)
  ·
   rw [if_pos c7] at H
   have c7b0 := eq_true c7
   have c7b1 : decide ((ji5) ≤ (l0.length : Int)) = true := decide_eq_true c7
   clear c7
   have H' := Aside0.mk H
   clear H
   go_enter Try.func8, Try.ntmps8
   go_wp2_with (first | (go_at_call 9; (with_reducible refine (palinodelaw03_examples.calls k  t326 _ A4.out).mono ?_); rintro e w8 ⟨rfl, hb⟩; have n0_ := Aside0.mk (Yv HB hb); clear HB; have HB := n0_; clear n0_; (try clear hb); (try clear hb2); (try clear hk); (try clear hi); obtain ⟨i09, hi09, _, hsz9, _⟩ := info_parts info9; obtain ⟨hcut9, hA9, hC9⟩ := print_take_of (P := Try.prog) Value.string (⟨#[]⟩ : ByteArray) 40 9 .i64 Try.underlying40 hi09 hsz9 A0 c0 l0 (ji5) (of_decide_eq_true (by first | (with_reducible assumption) | assumption)) (of_decide_eq_true (by first | (with_reducible assumption) | assumption)) HC0.out; simp only [hLC_] at hcut9 hA9 hC9; have HR327 := Aside0.mk (Kd.C_of_reads (h1 := fun _ => rfl) (hA9 _ (Kd.reads_of_C HR0.out))); have HC327 := Aside0.mk hC9; clear hA9 hC9 hi09 hsz9))
   repeat (go_quiet (first | (go_at_call 9; (with_reducible refine (palinodelaw03_examples.calls k  t326 _ A4.out).mono ?_); rintro e w8 ⟨rfl, hb⟩; have n0_ := Aside0.mk (Yv HB hb); clear HB; have HB := n0_; clear n0_; (try clear hb); (try clear hb2); (try clear hk); (try clear hi); obtain ⟨i09, hi09, _, hsz9, _⟩ := info_parts info9; obtain ⟨hcut9, hA9, hC9⟩ := print_take_of (P := Try.prog) Value.string (⟨#[]⟩ : ByteArray) 40 9 .i64 Try.underlying40 hi09 hsz9 A0 c0 l0 (ji5) (of_decide_eq_true (by first | (with_reducible assumption) | assumption)) (of_decide_eq_true (by first | (with_reducible assumption) | assumption)) HC0.out; simp only [hLC_] at hcut9 hA9 hC9; have HR327 := Aside0.mk (Kd.C_of_reads (h1 := fun _ => rfl) (hA9 _ (Kd.reads_of_C HR0.out))); have HC327 := Aside0.mk hC9; clear hA9 hC9 hi09 hsz9)); try go_wp2_with (first | (go_at_call 9; (with_reducible refine (palinodelaw03_examples.calls k  t326 _ A4.out).mono ?_); rintro e w8 ⟨rfl, hb⟩; have n0_ := Aside0.mk (Yv HB hb); clear HB; have HB := n0_; clear n0_; (try clear hb); (try clear hb2); (try clear hk); (try clear hi); obtain ⟨i09, hi09, _, hsz9, _⟩ := info_parts info9; obtain ⟨hcut9, hA9, hC9⟩ := print_take_of (P := Try.prog) Value.string (⟨#[]⟩ : ByteArray) 40 9 .i64 Try.underlying40 hi09 hsz9 A0 c0 l0 (ji5) (of_decide_eq_true (by first | (with_reducible assumption) | assumption)) (of_decide_eq_true (by first | (with_reducible assumption) | assumption)) HC0.out; simp only [hLC_] at hcut9 hA9 hC9; have HR327 := Aside0.mk (Kd.C_of_reads (h1 := fun _ => rfl) (hA9 _ (Kd.reads_of_C HR0.out))); have HC327 := Aside0.mk hC9; clear hA9 hC9 hi09 hsz9)))
   go_loopg [8, 9] k (fun kq v8 v9 w' => ∃ (x8_1 : ByteArray) (x9_1 : Int), v8 = .string x8_1 ∧ v9 = .int .i64 x9_1 ∧ Aside0 (palinodelaw03_FrameRow.l0 kq LC_ a1 a2 t326 x8_1 x9_1 = some r) ∧ Aside0 (kq ≤ k) ∧ Aside0 (Below w.heap.size w w'))
   case atStart => exact ⟨((⟨#[]⟩ : ByteArray)), (0), (by first | rfl | (simp; done) | (simp [*]; done)), (by first | rfl | (simp; done) | (simp [*]; done)), H', ⟨Nat.le_refl _⟩, ⟨Yr HB⟩⟩
   case round =>
    clear H'
    try clear p2
    try clear c6
    try clear c6b0
    try clear c6b1
    try clear c7
    try clear c7b0
    try clear c7b1
    try clear c8
    obtain ⟨x8_1, x9_1, rfl, rfl, HA, HK1, HB⟩ := hrel
    cases gk with
    | zero => exact absurd HA.out (by simp [palinodelaw03_FrameRow.l0])
    | succ k1 =>
     have H := HA.out
     clear HA
     simp only [palinodelaw03_FrameRow.l0] at H
     by_cases c10 : x9_1 < (LC_.length : Int)
     ·
      rw [if_pos c10] at H
      have c10b0 : decide (x9_1 < (LC_.length : Int)) = true := decide_eq_true c10
      clear c10
      by_cases c11 : 0 ≤ x9_1
      ·
       rw [if_pos c11] at H
       have c11b0 : decide (0 ≤ x9_1) = true := decide_eq_true c11
       clear c11
       replace H := Option.bind_eq_some_iff.mp H
       obtain ⟨⟨t329, t330⟩, A120, H⟩ := H
       replace H : (if t330.isNone = true then (if x8_1.size + t329.size ≤ 9223372036854775807 then (palinodelaw03_FrameRow.l0 k1 LC_ a1 a2 t326 (x8_1 ++ t329) (wrap64 (x9_1 + 1))) else (none)) else (if t326 = true then (some (decide (((rdOf ByteArray.empty LC_ x9_1).size : Int) > 1048576))) else (some false))) = some r := H
       have A12 := Aside0.mk A120
       clear A120
       rcases t330 with _ | q331
       ·
        have H1 : (if x8_1.size + t329.size ≤ 9223372036854775807 then (palinodelaw03_FrameRow.l0 k1 LC_ a1 a2 t326 (x8_1 ++ t329) (wrap64 (x9_1 + 1))) else (none)) = some r := by rw [if_pos (show (none : Option Int).isNone = true by rfl)] at H; exact H
        clear H
        have H := H1
        clear H1
        try simp only [errW_none, errW_some]
        by_cases c13 : x8_1.size + t329.size ≤ 9223372036854775807
        ·
         rw [if_pos c13] at H
         have c13b0 := eq_true c13
         have c13b1 : decide (x8_1.size + t329.size ≤ 9223372036854775807) = true := decide_eq_true c13
         try have c13b2 : (9223372036854775807 < x8_1.size + t329.size) = False := eq_false (Nat.not_lt.2 c13)
         have H' := Aside0.mk H
         clear H
         have p328 : 0 ≤ (x9_1 : Int) := of_decide_eq_true (by first | (with_reducible assumption) | assumption)
         have q328 : x9_1 < (LC_.length : Int) := of_decide_eq_true (by first | (with_reducible assumption) | assumption)
         obtain ⟨ad328, e328, hx328_0⟩ := Kd.at_string HR327.out x9_1 p328 q328
         cases e328
         replace hx328_0 := (HB.out.cell (World.block_lt_of_cell? w _ hx328_0)).trans hx328_0
         replace p328 := eq_true p328
         replace q328 := eq_true q328
         go_wp2_with (first | (go_at_call 10; (with_reducible refine (frame_Put.calls k1 (rdOf ByteArray.empty LC_ x9_1) t329 none _ A12.out).mono ?_); rintro e w14 ⟨rfl, hb⟩; have n0_ := Aside0.mk (Yv HB hb); clear HB; have HB := n0_; clear n0_; (try clear hb); (try clear hb2); (try clear hk); (try clear hi); (try simp only [errW_none, errW_some])))
         repeat (go_quiet (first | (go_at_call 10; (with_reducible refine (frame_Put.calls k1 (rdOf ByteArray.empty LC_ x9_1) t329 none _ A12.out).mono ?_); rintro e w14 ⟨rfl, hb⟩; have n0_ := Aside0.mk (Yv HB hb); clear HB; have HB := n0_; clear n0_; (try clear hb); (try clear hb2); (try clear hk); (try clear hi); (try simp only [errW_none, errW_some]))); try go_wp2_with (first | (go_at_call 10; (with_reducible refine (frame_Put.calls k1 (rdOf ByteArray.empty LC_ x9_1) t329 none _ A12.out).mono ?_); rintro e w14 ⟨rfl, hb⟩; have n0_ := Aside0.mk (Yv HB hb); clear HB; have HB := n0_; clear n0_; (try clear hb); (try clear hb2); (try clear hk); (try clear hi); (try simp only [errW_none, errW_some]))))
         go_roundg k1
         case measure => have := HK1.out; omega
         case rel => exact ⟨(x8_1 ++ t329), (wrap64 (x9_1 + 1)), (by first | rfl | (simp; done) | (simp [*]; done)), (by first | rfl | (simp; done) | (simp [*]; done)), H', ⟨by have := HK1.out; omega⟩, ⟨Yr HB⟩⟩
        ·
         rw [if_neg c13] at H
         exact absurd H (by simp)
       ·
        have H1 : (if t326 = true then (some (decide (((rdOf ByteArray.empty LC_ x9_1).size : Int) > 1048576))) else (some false)) = some r := by rw [if_neg (show ¬ (some q331).isNone = true by simp)] at H; exact H
        clear H
        have H := H1
        clear H1
        try simp only [errW_none, errW_some]
        by_cases c15 : t326 = true
        ·
         subst c15
         have H1 : (some (decide (((rdOf ByteArray.empty LC_ x9_1).size : Int) > 1048576))) = some r := by rw [if_pos rfl] at H; exact H
         clear H
         have H := H1
         clear H1
         obtain rfl := Option.some.inj H
         have p328 : 0 ≤ (x9_1 : Int) := of_decide_eq_true (by first | (with_reducible assumption) | assumption)
         have q328 : x9_1 < (LC_.length : Int) := of_decide_eq_true (by first | (with_reducible assumption) | assumption)
         obtain ⟨ad328, e328, hx328_0⟩ := Kd.at_string HR327.out x9_1 p328 q328
         cases e328
         replace hx328_0 := (HB.out.cell (World.block_lt_of_cell? w _ hx328_0)).trans hx328_0
         replace p328 := eq_true p328
         replace q328 := eq_true q328
         go_wp2_with (first | (go_at_call 10; (with_reducible refine (frame_Put.calls k1 (rdOf ByteArray.empty LC_ x9_1) t329 (some q331) _ A12.out).mono ?_); rintro e w16 ⟨rfl, hb⟩; have n0_ := Aside0.mk (Yv HB hb); clear HB; have HB := n0_; clear n0_; (try clear hb); (try clear hb2); (try clear hk); (try clear hi); (try simp only [errW_none, errW_some]); have p332 : 0 ≤ (x9_1 : Int) := of_decide_eq_true (by first | (with_reducible assumption) | assumption); have q332 : x9_1 < (LC_.length : Int) := of_decide_eq_true (by first | (with_reducible assumption) | assumption); obtain ⟨ad332, e332, hx332_0⟩ := Kd.at_string HR327.out x9_1 p332 q332; obtain rfl : ad328 = ad332 := (by injection e332); replace hx332_0 := (HB.out.cell (World.block_lt_of_cell? w _ hx332_0)).trans hx332_0; replace p332 := eq_true p332; replace q332 := eq_true q332))
         repeat (go_quiet (first | (go_at_call 10; (with_reducible refine (frame_Put.calls k1 (rdOf ByteArray.empty LC_ x9_1) t329 (some q331) _ A12.out).mono ?_); rintro e w16 ⟨rfl, hb⟩; have n0_ := Aside0.mk (Yv HB hb); clear HB; have HB := n0_; clear n0_; (try clear hb); (try clear hb2); (try clear hk); (try clear hi); (try simp only [errW_none, errW_some]); have p332 : 0 ≤ (x9_1 : Int) := of_decide_eq_true (by first | (with_reducible assumption) | assumption); have q332 : x9_1 < (LC_.length : Int) := of_decide_eq_true (by first | (with_reducible assumption) | assumption); obtain ⟨ad332, e332, hx332_0⟩ := Kd.at_string HR327.out x9_1 p332 q332; obtain rfl : ad328 = ad332 := (by injection e332); replace hx332_0 := (HB.out.cell (World.block_lt_of_cell? w _ hx332_0)).trans hx332_0; replace p332 := eq_true p332; replace q332 := eq_true q332)); try go_wp2_with (first | (go_at_call 10; (with_reducible refine (frame_Put.calls k1 (rdOf ByteArray.empty LC_ x9_1) t329 (some q331) _ A12.out).mono ?_); rintro e w16 ⟨rfl, hb⟩; have n0_ := Aside0.mk (Yv HB hb); clear HB; have HB := n0_; clear n0_; (try clear hb); (try clear hb2); (try clear hk); (try clear hi); (try simp only [errW_none, errW_some]); have p332 : 0 ≤ (x9_1 : Int) := of_decide_eq_true (by first | (with_reducible assumption) | assumption); have q332 : x9_1 < (LC_.length : Int) := of_decide_eq_true (by first | (with_reducible assumption) | assumption); obtain ⟨ad332, e332, hx332_0⟩ := Kd.at_string HR327.out x9_1 p332 q332; obtain rfl : ad328 = ad332 := (by injection e332); replace hx332_0 := (HB.out.cell (World.block_lt_of_cell? w _ hx332_0)).trans hx332_0; replace p332 := eq_true p332; replace q332 := eq_true q332)))
         go_ret
         exact ⟨by first | rfl | (simp [errW_none, errW_some] <;> rfl) | (simp only [← hji5]; first | rfl | (simp [errW_none, errW_some] <;> rfl)) | (simp [*, errW_none, errW_some] <;> rfl), Yr HB⟩
        ·
         replace c15 := Bool.eq_false_iff.mpr c15
         subst c15
         have H1 : (some false) = some r := by rw [if_neg (show ¬ (false = true) by decide)] at H; exact H
         clear H
         have H := H1
         clear H1
         exact absurd ((Option.some.inj H).trans HRT_.out) (by decide)
      ·
       rw [if_neg c11] at H
       exact absurd H (by simp)
     ·
      rw [if_neg c10] at H
      have c10b0 : decide (x9_1 < (LC_.length : Int)) = false := decide_eq_false c10
      clear c10
      replace H := Option.bind_eq_some_iff.mp H
      obtain ⟨⟨t333, t334, t335⟩, A170, H⟩ := H
      replace H : (if (t333.length : Int) = (LC_.length : Int) then (if t334 = (x8_1.size : Int) then (if t335.isNone = true then (palinodelaw03_FrameRow.j1 k1 LC_ a1 a2 t326 x8_1 t333 false) else (palinodelaw03_FrameRow.j1 k1 LC_ a1 a2 t326 x8_1 t333 true)) else (palinodelaw03_FrameRow.j1 k1 LC_ a1 a2 t326 x8_1 t333 true)) else (palinodelaw03_FrameRow.j1 k1 LC_ a1 a2 t326 x8_1 t333 true)) = some r := H
      have A17 := Aside0.mk A170
      clear A170
      have HC18 := Aside0.mk H
      clear H
      go_upto_region 12 with (first | (go_at_call 18; (with_reducible refine (frame_All.calls k1 x8_1 t333 t334 t335 _ A17.out).mono ?_); rintro e w19 ⟨v336, rfl, ho0, hb⟩; have n0_ := Aside0.mk (Kd.R_lower ho0 (below_size (Yr HB))); have n1_ := Aside0.mk (Yv HB hb); clear HB; have HO337 := n0_; have HB := n1_; clear n0_ n1_; (try clear hb); (try clear hb2); (try clear hk); (try clear hi); (try clear ho0); (try simp only [errW_none, errW_some])))
      repeat (go_quiet (first | (go_at_call 18; (with_reducible refine (frame_All.calls k1 x8_1 t333 t334 t335 _ A17.out).mono ?_); rintro e w19 ⟨v336, rfl, ho0, hb⟩; have n0_ := Aside0.mk (Kd.R_lower ho0 (below_size (Yr HB))); have n1_ := Aside0.mk (Yv HB hb); clear HB; have HO337 := n0_; have HB := n1_; clear n0_ n1_; (try clear hb); (try clear hb2); (try clear hk); (try clear hi); (try clear ho0); (try simp only [errW_none, errW_some]))); go_upto_region 12 with (first | (go_at_call 18; (with_reducible refine (frame_All.calls k1 x8_1 t333 t334 t335 _ A17.out).mono ?_); rintro e w19 ⟨v336, rfl, ho0, hb⟩; have n0_ := Aside0.mk (Kd.R_lower ho0 (below_size (Yr HB))); have n1_ := Aside0.mk (Yv HB hb); clear HB; have HO337 := n0_; have HB := n1_; clear n0_ n1_; (try clear hb); (try clear hb2); (try clear hk); (try clear hi); (try clear ho0); (try simp only [errW_none, errW_some]))))
      (try simp only [Act.put, List.setIfInBounds_toArray, List.set_cons_zero, List.set_cons_succ])
      go_cut [76] (fun v76 wc => ∃ (kq : Nat) (x76_17 : Bool), v76 = .bool x76_17 ∧ Aside0 (palinodelaw03_FrameRow.j1 kq LC_ a1 a2 t326 x8_1 t333 x76_17 = some r) ∧ Aside0 (kq ≤ k1) ∧ Aside0 (Kd.R Kd.string 9 wc w.heap.size (fun _ => True) v336 t333) ∧ Aside0 (Below w.heap.size w wc))
      case first =>
       have H := HC18.out
       clear HC18
       by_cases c20 : (t333.length : Int) = (LC_.length : Int)
       ·
        rw [if_pos c20] at H
        have c20b0 : ((t333.length : Int) == (LC_.length : Int)) = true := beq_iff_eq.mpr c20
        have c20b1 : ((t333.length : Int) != (LC_.length : Int)) = false := bne_eq_false_iff_eq.mpr c20
        have c20b2 : (t333.length == LC_.length) = true := by first | simpa using c20 | (simp at c20 ⊢; omega)
        clear c20
        (first | rw [c20b0] | (simp only [i64_w, i32_w]; rw [c20b0]) | skip)
        by_cases c21 : t334 = (x8_1.size : Int)
        ·
         rw [if_pos c21] at H
         have c21b0 : (t334 == (x8_1.size : Int)) = true := beq_iff_eq.mpr c21
         have c21b1 : (t334 != (x8_1.size : Int)) = false := bne_eq_false_iff_eq.mpr c21
         clear c21
         rcases t335 with _ | q338
         ·
          have H1 : (palinodelaw03_FrameRow.j1 k1 LC_ a1 a2 t326 x8_1 t333 false) = some r := by rw [if_pos (show (none : Option Int).isNone = true by rfl)] at H; exact H
          clear H
          have H := H1
          clear H1
          try simp only [errW_none, errW_some]
          have H' := Aside0.mk H
          clear H
          obtain ⟨Ao22, co22, eo22⟩ := Kd.R_slice HO337.out
          subst eo22
          go_wp2
          repeat (go_quiet (fail); try go_wp2)
          go_meet
          case rel => exact ⟨_, (false), (by first | rfl | (simp; done) | (simp [*]; done)), H', ⟨by have := HK1.out; first | omega | exact Nat.le_refl _⟩, ⟨by (with_reducible repeat (first | apply Kd.R_alloc | apply Kd.R_drewN | apply Kd.R_drew)); exact HO337.out⟩, ⟨Yr HB⟩⟩
         ·
          have H1 : (palinodelaw03_FrameRow.j1 k1 LC_ a1 a2 t326 x8_1 t333 true) = some r := by rw [if_neg (show ¬ (some q338).isNone = true by simp)] at H; exact H
          clear H
          have H := H1
          clear H1
          try simp only [errW_none, errW_some]
          have H' := Aside0.mk H
          clear H
          obtain ⟨Ao23, co23, eo23⟩ := Kd.R_slice HO337.out
          subst eo23
          go_wp2
          repeat (go_quiet (fail); try go_wp2)
          go_meet
          case rel => exact ⟨_, (true), (by first | rfl | (simp; done) | (simp [*]; done)), H', ⟨by have := HK1.out; first | omega | exact Nat.le_refl _⟩, ⟨by (with_reducible repeat (first | apply Kd.R_alloc | apply Kd.R_drewN | apply Kd.R_drew)); exact HO337.out⟩, ⟨Yr HB⟩⟩
        ·
         rw [if_neg c21] at H
         have c21b0 : (t334 == (x8_1.size : Int)) = false := beq_eq_false_iff_ne.mpr c21
         have c21b1 : (t334 != (x8_1.size : Int)) = true := bne_iff_ne.mpr c21
         have H' := Aside0.mk H
         clear H
         obtain ⟨Ao24, co24, eo24⟩ := Kd.R_slice HO337.out
         subst eo24
         go_wp2
         repeat (go_quiet (fail); try go_wp2)
         go_meet
         case rel => exact ⟨_, (true), (by first | rfl | (simp; done) | (simp [*]; done)), H', ⟨by have := HK1.out; first | omega | exact Nat.le_refl _⟩, ⟨by (with_reducible repeat (first | apply Kd.R_alloc | apply Kd.R_drewN | apply Kd.R_drew)); exact HO337.out⟩, ⟨Yr HB⟩⟩
       ·
        rw [if_neg c20] at H
        have c20b0 : ((t333.length : Int) == (LC_.length : Int)) = false := beq_eq_false_iff_ne.mpr c20
        have c20b1 : ((t333.length : Int) != (LC_.length : Int)) = true := bne_iff_ne.mpr c20
        have c20b2 : (t333.length == LC_.length) = false := by first | simpa using c20 | (simp at c20 ⊢; omega)
        (first | rw [c20b0] | (simp only [i64_w, i32_w]; rw [c20b0]) | skip)
        have H' := Aside0.mk H
        clear H
        obtain ⟨Ao25, co25, eo25⟩ := Kd.R_slice HO337.out
        subst eo25
        go_wp2
        repeat (go_quiet (fail); try go_wp2)
        go_meet
        case rel => exact ⟨_, (true), (by first | rfl | (simp; done) | (simp [*]; done)), H', ⟨by have := HK1.out; first | omega | exact Nat.le_refl _⟩, ⟨by (with_reducible repeat (first | apply Kd.R_alloc | apply Kd.R_drewN | apply Kd.R_drew)); exact HO337.out⟩, ⟨Yr HB⟩⟩
      case rest =>
       clear HC18
       try clear c1
       try clear c2
       try clear p2
       try clear p3
       try clear q3
       try clear hx3
       try clear c6
       try clear c6b0
       try clear c6b1
       try clear p6
       try clear c7
       try clear c7b0
       try clear c7b1
       try clear c8
       try clear c10
       try clear c10b0
       try clear c11
       try clear c11b0
       try clear c13
       try clear c13b0
       try clear c13b1
       try clear c13b2
       try clear c15
       try clear c20
       try clear c20b0
       try clear c20b1
       try clear c20b2
       try clear c21
       try clear c21b0
       try clear c21b1
       try clear hx328_0
       try clear hx332_0
       try clear p2
       try clear p328
       try clear p332
       try clear q328
       try clear q331
       try clear q332
       try clear q338
       obtain ⟨kq, x76_17, rfl, HA, HJ17, HO_12, HB⟩ := hcut
       cases kq with
       | zero => exact absurd HA.out (by simp [palinodelaw03_FrameRow.j1])
       | succ kj17 =>
        have H := HA.out
        clear HA
        simp only [palinodelaw03_FrameRow.j1] at H
        by_cases c26 : x76_17 = true
        ·
         subst c26
         have H1 : (some false) = some r := by rw [if_pos rfl] at H; exact H
         clear H
         have H := H1
         clear H1
         exact absurd ((Option.some.inj H).trans HRT_.out) (by decide)
        ·
         replace c26 := Bool.eq_false_iff.mpr c26
         subst c26
         have H1 : (palinodelaw03_FrameRow.l1 kj17 LC_ a1 a2 t326 x8_1 t333 0) = some r := by rw [if_neg (show ¬ (false = true) by decide)] at H; exact H
         clear H
         have H := H1
         clear H1
         have H' := Aside0.mk H
         clear H
         go_wp2
         repeat (go_quiet (fail); try go_wp2)
         go_loopg [15] kj17 (fun kq v15 w' => ∃ (x15_3 : Int), v15 = .int .i64 x15_3 ∧ Aside0 (palinodelaw03_FrameRow.l1 kq LC_ a1 a2 t326 x8_1 t333 x15_3 = some r) ∧ Aside0 (kq ≤ kj17) ∧ Aside0 (Kd.R Kd.string 9 w' w.heap.size (fun _ => True) v336 t333) ∧ Aside0 (Below w.heap.size w w'))
         case atStart => exact ⟨(0), (by first | rfl | (simp; done) | (simp [*]; done)), H', ⟨Nat.le_refl _⟩, ⟨by (with_reducible repeat (first | apply Kd.R_alloc | apply Kd.R_drewN | apply Kd.R_drew)); exact HO_12.out⟩, ⟨Yr HB⟩⟩
         case round =>
          clear H'
          try clear c1
          try clear c2
          try clear p2
          try clear p3
          try clear q3
          try clear hx3
          try clear c6
          try clear c6b0
          try clear c6b1
          try clear p6
          try clear c7
          try clear c7b0
          try clear c7b1
          try clear c8
          try clear c10
          try clear c10b0
          try clear c11
          try clear c11b0
          try clear c13
          try clear c13b0
          try clear c13b1
          try clear c13b2
          try clear c15
          try clear c20
          try clear c20b0
          try clear c20b1
          try clear c20b2
          try clear c21
          try clear c21b0
          try clear c21b1
          try clear c26
          try clear hx328_0
          try clear hx332_0
          try clear p2
          try clear p3
          try clear p328
          try clear p332
          try clear p6
          try clear q3
          try clear q328
          try clear q331
          try clear q332
          try clear q338
          obtain ⟨x15_3, rfl, HA, HK3, HO_12, HB⟩ := hrel
          cases gk with
          | zero => exact absurd HA.out (by simp [palinodelaw03_FrameRow.l1])
          | succ k3 =>
           have H := HA.out
           clear HA
           simp only [palinodelaw03_FrameRow.l1] at H
           by_cases c27 : x15_3 < (LC_.length : Int)
           ·
            rw [if_pos c27] at H
            have c27b0 : decide (x15_3 < (LC_.length : Int)) = true := decide_eq_true c27
            clear c27
            by_cases c28 : 0 ≤ x15_3
            ·
             rw [if_pos c28] at H
             have c28b0 : decide (0 ≤ x15_3) = true := decide_eq_true c28
             clear c28
             by_cases c29 : x15_3 < (t333.length : Int)
             ·
              rw [if_pos c29] at H
              have c29b0 : decide (x15_3 < (t333.length : Int)) = true := decide_eq_true c29
              clear c29
              by_cases c30 : (rdOf ByteArray.empty t333 x15_3).toList = (rdOf ByteArray.empty LC_ x15_3).toList
              ·
               rw [if_pos c30] at H
               have c30b0 : ((rdOf ByteArray.empty t333 x15_3).toList == (rdOf ByteArray.empty LC_ x15_3).toList) = true := beq_iff_eq.mpr c30
               have c30b1 : ((rdOf ByteArray.empty t333 x15_3).toList != (rdOf ByteArray.empty LC_ x15_3).toList) = false := bne_eq_false_iff_eq.mpr c30
               clear c30
               have H' := Aside0.mk H
               clear H
               obtain ⟨Ao31, co31, eo31⟩ := Kd.R_slice HO_12.out
               subst eo31
               have p339 : 0 ≤ (x15_3 : Int) := of_decide_eq_true (by first | (with_reducible assumption) | assumption)
               have q339 : x15_3 < (t333.length : Int) := of_decide_eq_true (by first | (with_reducible assumption) | assumption)
               obtain ⟨ad339, e339, hx339_0⟩ := Kd.at_string (Kd.R_reads' HO_12.out).2.2 x15_3 p339 q339
               cases e339
               replace p339 := eq_true p339
               replace q339 := eq_true q339
               have p340 : 0 ≤ (x15_3 : Int) := of_decide_eq_true (by first | (with_reducible assumption) | assumption)
               have q340 : x15_3 < (LC_.length : Int) := of_decide_eq_true (by first | (with_reducible assumption) | assumption)
               obtain ⟨ad340, e340, hx340_0⟩ := Kd.at_string HR327.out x15_3 p340 q340
               cases e340
               replace hx340_0 := (HB.out.cell (World.block_lt_of_cell? w _ hx340_0)).trans hx340_0
               replace p340 := eq_true p340
               replace q340 := eq_true q340
               go_wp2
               repeat (go_quiet (fail); try go_wp2)
               go_roundg k3
               case measure => have := HK1.out; have := HJ17.out; have := HK3.out; omega
               case rel => exact ⟨(wrap64 (x15_3 + 1)), (by first | rfl | (simp; done) | (simp [*]; done)), H', ⟨by have := HK1.out; have := HJ17.out; have := HK3.out; omega⟩, ⟨by (with_reducible repeat (first | apply Kd.R_alloc | apply Kd.R_drewN | apply Kd.R_drew)); exact HO_12.out⟩, ⟨Yr HB⟩⟩
              ·
               rw [if_neg c30] at H
               have c30b0 : ((rdOf ByteArray.empty t333 x15_3).toList == (rdOf ByteArray.empty LC_ x15_3).toList) = false := beq_eq_false_iff_ne.mpr c30
               have c30b1 : ((rdOf ByteArray.empty t333 x15_3).toList != (rdOf ByteArray.empty LC_ x15_3).toList) = true := bne_iff_ne.mpr c30
               exact absurd ((Option.some.inj H).trans HRT_.out) (by decide)
             ·
              rw [if_neg c29] at H
              exact absurd H (by simp)
            ·
             rw [if_neg c28] at H
             exact absurd H (by simp)
           ·
            rw [if_neg c27] at H
            have c27b0 : decide (x15_3 < (LC_.length : Int)) = false := decide_eq_false c27
            clear c27
            replace H := Option.bind_eq_some_iff.mp H
            obtain ⟨⟨t341, t342⟩, A320, H⟩ := H
            replace H : (if t342.isNone = true then (palinodelaw03_FrameRow.j3 k3 LC_ a1 a2 t326 x8_1 t341 ((t341.size : Int) == 0)) else (palinodelaw03_FrameRow.j3 k3 LC_ a1 a2 t326 x8_1 t341 true)) = some r := H
            have A32 := Aside0.mk A320
            clear A320
            have HC33 := Aside0.mk H
            clear H
            go_upto_region 20 with (first | (go_at_call 10; (with_reducible refine (frame_Put.calls k3 a1 t341 t342 _ A32.out).mono ?_); rintro e w34 ⟨rfl, hb⟩; have n0_ := Aside0.mk (Kd.R_below (by (with_reducible repeat (first | apply Kd.R_alloc | apply Kd.R_drewN | apply Kd.R_drew)); exact HO_12.out) hb); have n1_ := Aside0.mk (Yv HB hb); clear HO_12; clear HB; have HO_12 := n0_; have HB := n1_; clear n0_ n1_; (try clear hb); (try clear hb2); (try clear hk); (try clear hi); (try simp only [errW_none, errW_some])))
            repeat (go_quiet (first | (go_at_call 10; (with_reducible refine (frame_Put.calls k3 a1 t341 t342 _ A32.out).mono ?_); rintro e w34 ⟨rfl, hb⟩; have n0_ := Aside0.mk (Kd.R_below (by (with_reducible repeat (first | apply Kd.R_alloc | apply Kd.R_drewN | apply Kd.R_drew)); exact HO_12.out) hb); have n1_ := Aside0.mk (Yv HB hb); clear HO_12; clear HB; have HO_12 := n0_; have HB := n1_; clear n0_ n1_; (try clear hb); (try clear hb2); (try clear hk); (try clear hi); (try simp only [errW_none, errW_some]))); go_upto_region 20 with (first | (go_at_call 10; (with_reducible refine (frame_Put.calls k3 a1 t341 t342 _ A32.out).mono ?_); rintro e w34 ⟨rfl, hb⟩; have n0_ := Aside0.mk (Kd.R_below (by (with_reducible repeat (first | apply Kd.R_alloc | apply Kd.R_drewN | apply Kd.R_drew)); exact HO_12.out) hb); have n1_ := Aside0.mk (Yv HB hb); clear HO_12; clear HB; have HO_12 := n0_; have HB := n1_; clear n0_ n1_; (try clear hb); (try clear hb2); (try clear hk); (try clear hi); (try simp only [errW_none, errW_some]))))
            (try simp only [Act.put, List.setIfInBounds_toArray, List.set_cons_zero, List.set_cons_succ])
            go_cut [103] (fun v103 wc => ∃ (kq : Nat) (x103_32 : Bool), v103 = .bool x103_32 ∧ Aside0 (palinodelaw03_FrameRow.j3 kq LC_ a1 a2 t326 x8_1 t341 x103_32 = some r) ∧ Aside0 (kq ≤ k3) ∧ Aside0 (Below w.heap.size w wc))
            case first =>
             have H := HC33.out
             clear HC33
             rcases t342 with _ | q343
             ·
              have H1 : (palinodelaw03_FrameRow.j3 k3 LC_ a1 a2 t326 x8_1 t341 ((t341.size : Int) == 0)) = some r := by rw [if_pos (show (none : Option Int).isNone = true by rfl)] at H; exact H
              clear H
              have H := H1
              clear H1
              try simp only [errW_none, errW_some]
              have H' := Aside0.mk H
              clear H
              go_wp2
              repeat (go_quiet (fail); try go_wp2)
              go_meet
              case rel => exact ⟨_, (((t341.size : Int) == 0)), (by first | rfl | (simp; done) | (simp [*]; done)), H', ⟨by have := HK1.out; have := HJ17.out; have := HK3.out; first | omega | exact Nat.le_refl _⟩, ⟨Yr HB⟩⟩
             ·
              have H1 : (palinodelaw03_FrameRow.j3 k3 LC_ a1 a2 t326 x8_1 t341 true) = some r := by rw [if_neg (show ¬ (some q343).isNone = true by simp)] at H; exact H
              clear H
              have H := H1
              clear H1
              try simp only [errW_none, errW_some]
              have H' := Aside0.mk H
              clear H
              go_wp2
              repeat (go_quiet (fail); try go_wp2)
              go_meet
              case rel => exact ⟨_, (true), (by first | rfl | (simp; done) | (simp [*]; done)), H', ⟨by have := HK1.out; have := HJ17.out; have := HK3.out; first | omega | exact Nat.le_refl _⟩, ⟨Yr HB⟩⟩
            case rest =>
             clear HC33
             try clear c1
             try clear c2
             try clear p2
             try clear c3
             try clear p3
             try clear q3
             try clear hx3
             try clear c6
             try clear c6b0
             try clear c6b1
             try clear p6
             try clear c7
             try clear c7b0
             try clear c7b1
             try clear c8
             try clear c10
             try clear c10b0
             try clear c11
             try clear c11b0
             try clear c13
             try clear c13b0
             try clear c13b1
             try clear c13b2
             try clear c15
             try clear c20
             try clear c20b0
             try clear c20b1
             try clear c20b2
             try clear c21
             try clear c21b0
             try clear c21b1
             try clear c26
             try clear c27
             try clear c27b0
             try clear c28
             try clear c28b0
             try clear c29
             try clear c29b0
             try clear c30
             try clear c30b0
             try clear c30b1
             try clear p32
             try clear q32
             try clear hx32
             try clear p33
             try clear q33
             try clear hx33
             try clear p34
             try clear q34
             try clear hx34
             try clear hx328_0
             try clear hx332_0
             try clear hx339_0
             try clear hx340_0
             try clear p2
             try clear p3
             try clear p328
             try clear p332
             try clear p339
             try clear p340
             try clear p6
             try clear q3
             try clear q328
             try clear q331
             try clear q332
             try clear q338
             try clear q339
             try clear q340
             try clear q343
             obtain ⟨kq, x103_32, rfl, HA, HJ32, HB⟩ := hcut
             cases kq with
             | zero => exact absurd HA.out (by simp [palinodelaw03_FrameRow.j3])
             | succ kj32 =>
              have H := HA.out
              clear HA
              simp only [palinodelaw03_FrameRow.j3] at H
              by_cases c35 : x103_32 = true
              ·
               subst c35
               have H1 : (if t326 = true then (some (decide ((a1.size : Int) > 1048576))) else (some false)) = some r := by rw [if_pos rfl] at H; exact H
               clear H
               have H := H1
               clear H1
               by_cases c36 : t326 = true
               ·
                subst c36
                have H1 : (some (decide ((a1.size : Int) > 1048576))) = some r := by rw [if_pos rfl] at H; exact H
                clear H
                have H := H1
                clear H1
                obtain rfl := Option.some.inj H
                go_wp2
                repeat (go_quiet (fail); try go_wp2)
                go_ret
                exact ⟨by first | rfl | (simp [errW_none, errW_some] <;> rfl) | (simp only [← hji5]; first | rfl | (simp [errW_none, errW_some] <;> rfl)) | (simp [*, errW_none, errW_some] <;> rfl), Yr HB⟩
               ·
                replace c36 := Bool.eq_false_iff.mpr c36
                subst c36
                have H1 : (some false) = some r := by rw [if_neg (show ¬ (false = true) by decide)] at H; exact H
                clear H
                have H := H1
                clear H1
                exact absurd ((Option.some.inj H).trans HRT_.out) (by decide)
              ·
               replace c35 := Bool.eq_false_iff.mpr c35
               subst c35
               have H1 : (if a2 < 0 then (palinodelaw03_FrameRow.j4 kj32 LC_ (wrap64 (-(wrap64 (a2 + 1)))) t326 x8_1 t341) else (palinodelaw03_FrameRow.j4 kj32 LC_ a2 t326 x8_1 t341)) = some r := by rw [if_neg (show ¬ (false = true) by decide)] at H; exact H
               clear H
               have H := H1
               clear H1
               have HC37 := Aside0.mk H
               clear H
               go_upto_if 111 with (fail)
               repeat (go_quiet (fail); go_upto_if 111 with (fail))
               go_cut [2] (fun v2 wc => ∃ (kq : Nat) (x2_36 : Int), v2 = .int .i64 x2_36 ∧ Aside0 (palinodelaw03_FrameRow.j4 kq LC_ x2_36 t326 x8_1 t341 = some r) ∧ Aside0 (kq ≤ kj32) ∧ Aside0 (Below w.heap.size w wc))
               case first =>
                have H := HC37.out
                clear HC37
                by_cases c38 : a2 < 0
                ·
                 rw [if_pos c38] at H
                 have c38b0 : decide (a2 < 0) = true := decide_eq_true c38
                 clear c38
                 (first | rw [c38b0] | (simp only [i64_w, i32_w]; rw [c38b0]) | skip)
                 have H' := Aside0.mk H
                 clear H
                 go_wp2
                 repeat (go_quiet (fail); try go_wp2)
                 go_meet
                 case rel => exact ⟨_, (wrap64 (-(wrap64 (a2 + 1)))), (by first | rfl | (simp; done) | (simp [*]; done)), H', ⟨by have := HK1.out; have := HJ17.out; have := HK3.out; have := HJ32.out; first | omega | exact Nat.le_refl _⟩, ⟨Yr HB⟩⟩
                ·
                 rw [if_neg c38] at H
                 have c38b0 : decide (a2 < 0) = false := decide_eq_false c38
                 clear c38
                 (first | rw [c38b0] | (simp only [i64_w, i32_w]; rw [c38b0]) | skip)
                 have H' := Aside0.mk H
                 clear H
                 go_wp2
                 repeat (go_quiet (fail); try go_wp2)
                 go_meet
                 case rel => exact ⟨_, (a2), (by first | rfl | (simp; done) | (simp [*]; done)), H', ⟨by have := HK1.out; have := HJ17.out; have := HK3.out; have := HJ32.out; first | omega | exact Nat.le_refl _⟩, ⟨Yr HB⟩⟩
               case rest =>
                clear HC37
                try clear c1
                try clear c2
                try clear p2
                try clear c3
                try clear p3
                try clear q3
                try clear hx3
                try clear c6
                try clear c6b0
                try clear c6b1
                try clear p6
                try clear c7
                try clear c7b0
                try clear c7b1
                try clear c8
                try clear c10
                try clear c10b0
                try clear c11
                try clear c11b0
                try clear c13
                try clear c13b0
                try clear c13b1
                try clear c13b2
                try clear c15
                try clear c20
                try clear c20b0
                try clear c20b1
                try clear c20b2
                try clear c21
                try clear c21b0
                try clear c21b1
                try clear c26
                try clear c27
                try clear c27b0
                try clear c28
                try clear c28b0
                try clear c29
                try clear c29b0
                try clear c30
                try clear c30b0
                try clear c30b1
                try clear p32
                try clear q32
                try clear hx32
                try clear p33
                try clear q33
                try clear hx33
                try clear p34
                try clear q34
                try clear hx34
                try clear c35
                try clear c36
                try clear c38
                try clear c38b0
                try clear hx328_0
                try clear hx332_0
                try clear hx339_0
                try clear hx340_0
                try clear p2
                try clear p3
                try clear p32
                try clear p328
                try clear p33
                try clear p332
                try clear p339
                try clear p34
                try clear p340
                try clear p6
                try clear q3
                try clear q32
                try clear q328
                try clear q33
                try clear q331
                try clear q332
                try clear q338
                try clear q339
                try clear q34
                try clear q340
                try clear q343
                obtain ⟨kq, x2_36, rfl, HA, HJ36, HB⟩ := hcut
                cases kq with
                | zero => exact absurd HA.out (by simp [palinodelaw03_FrameRow.j4])
                | succ kj36 =>
                 have H := HA.out
                 clear HA
                 simp only [palinodelaw03_FrameRow.j4] at H
                 by_cases c39 : (t341.size : Int) = 0
                 ·
                  rw [if_pos c39] at H
                  exact absurd H (by simp)
                 ·
                  rw [if_neg c39] at H
                  have c39b0 : ((t341.size : Int) == 0) = false := beq_eq_false_iff_ne.mpr c39
                  have c39b1 : ((t341.size : Int) != 0) = true := bne_iff_ne.mpr c39
                  by_cases c40 : (wrap64 (1 + (Int.tmod x2_36 (t341.size : Int)))) = (t341.size : Int)
                  ·
                   rw [if_pos c40] at H
                   have c40b0 : ((wrap64 (1 + (Int.tmod x2_36 (t341.size : Int)))) == (t341.size : Int)) = true := beq_iff_eq.mpr c40
                   have c40b1 : ((wrap64 (1 + (Int.tmod x2_36 (t341.size : Int)))) != (t341.size : Int)) = false := bne_eq_false_iff_eq.mpr c40
                   clear c40
                   obtain rfl := Option.some.inj H
                   go_wp2
                   repeat (go_quiet (fail); try go_wp2)
                   go_ret
                   first | (refine absurd c40b0 ?_; simp [*]; done) | exact ⟨by first | rfl | (simp [errW_none, errW_some] <;> rfl) | (simp only [← hji5]; first | rfl | (simp [errW_none, errW_some] <;> rfl)) | (simp [*, errW_none, errW_some] <;> rfl), Yr HB⟩
                  ·
                   rw [if_neg c40] at H
                   have c40b0 : ((wrap64 (1 + (Int.tmod x2_36 (t341.size : Int)))) == (t341.size : Int)) = false := beq_eq_false_iff_ne.mpr c40
                   have c40b1 : ((wrap64 (1 + (Int.tmod x2_36 (t341.size : Int)))) != (t341.size : Int)) = true := bne_iff_ne.mpr c40
                   obtain ⟨ji41, hji41⟩ : ∃ j_ : Int, (wrap64 (1 + (Int.tmod x2_36 (t341.size : Int)))) = j_ := ⟨_, rfl⟩
                   replace H : (if 0 ≤ (ji41) then (if (ji41) ≤ (t341.size : Int) then (if x8_1.size + (t341.extract 0 ((ji41) : Int).toNat).size ≤ 9223372036854775807 then ((frame_All.f kj36 (x8_1 ++ (t341.extract 0 ((ji41) : Int).toNat))).bind fun bt344 => (if t326 = true then (if (bt344.1.length : Int) = (LC_.length : Int) then (if bt344.2.1 = (x8_1.size : Int) then ((palinodelaw03_is.f bt344.2.2 2).bind fun t349 => (some t349)) else (some false)) else (some false)) else (some false))) else (none)) else (none)) else (none)) = some r := by first | (rw [hji41] at H; exact H) | (simp only [hji41] at H ⊢; exact H)
                   (try rw [hji41] at c40b0)
                   (try rw [hji41] at c40b1)
                   have hji41w : (IntKind.i64.wrap (1 + (Int.tmod x2_36 (t341.size : Int)))) = ji41 := (i64_w _).trans hji41
                   by_cases c42 : 0 ≤ (ji41)
                   ·
                    rw [if_pos c42] at H
                    have c42b0 := eq_true c42
                    have c42b1 : decide (0 ≤ (ji41)) = true := decide_eq_true c42
                    clear c42
                    by_cases c43 : (ji41) ≤ (t341.size : Int)
                    ·
                     rw [if_pos c43] at H
                     have c43b0 := eq_true c43
                     have c43b1 : decide ((ji41) ≤ (t341.size : Int)) = true := decide_eq_true c43
                     clear c43
                     by_cases c44 : x8_1.size + (t341.extract 0 ((ji41) : Int).toNat).size ≤ 9223372036854775807
                     ·
                      rw [if_pos c44] at H
                      have c44b0 := eq_true c44
                      have c44b1 : decide (x8_1.size + (t341.extract 0 ((ji41) : Int).toNat).size ≤ 9223372036854775807) = true := decide_eq_true c44
                      try have c44b2 : (9223372036854775807 < x8_1.size + (t341.extract 0 ((ji41) : Int).toNat).size) = False := eq_false (Nat.not_lt.2 c44)
                      replace H := Option.bind_eq_some_iff.mp H
                      obtain ⟨⟨t344, t345, t346⟩, A450, H⟩ := H
                      replace H : (if t326 = true then (if (t344.length : Int) = (LC_.length : Int) then (if t345 = (x8_1.size : Int) then ((palinodelaw03_is.f t346 2).bind fun t349 => (some t349)) else (some false)) else (some false)) else (some false)) = some r := H
                      have A45 := Aside0.mk A450
                      clear A450
                      by_cases c46 : t326 = true
                      ·
                       subst c46
                       have H1 : (if (t344.length : Int) = (LC_.length : Int) then (if t345 = (x8_1.size : Int) then ((palinodelaw03_is.f t346 2).bind fun t349 => (some t349)) else (some false)) else (some false)) = some r := by rw [if_pos rfl] at H; exact H
                       clear H
                       have H := H1
                       clear H1
                       by_cases c47 : (t344.length : Int) = (LC_.length : Int)
                       ·
                        rw [if_pos c47] at H
                        have c47b0 : ((t344.length : Int) == (LC_.length : Int)) = true := beq_iff_eq.mpr c47
                        have c47b1 : ((t344.length : Int) != (LC_.length : Int)) = false := bne_eq_false_iff_eq.mpr c47
                        have c47b2 : (t344.length == LC_.length) = true := by first | simpa using c47 | (simp at c47 ⊢; omega)
                        clear c47
                        by_cases c48 : t345 = (x8_1.size : Int)
                        ·
                         rw [if_pos c48] at H
                         have c48b0 : (t345 == (x8_1.size : Int)) = true := beq_iff_eq.mpr c48
                         have c48b1 : (t345 != (x8_1.size : Int)) = false := bne_eq_false_iff_eq.mpr c48
                         clear c48
                         replace H := Option.bind_eq_some_iff.mp H
                         obtain ⟨t349, A490, H⟩ := H
                         replace H : (some t349) = some r := H
                         have A49 := Aside0.mk A490
                         clear A490
                         obtain rfl := Option.some.inj H
                         go_wp2_with (first | (go_at_call 18; (with_reducible refine (frame_All.calls kj36 (x8_1 ++ (t341.extract 0 ((ji41) : Int).toNat)) t344 t345 t346 _ A45.out).mono ?_); rintro e w50 ⟨v347, rfl, ho0, hb⟩; have n0_ := Aside0.mk (Kd.R_lower ho0 (below_size (Yr HB))); have n1_ := Aside0.mk (Yv HB hb); clear HB; have HO348 := n0_; have HB := n1_; clear n0_ n1_; (try clear hb); (try clear hb2); (try clear hk); (try clear hi); (try clear ho0); (try simp only [errW_none, errW_some]); obtain ⟨Ao51, co51, eo51⟩ := Kd.R_slice HO348.out; subst eo51; have CA49 := fun W => palinodelaw03_is.calls t346 2 t349 W A49.out; try simp only [errW_none, errW_some] at CA49) | (go_at_call 14; (with_reducible refine (CA49 _).mono ?_); rintro e w' ⟨rfl, ⟨nd, rfl⟩⟩; (try first | exact ⟨rfl, _, World.drewN_drewN _ _ _⟩ | exact ⟨rfl, _, Eq.trans (World.drewN_drewN _ _ _) (congrArg (World.drewN _) (Nat.add_assoc _ _ _))⟩)))
                         repeat (go_quiet (first | (go_at_call 18; (with_reducible refine (frame_All.calls kj36 (x8_1 ++ (t341.extract 0 ((ji41) : Int).toNat)) t344 t345 t346 _ A45.out).mono ?_); rintro e w50 ⟨v347, rfl, ho0, hb⟩; have n0_ := Aside0.mk (Kd.R_lower ho0 (below_size (Yr HB))); have n1_ := Aside0.mk (Yv HB hb); clear HB; have HO348 := n0_; have HB := n1_; clear n0_ n1_; (try clear hb); (try clear hb2); (try clear hk); (try clear hi); (try clear ho0); (try simp only [errW_none, errW_some]); obtain ⟨Ao51, co51, eo51⟩ := Kd.R_slice HO348.out; subst eo51; have CA49 := fun W => palinodelaw03_is.calls t346 2 t349 W A49.out; try simp only [errW_none, errW_some] at CA49) | (go_at_call 14; (with_reducible refine (CA49 _).mono ?_); rintro e w' ⟨rfl, ⟨nd, rfl⟩⟩; (try first | exact ⟨rfl, _, World.drewN_drewN _ _ _⟩ | exact ⟨rfl, _, Eq.trans (World.drewN_drewN _ _ _) (congrArg (World.drewN _) (Nat.add_assoc _ _ _))⟩))); try go_wp2_with (first | (go_at_call 18; (with_reducible refine (frame_All.calls kj36 (x8_1 ++ (t341.extract 0 ((ji41) : Int).toNat)) t344 t345 t346 _ A45.out).mono ?_); rintro e w50 ⟨v347, rfl, ho0, hb⟩; have n0_ := Aside0.mk (Kd.R_lower ho0 (below_size (Yr HB))); have n1_ := Aside0.mk (Yv HB hb); clear HB; have HO348 := n0_; have HB := n1_; clear n0_ n1_; (try clear hb); (try clear hb2); (try clear hk); (try clear hi); (try clear ho0); (try simp only [errW_none, errW_some]); obtain ⟨Ao51, co51, eo51⟩ := Kd.R_slice HO348.out; subst eo51; have CA49 := fun W => palinodelaw03_is.calls t346 2 t349 W A49.out; try simp only [errW_none, errW_some] at CA49) | (go_at_call 14; (with_reducible refine (CA49 _).mono ?_); rintro e w' ⟨rfl, ⟨nd, rfl⟩⟩; (try first | exact ⟨rfl, _, World.drewN_drewN _ _ _⟩ | exact ⟨rfl, _, Eq.trans (World.drewN_drewN _ _ _) (congrArg (World.drewN _) (Nat.add_assoc _ _ _))⟩))))
                         go_ret
                         first | (refine absurd c40b0 ?_; simp [*]; done) | (refine absurd c47b0 ?_; simp [*]; done) | (refine absurd c47b2 ?_; simp [*]; done) | (refine absurd c48b0 ?_; simp [*]; done) | exact ⟨by first | rfl | (simp [errW_none, errW_some] <;> rfl) | (simp only [← hji5, ← hji41]; first | rfl | (simp [errW_none, errW_some] <;> rfl)) | (simp [*, errW_none, errW_some] <;> rfl), Yr HB⟩
                        ·
                         rw [if_neg c48] at H
                         have c48b0 : (t345 == (x8_1.size : Int)) = false := beq_eq_false_iff_ne.mpr c48
                         have c48b1 : (t345 != (x8_1.size : Int)) = true := bne_iff_ne.mpr c48
                         exact absurd ((Option.some.inj H).trans HRT_.out) (by decide)
                       ·
                        rw [if_neg c47] at H
                        have c47b0 : ((t344.length : Int) == (LC_.length : Int)) = false := beq_eq_false_iff_ne.mpr c47
                        have c47b1 : ((t344.length : Int) != (LC_.length : Int)) = true := bne_iff_ne.mpr c47
                        have c47b2 : (t344.length == LC_.length) = false := by first | simpa using c47 | (simp at c47 ⊢; omega)
                        exact absurd ((Option.some.inj H).trans HRT_.out) (by decide)
                      ·
                       replace c46 := Bool.eq_false_iff.mpr c46
                       subst c46
                       have H1 : (some false) = some r := by rw [if_neg (show ¬ (false = true) by decide)] at H; exact H
                       clear H
                       have H := H1
                       clear H1
                       exact absurd ((Option.some.inj H).trans HRT_.out) (by decide)
                     ·
                      rw [if_neg c44] at H
                      exact absurd H (by simp)
                    ·
                     rw [if_neg c43] at H
                     exact absurd H (by simp)
                   ·
                    rw [if_neg c42] at H
                    exact absurd H (by simp)
  ·
   rw [if_neg c7] at H
   exact absurd H (by simp)
 ·
  rw [if_neg c6] at H
  exact absurd H (by simp)

/-- THE ONE PURE STATEMENT of palinodelaw03_FrameRow. -/
def palinodelaw03_FrameRow.Pure : Prop := (∀ k_ r_, palinodelaw03_examples.f k_ = some r_ → r_ = true) ∧ ∀ (l0 : List ByteArray) (a1 : ByteArray) (a2 : Int), (l0.length ≤ maxLen ∧ l0.length * 16 ≤ 140737488351232 ∧ ∀ x_ ∈ l0, x_.size ≤ 140737488351232) → a1.size ≤ 140737488351232 → (Lit.int .i64 a2).wf = true → ∃ k, palinodelaw03_FrameRow.f k l0 a1 a2 = some true
theorem palinodelaw03_FrameRow.walk (P : palinodelaw03_FrameRow.Pure) (A0 : Option Addr) (c0 : Nat) (l0 : List ByteArray) (a1 : ByteArray) (a2 : Int) (w : World) (hr0 : Kd.C Kd.string w A0 l0.length l0) (hc0 : l0.length ≤ c0) (v0 : (l0.length ≤ maxLen ∧ l0.length * 16 ≤ 140737488351232 ∧ ∀ x_ ∈ l0, x_.size ≤ 140737488351232)) (v1 : a1.size ≤ 140737488351232) (v2 : (Lit.int .i64 a2).wf = true) :
  Calls Try.prog 8 #[.slice A0 l0.length c0, .string a1, .int .i64 a2] w fun e w' => e = .returned (.bool true) ∧ Below w.heap.size w w' := by
 obtain ⟨k, h⟩ := P.2 l0 a1 a2 v0 v1 v2
 refine (palinodelaw03_FrameRow.calls k A0 c0 l0 a1 a2 true w hr0 hc0 h ⟨P.1⟩).mono ?_
 rintro e w' ⟨rfl, hd⟩
 exact ⟨rfl, hd⟩

end Go.Proofs.Ytmmhdoaepdlmcaa.Print
