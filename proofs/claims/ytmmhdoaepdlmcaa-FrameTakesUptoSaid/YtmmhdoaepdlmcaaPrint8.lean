-- Printed out of the translation by a program of this session's own. Not trusted: Lean checks it.
import Derived.Test.YtmmhdoaepdlmcaaPrint0
import Derived.Test.YtmmhdoaepdlmcaaPrint3
import Derived.Test.YtmmhdoaepdlmcaaPrint4
import Derived.Test.YtmmhdoaepdlmcaaPrint7
namespace Go.Proofs.Ytmmhdoaepdlmcaa.Print
open Go.RowKit Go.Proofs.YtmmhdoaepdlmcaaW.PrintWords Go.Proofs.YtmmhdoaepdlmcaaW.PrintLast Go.Proofs.YtmmhdoaepdlmcaaW.PrintMore Go.Proofs.YtmmhdoaepdlmcaaX
attribute [local go_sem] max2_int min2_int max_two min_two max_three min_three max_four min_four   -- for this text's walks alone
set_option linter.unusedVariables false
set_option linter.unusedSimpArgs false

/-! ### palinodelaw03_FrameTakes: function 7 -/
mutual
def palinodelaw03_FrameTakes.l0 : Nat → ByteArray → Bool → ByteArray → ByteArray → ByteArray → ByteArray → Bool → List ByteArray → Int → Int → Int → Option (Bool)
 | 0, _, _, _, _, _, _, _, _, _, _, _ => none
 | k + 1, x0, x3, x4, x5, x7, x8, x10, x11, x12, x13, x14 => if x14 < 2 then ((frame_All.f k x0).bind fun bt317 => ((palinodelaw03_is.f bt317.2.2 x13).bind fun t322 => (if (bt317.1.length : Int) = (x11.length : Int) then (if bt317.2.1 = x12 then (palinodelaw03_FrameTakes.j1 k x0 x3 x4 x5 x7 x8 x10 x11 x12 x13 x14 bt317.1 (!t322)) else (palinodelaw03_FrameTakes.j1 k x0 x3 x4 x5 x7 x8 x10 x11 x12 x13 x14 bt317.1 true)) else (palinodelaw03_FrameTakes.j1 k x0 x3 x4 x5 x7 x8 x10 x11 x12 x13 x14 bt317.1 true)))) else (if x3 = true then (if x4.toList = x7.toList then (if x5.toList = x8.toList then (some x10) else (some false)) else (some false)) else (some false))
def palinodelaw03_FrameTakes.j1 : Nat → ByteArray → Bool → ByteArray → ByteArray → ByteArray → ByteArray → Bool → List ByteArray → Int → Int → Int → List ByteArray → Bool → Option (Bool)
 | 0, _, _, _, _, _, _, _, _, _, _, _, _, _ => none
 | k + 1, x0, x3, x4, x5, x7, x8, x10, x11, x12, x13, x14, x15, x68 => if x68 = true then (some false) else (palinodelaw03_FrameTakes.l1 k x0 x3 x4 x5 x7 x8 x10 x11 x12 x13 x14 x15 0)
def palinodelaw03_FrameTakes.l1 : Nat → ByteArray → Bool → ByteArray → ByteArray → ByteArray → ByteArray → Bool → List ByteArray → Int → Int → Int → List ByteArray → Int → Option (Bool)
 | 0, _, _, _, _, _, _, _, _, _, _, _, _, _ => none
 | k + 1, x0, x3, x4, x5, x7, x8, x10, x11, x12, x13, x14, x15, x19 => if x19 < (x15.length : Int) then (if 0 ≤ x19 then (if x19 < (x11.length : Int) then (if (rdOf ByteArray.empty x15 x19).toList = (rdOf ByteArray.empty x11 x19).toList then (palinodelaw03_FrameTakes.l1 k x0 x3 x4 x5 x7 x8 x10 x11 x12 x13 x14 (x15.set (x19 : Int).toNat (⟨#[63]⟩ : ByteArray)) (wrap64 (x19 + 1))) else (some false)) else (none)) else (none)) else (palinodelaw03_FrameTakes.l0 k x0 x3 x4 x5 x7 x8 x10 x11 x12 x13 (wrap64 (x14 + 1)))
end
def palinodelaw03_FrameTakes.f (k : Nat) (a0 : ByteArray) : Option (Bool) := (palinodelaw03_examples.f k).bind fun t304 => ((frame_Take.f a0).bind fun bt305 => ((palinoderef03_Take.f k a0).bind fun bt308 => ((palinodelaw03_is.f bt305.2.2 bt308.2.2).bind fun t311 => ((palinoderef03_All.f k a0).bind fun bt312 => (palinodelaw03_FrameTakes.l0 k a0 t304 bt305.1 bt305.2.1 bt308.1 bt308.2.1 t311 bt312.1 bt312.2.1 bt312.2.2 0)))))
theorem palinodelaw03_FrameTakes.mono_l : ∀ k, (∀ y0 y1 y2 y3 y4 y5 y6 y7 y8 y9 y10, LeO (palinodelaw03_FrameTakes.l0 k y0 y1 y2 y3 y4 y5 y6 y7 y8 y9 y10) (palinodelaw03_FrameTakes.l0 (k + 1) y0 y1 y2 y3 y4 y5 y6 y7 y8 y9 y10)) ∧ (∀ y0 y1 y2 y3 y4 y5 y6 y7 y8 y9 y10 y11 y12, LeO (palinodelaw03_FrameTakes.j1 k y0 y1 y2 y3 y4 y5 y6 y7 y8 y9 y10 y11 y12) (palinodelaw03_FrameTakes.j1 (k + 1) y0 y1 y2 y3 y4 y5 y6 y7 y8 y9 y10 y11 y12)) ∧ (∀ y0 y1 y2 y3 y4 y5 y6 y7 y8 y9 y10 y11 y12, LeO (palinodelaw03_FrameTakes.l1 k y0 y1 y2 y3 y4 y5 y6 y7 y8 y9 y10 y11 y12) (palinodelaw03_FrameTakes.l1 (k + 1) y0 y1 y2 y3 y4 y5 y6 y7 y8 y9 y10 y11 y12))
 | 0 => ⟨fun _ _ _ _ _ _ _ _ _ _ _ r h => by simp [palinodelaw03_FrameTakes.l0] at h, fun _ _ _ _ _ _ _ _ _ _ _ _ _ r h => by simp [palinodelaw03_FrameTakes.j1] at h, fun _ _ _ _ _ _ _ _ _ _ _ _ _ r h => by simp [palinodelaw03_FrameTakes.l1] at h⟩
 | k + 1 => by
  obtain ⟨ih0, ih1, ih2⟩ := palinodelaw03_FrameTakes.mono_l k
  refine ⟨?_, ?_, ?_⟩
  ·
   intro y0 y1 y2 y3 y4 y5 y6 y7 y8 y9 y10
   unfold palinodelaw03_FrameTakes.l0
   repeat' first
   | (with_reducible exact ih0 _ _ _ _ _ _ _ _ _ _ _)
   | (with_reducible exact ih1 _ _ _ _ _ _ _ _ _ _ _ _ _)
   | (with_reducible exact ih2 _ _ _ _ _ _ _ _ _ _ _ _ _)
   | (with_reducible exact frame_All.mono _ _)
   | (with_reducible exact palinodelaw03_examples.mono _)
   | (with_reducible exact palinoderef03_All.mono _ _)
   | (with_reducible exact palinoderef03_Take.mono _ _)
   | (with_reducible exact LeO.refl _)
   | (with_reducible exact LeO.none _)
   | (with_reducible refine LeO.ite ?_ ?_)
   | (with_reducible refine LeO.bind ?_ (fun _ => ?_))
   | exact ih0 _ _ _ _ _ _ _ _ _ _ _
   | exact ih1 _ _ _ _ _ _ _ _ _ _ _ _ _
   | exact ih2 _ _ _ _ _ _ _ _ _ _ _ _ _
   | exact frame_All.mono _ _
   | exact palinodelaw03_examples.mono _
   | exact palinoderef03_All.mono _ _
   | exact palinoderef03_Take.mono _ _
   | exact LeO.none _
   | refine LeO.ite ?_ ?_
   | refine LeO.bind ?_ (fun _ => ?_)
  ·
   intro y0 y1 y2 y3 y4 y5 y6 y7 y8 y9 y10 y11 y12
   unfold palinodelaw03_FrameTakes.j1
   repeat' first
   | (with_reducible exact ih0 _ _ _ _ _ _ _ _ _ _ _)
   | (with_reducible exact ih1 _ _ _ _ _ _ _ _ _ _ _ _ _)
   | (with_reducible exact ih2 _ _ _ _ _ _ _ _ _ _ _ _ _)
   | (with_reducible exact frame_All.mono _ _)
   | (with_reducible exact palinodelaw03_examples.mono _)
   | (with_reducible exact palinoderef03_All.mono _ _)
   | (with_reducible exact palinoderef03_Take.mono _ _)
   | (with_reducible exact LeO.refl _)
   | (with_reducible exact LeO.none _)
   | (with_reducible refine LeO.ite ?_ ?_)
   | (with_reducible refine LeO.bind ?_ (fun _ => ?_))
   | exact ih0 _ _ _ _ _ _ _ _ _ _ _
   | exact ih1 _ _ _ _ _ _ _ _ _ _ _ _ _
   | exact ih2 _ _ _ _ _ _ _ _ _ _ _ _ _
   | exact frame_All.mono _ _
   | exact palinodelaw03_examples.mono _
   | exact palinoderef03_All.mono _ _
   | exact palinoderef03_Take.mono _ _
   | exact LeO.none _
   | refine LeO.ite ?_ ?_
   | refine LeO.bind ?_ (fun _ => ?_)
  ·
   intro y0 y1 y2 y3 y4 y5 y6 y7 y8 y9 y10 y11 y12
   unfold palinodelaw03_FrameTakes.l1
   repeat' first
   | (with_reducible exact ih0 _ _ _ _ _ _ _ _ _ _ _)
   | (with_reducible exact ih1 _ _ _ _ _ _ _ _ _ _ _ _ _)
   | (with_reducible exact ih2 _ _ _ _ _ _ _ _ _ _ _ _ _)
   | (with_reducible exact frame_All.mono _ _)
   | (with_reducible exact palinodelaw03_examples.mono _)
   | (with_reducible exact palinoderef03_All.mono _ _)
   | (with_reducible exact palinoderef03_Take.mono _ _)
   | (with_reducible exact LeO.refl _)
   | (with_reducible exact LeO.none _)
   | (with_reducible refine LeO.ite ?_ ?_)
   | (with_reducible refine LeO.bind ?_ (fun _ => ?_))
   | exact ih0 _ _ _ _ _ _ _ _ _ _ _
   | exact ih1 _ _ _ _ _ _ _ _ _ _ _ _ _
   | exact ih2 _ _ _ _ _ _ _ _ _ _ _ _ _
   | exact frame_All.mono _ _
   | exact palinodelaw03_examples.mono _
   | exact palinoderef03_All.mono _ _
   | exact palinoderef03_Take.mono _ _
   | exact LeO.none _
   | refine LeO.ite ?_ ?_
   | refine LeO.bind ?_ (fun _ => ?_)
theorem palinodelaw03_FrameTakes.mono : ∀ a0 k, LeO (palinodelaw03_FrameTakes.f k a0) (palinodelaw03_FrameTakes.f (k + 1) a0) := by
 intro a0 k
 obtain ⟨ih0, ih1, ih2⟩ := palinodelaw03_FrameTakes.mono_l k
 unfold palinodelaw03_FrameTakes.f
 repeat' first
   | (with_reducible exact ih0 _ _ _ _ _ _ _ _ _ _ _)
   | (with_reducible exact ih1 _ _ _ _ _ _ _ _ _ _ _ _ _)
   | (with_reducible exact ih2 _ _ _ _ _ _ _ _ _ _ _ _ _)
   | (with_reducible exact frame_All.mono _ _)
   | (with_reducible exact palinodelaw03_examples.mono _)
   | (with_reducible exact palinoderef03_All.mono _ _)
   | (with_reducible exact palinoderef03_Take.mono _ _)
   | (with_reducible exact LeO.refl _)
   | (with_reducible exact LeO.none _)
   | (with_reducible refine LeO.ite ?_ ?_)
   | (with_reducible refine LeO.bind ?_ (fun _ => ?_))
   | exact ih0 _ _ _ _ _ _ _ _ _ _ _
   | exact ih1 _ _ _ _ _ _ _ _ _ _ _ _ _
   | exact ih2 _ _ _ _ _ _ _ _ _ _ _ _ _
   | exact frame_All.mono _ _
   | exact palinodelaw03_examples.mono _
   | exact palinoderef03_All.mono _ _
   | exact palinoderef03_Take.mono _ _
   | exact LeO.none _
   | refine LeO.ite ?_ ?_
   | refine LeO.bind ?_ (fun _ => ?_)
set_option maxHeartbeats 8000000 in
set_option maxRecDepth 100000 in
theorem palinodelaw03_FrameTakes.calls (k : Nat) (a0 : ByteArray) (r : Bool) (w : World) (h : palinodelaw03_FrameTakes.f k a0 = some r) (HEX_ : Aside0 (∀ k_ r_, palinodelaw03_examples.f k_ = some r_ → r_ = true)) (HRT_ : Aside0 (r = true) := by first | exact ⟨rfl⟩ | assumption) :
  Calls Try.prog 7 #[.string a0] w fun e w' => e = .returned (.bool r) ∧ Below w.heap.size w w' := by
 have HB := Aside0.mk (Below.refl w.heap.size w)
 have H : ((palinodelaw03_examples.f k).bind fun t304 => ((frame_Take.f a0).bind fun bt305 => ((palinoderef03_Take.f k a0).bind fun bt308 => ((palinodelaw03_is.f bt305.2.2 bt308.2.2).bind fun t311 => ((palinoderef03_All.f k a0).bind fun bt312 => (palinodelaw03_FrameTakes.l0 k a0 t304 bt305.1 bt305.2.1 bt308.1 bt308.2.1 t311 bt312.1 bt312.2.1 bt312.2.2 0)))))) = some r := h
 clear h
 replace H := Option.bind_eq_some_iff.mp H
 obtain ⟨t304, A20, H⟩ := H
 replace H : ((frame_Take.f a0).bind fun bt305 => ((palinoderef03_Take.f k a0).bind fun bt308 => ((palinodelaw03_is.f bt305.2.2 bt308.2.2).bind fun t311 => ((palinoderef03_All.f k a0).bind fun bt312 => (palinodelaw03_FrameTakes.l0 k a0 t304 bt305.1 bt305.2.1 bt308.1 bt308.2.1 t311 bt312.1 bt312.2.1 bt312.2.2 0))))) = some r := H
 have A2 := Aside0.mk A20
 have HTA2_ : Aside0 (t304 = true) := ⟨HEX_.out _ _ A20⟩
 clear A20
 replace H := Option.bind_eq_some_iff.mp H
 obtain ⟨⟨t305, t306, t307⟩, A30, H⟩ := H
 replace H : ((palinoderef03_Take.f k a0).bind fun bt308 => ((palinodelaw03_is.f t307 bt308.2.2).bind fun t311 => ((palinoderef03_All.f k a0).bind fun bt312 => (palinodelaw03_FrameTakes.l0 k a0 t304 t305 t306 bt308.1 bt308.2.1 t311 bt312.1 bt312.2.1 bt312.2.2 0)))) = some r := H
 have A3 := Aside0.mk A30
 clear A30
 replace H := Option.bind_eq_some_iff.mp H
 obtain ⟨⟨t308, t309, t310⟩, A40, H⟩ := H
 replace H : ((palinodelaw03_is.f t307 t310).bind fun t311 => ((palinoderef03_All.f k a0).bind fun bt312 => (palinodelaw03_FrameTakes.l0 k a0 t304 t305 t306 t308 t309 t311 bt312.1 bt312.2.1 bt312.2.2 0))) = some r := H
 have A4 := Aside0.mk A40
 clear A40
 replace H := Option.bind_eq_some_iff.mp H
 obtain ⟨t311, A50, H⟩ := H
 replace H : ((palinoderef03_All.f k a0).bind fun bt312 => (palinodelaw03_FrameTakes.l0 k a0 t304 t305 t306 t308 t309 t311 bt312.1 bt312.2.1 bt312.2.2 0)) = some r := H
 have A5 := Aside0.mk A50
 clear A50
 replace H := Option.bind_eq_some_iff.mp H
 obtain ⟨⟨t312, t313, t314⟩, A60, H⟩ := H
 replace H : (palinodelaw03_FrameTakes.l0 k a0 t304 t305 t306 t308 t309 t311 t312 t313 t314 0) = some r := H
 have A6 := Aside0.mk A60
 clear A60
 have H' := Aside0.mk H
 clear H
 go_enter Try.func7, Try.ntmps7
 go_wp2_with (first | (go_at_call 9; (with_reducible refine (palinodelaw03_examples.calls k  t304 _ A2.out).mono ?_); rintro e w7 ⟨rfl, hb⟩; have n0_ := Aside0.mk (Yv HB hb); clear HB; have HB := n0_; clear n0_; (try clear hb); (try clear hb2); (try clear hk); (try clear hi)) | (go_at_call 15; (with_reducible refine (frame_Take.calls a0 t305 t306 t307 _ A3.out).mono ?_); rintro e w8 ⟨rfl, hb⟩; have n0_ := Aside0.mk (Yv HB hb); clear HB; have HB := n0_; clear n0_; (try clear hb); (try clear hb2); (try clear hk); (try clear hi); (try simp only [errW_none, errW_some])) | (go_at_call 16; (with_reducible refine (palinoderef03_Take.calls k a0 t308 t309 t310 _ A4.out).mono ?_); rintro e w9 ⟨rfl, hb⟩; have n0_ := Aside0.mk (Yv HB hb); clear HB; have HB := n0_; clear n0_; (try clear hb); (try clear hb2); (try clear hk); (try clear hi); have CA5 := fun W => palinodelaw03_is.calls t307 t310 t311 W A5.out; try simp only [errW_none, errW_some] at CA5) | (go_at_call 14; (with_reducible refine (CA5 _).mono ?_); rintro e w' ⟨rfl, ⟨nd, rfl⟩⟩; (try first | exact ⟨rfl, _, World.drewN_drewN _ _ _⟩ | exact ⟨rfl, _, Eq.trans (World.drewN_drewN _ _ _) (congrArg (World.drewN _) (Nat.add_assoc _ _ _))⟩)) | (go_at_call 17; (with_reducible refine (palinoderef03_All.calls k a0 t312 t313 t314 _ A6.out).mono ?_); rintro e w10 ⟨v315, rfl, ho0, hb⟩; have n0_ := Aside0.mk (Kd.R_lower ho0 (below_size (Yr HB))); have n1_ := Aside0.mk (Yv HB hb); clear HB; have HO316 := n0_; have HB := n1_; clear n0_ n1_; (try clear hb); (try clear hb2); (try clear hk); (try clear hi); (try clear ho0)))
 repeat (go_quiet (first | (go_at_call 9; (with_reducible refine (palinodelaw03_examples.calls k  t304 _ A2.out).mono ?_); rintro e w7 ⟨rfl, hb⟩; have n0_ := Aside0.mk (Yv HB hb); clear HB; have HB := n0_; clear n0_; (try clear hb); (try clear hb2); (try clear hk); (try clear hi)) | (go_at_call 15; (with_reducible refine (frame_Take.calls a0 t305 t306 t307 _ A3.out).mono ?_); rintro e w8 ⟨rfl, hb⟩; have n0_ := Aside0.mk (Yv HB hb); clear HB; have HB := n0_; clear n0_; (try clear hb); (try clear hb2); (try clear hk); (try clear hi); (try simp only [errW_none, errW_some])) | (go_at_call 16; (with_reducible refine (palinoderef03_Take.calls k a0 t308 t309 t310 _ A4.out).mono ?_); rintro e w9 ⟨rfl, hb⟩; have n0_ := Aside0.mk (Yv HB hb); clear HB; have HB := n0_; clear n0_; (try clear hb); (try clear hb2); (try clear hk); (try clear hi); have CA5 := fun W => palinodelaw03_is.calls t307 t310 t311 W A5.out; try simp only [errW_none, errW_some] at CA5) | (go_at_call 14; (with_reducible refine (CA5 _).mono ?_); rintro e w' ⟨rfl, ⟨nd, rfl⟩⟩; (try first | exact ⟨rfl, _, World.drewN_drewN _ _ _⟩ | exact ⟨rfl, _, Eq.trans (World.drewN_drewN _ _ _) (congrArg (World.drewN _) (Nat.add_assoc _ _ _))⟩)) | (go_at_call 17; (with_reducible refine (palinoderef03_All.calls k a0 t312 t313 t314 _ A6.out).mono ?_); rintro e w10 ⟨v315, rfl, ho0, hb⟩; have n0_ := Aside0.mk (Kd.R_lower ho0 (below_size (Yr HB))); have n1_ := Aside0.mk (Yv HB hb); clear HB; have HO316 := n0_; have HB := n1_; clear n0_ n1_; (try clear hb); (try clear hb2); (try clear hk); (try clear hi); (try clear ho0))); try go_wp2_with (first | (go_at_call 9; (with_reducible refine (palinodelaw03_examples.calls k  t304 _ A2.out).mono ?_); rintro e w7 ⟨rfl, hb⟩; have n0_ := Aside0.mk (Yv HB hb); clear HB; have HB := n0_; clear n0_; (try clear hb); (try clear hb2); (try clear hk); (try clear hi)) | (go_at_call 15; (with_reducible refine (frame_Take.calls a0 t305 t306 t307 _ A3.out).mono ?_); rintro e w8 ⟨rfl, hb⟩; have n0_ := Aside0.mk (Yv HB hb); clear HB; have HB := n0_; clear n0_; (try clear hb); (try clear hb2); (try clear hk); (try clear hi); (try simp only [errW_none, errW_some])) | (go_at_call 16; (with_reducible refine (palinoderef03_Take.calls k a0 t308 t309 t310 _ A4.out).mono ?_); rintro e w9 ⟨rfl, hb⟩; have n0_ := Aside0.mk (Yv HB hb); clear HB; have HB := n0_; clear n0_; (try clear hb); (try clear hb2); (try clear hk); (try clear hi); have CA5 := fun W => palinodelaw03_is.calls t307 t310 t311 W A5.out; try simp only [errW_none, errW_some] at CA5) | (go_at_call 14; (with_reducible refine (CA5 _).mono ?_); rintro e w' ⟨rfl, ⟨nd, rfl⟩⟩; (try first | exact ⟨rfl, _, World.drewN_drewN _ _ _⟩ | exact ⟨rfl, _, Eq.trans (World.drewN_drewN _ _ _) (congrArg (World.drewN _) (Nat.add_assoc _ _ _))⟩)) | (go_at_call 17; (with_reducible refine (palinoderef03_All.calls k a0 t312 t313 t314 _ A6.out).mono ?_); rintro e w10 ⟨v315, rfl, ho0, hb⟩; have n0_ := Aside0.mk (Kd.R_lower ho0 (below_size (Yr HB))); have n1_ := Aside0.mk (Yv HB hb); clear HB; have HO316 := n0_; have HB := n1_; clear n0_ n1_; (try clear hb); (try clear hb2); (try clear hk); (try clear hi); (try clear ho0))))
 go_loopg [14] k (fun kq v14 w' => ∃ (x11_1 : List ByteArray) (x14_1 : Int), v14 = .int .i64 x14_1 ∧ Aside0 (palinodelaw03_FrameTakes.l0 kq a0 t304 t305 t306 t308 t309 t311 x11_1 t313 t314 x14_1 = some r) ∧ Aside0 (kq ≤ k) ∧ Aside0 (Kd.R Kd.string 9 w' w.heap.size (fun _ => True) v315 x11_1) ∧ Aside0 (Below w.heap.size w w'))
 case atStart => exact ⟨(t312), (0), (by first | rfl | (simp; done) | (simp [*]; done)), H', ⟨Nat.le_refl _⟩, ⟨by (with_reducible repeat (first | apply Kd.R_alloc | apply Kd.R_drewN | apply Kd.R_drew)); exact HO316.out⟩, ⟨Yr HB⟩⟩
 case round =>
  clear H'
  try clear p2
  try clear c7
  obtain ⟨x11_1, x14_1, rfl, HA, HK1, HO_11, HB⟩ := hrel
  cases gk with
  | zero => exact absurd HA.out (by simp [palinodelaw03_FrameTakes.l0])
  | succ k1 =>
   have H := HA.out
   clear HA
   simp only [palinodelaw03_FrameTakes.l0] at H
   by_cases c11 : x14_1 < 2
   ·
    rw [if_pos c11] at H
    have c11b0 : decide (x14_1 < 2) = true := decide_eq_true c11
    clear c11
    replace H := Option.bind_eq_some_iff.mp H
    obtain ⟨⟨t317, t318, t319⟩, A120, H⟩ := H
    replace H : ((palinodelaw03_is.f t319 t314).bind fun t322 => (if (t317.length : Int) = (x11_1.length : Int) then (if t318 = t313 then (palinodelaw03_FrameTakes.j1 k1 a0 t304 t305 t306 t308 t309 t311 x11_1 t313 t314 x14_1 t317 (!t322)) else (palinodelaw03_FrameTakes.j1 k1 a0 t304 t305 t306 t308 t309 t311 x11_1 t313 t314 x14_1 t317 true)) else (palinodelaw03_FrameTakes.j1 k1 a0 t304 t305 t306 t308 t309 t311 x11_1 t313 t314 x14_1 t317 true))) = some r := H
    have A12 := Aside0.mk A120
    clear A120
    replace H := Option.bind_eq_some_iff.mp H
    obtain ⟨t322, A130, H⟩ := H
    replace H : (if (t317.length : Int) = (x11_1.length : Int) then (if t318 = t313 then (palinodelaw03_FrameTakes.j1 k1 a0 t304 t305 t306 t308 t309 t311 x11_1 t313 t314 x14_1 t317 (!t322)) else (palinodelaw03_FrameTakes.j1 k1 a0 t304 t305 t306 t308 t309 t311 x11_1 t313 t314 x14_1 t317 true)) else (palinodelaw03_FrameTakes.j1 k1 a0 t304 t305 t306 t308 t309 t311 x11_1 t313 t314 x14_1 t317 true)) = some r := H
    have A13 := Aside0.mk A130
    clear A130
    have HC14 := Aside0.mk H
    clear H
    go_upto_region 11 with (first | (go_at_call 18; (with_reducible refine (frame_All.calls k1 a0 t317 t318 t319 _ A12.out).mono ?_); rintro e w15 ⟨v320, rfl, ho0, hb⟩; have n0_ := Aside0.mk (Kd.R_elder' (by (with_reducible repeat (first | apply Kd.R_alloc | apply Kd.R_drewN | apply Kd.R_drew)); exact HO_11.out) (Kd.R_base ho0) hb); have n1_ := Aside0.mk (Kd.R_lower (Kd.R_new' ho0 (Kd.R_lt (by (with_reducible repeat (first | apply Kd.R_alloc | apply Kd.R_drewN | apply Kd.R_drew)); exact HO_11.out))) (below_size (Yr HB))); have n2_ := Aside0.mk (Yv HB hb); clear HO_11; clear HB; have HO_11 := n0_; have HO321 := n1_; have HB := n2_; clear n0_ n1_ n2_; (try clear hb); (try clear hb2); (try clear hk); (try clear hi); (try clear ho0); (try simp only [errW_none, errW_some]); have CA13 := fun W => palinodelaw03_is.calls t319 t314 t322 W A13.out; try simp only [errW_none, errW_some] at CA13) | (go_at_call 14; (with_reducible refine (CA13 _).mono ?_); rintro e w' ⟨rfl, ⟨nd, rfl⟩⟩; (try first | exact ⟨rfl, _, World.drewN_drewN _ _ _⟩ | exact ⟨rfl, _, Eq.trans (World.drewN_drewN _ _ _) (congrArg (World.drewN _) (Nat.add_assoc _ _ _))⟩)))
    repeat (go_quiet (first | (go_at_call 18; (with_reducible refine (frame_All.calls k1 a0 t317 t318 t319 _ A12.out).mono ?_); rintro e w15 ⟨v320, rfl, ho0, hb⟩; have n0_ := Aside0.mk (Kd.R_elder' (by (with_reducible repeat (first | apply Kd.R_alloc | apply Kd.R_drewN | apply Kd.R_drew)); exact HO_11.out) (Kd.R_base ho0) hb); have n1_ := Aside0.mk (Kd.R_lower (Kd.R_new' ho0 (Kd.R_lt (by (with_reducible repeat (first | apply Kd.R_alloc | apply Kd.R_drewN | apply Kd.R_drew)); exact HO_11.out))) (below_size (Yr HB))); have n2_ := Aside0.mk (Yv HB hb); clear HO_11; clear HB; have HO_11 := n0_; have HO321 := n1_; have HB := n2_; clear n0_ n1_ n2_; (try clear hb); (try clear hb2); (try clear hk); (try clear hi); (try clear ho0); (try simp only [errW_none, errW_some]); have CA13 := fun W => palinodelaw03_is.calls t319 t314 t322 W A13.out; try simp only [errW_none, errW_some] at CA13) | (go_at_call 14; (with_reducible refine (CA13 _).mono ?_); rintro e w' ⟨rfl, ⟨nd, rfl⟩⟩; (try first | exact ⟨rfl, _, World.drewN_drewN _ _ _⟩ | exact ⟨rfl, _, Eq.trans (World.drewN_drewN _ _ _) (congrArg (World.drewN _) (Nat.add_assoc _ _ _))⟩))); go_upto_region 11 with (first | (go_at_call 18; (with_reducible refine (frame_All.calls k1 a0 t317 t318 t319 _ A12.out).mono ?_); rintro e w15 ⟨v320, rfl, ho0, hb⟩; have n0_ := Aside0.mk (Kd.R_elder' (by (with_reducible repeat (first | apply Kd.R_alloc | apply Kd.R_drewN | apply Kd.R_drew)); exact HO_11.out) (Kd.R_base ho0) hb); have n1_ := Aside0.mk (Kd.R_lower (Kd.R_new' ho0 (Kd.R_lt (by (with_reducible repeat (first | apply Kd.R_alloc | apply Kd.R_drewN | apply Kd.R_drew)); exact HO_11.out))) (below_size (Yr HB))); have n2_ := Aside0.mk (Yv HB hb); clear HO_11; clear HB; have HO_11 := n0_; have HO321 := n1_; have HB := n2_; clear n0_ n1_ n2_; (try clear hb); (try clear hb2); (try clear hk); (try clear hi); (try clear ho0); (try simp only [errW_none, errW_some]); have CA13 := fun W => palinodelaw03_is.calls t319 t314 t322 W A13.out; try simp only [errW_none, errW_some] at CA13) | (go_at_call 14; (with_reducible refine (CA13 _).mono ?_); rintro e w' ⟨rfl, ⟨nd, rfl⟩⟩; (try first | exact ⟨rfl, _, World.drewN_drewN _ _ _⟩ | exact ⟨rfl, _, Eq.trans (World.drewN_drewN _ _ _) (congrArg (World.drewN _) (Nat.add_assoc _ _ _))⟩))))
    (try simp only [Act.put, List.setIfInBounds_toArray, List.set_cons_zero, List.set_cons_succ])
    go_cut [68] (fun v68 wc => ∃ (kq : Nat) (x68_13 : Bool), v68 = .bool x68_13 ∧ Aside0 (palinodelaw03_FrameTakes.j1 kq a0 t304 t305 t306 t308 t309 t311 x11_1 t313 t314 x14_1 t317 x68_13 = some r) ∧ Aside0 (kq ≤ k1) ∧ Aside0 (Kd.R Kd.string 9 wc w.heap.size (fun k_ => some k_ ≠ (v320 : Value).ownBlock) v315 x11_1) ∧ Aside0 (Kd.R Kd.string 9 wc w.heap.size (fun k_ => some k_ ≠ (v315 : Value).ownBlock) v320 t317) ∧ Aside0 (Below w.heap.size w wc))
    case first =>
     have H := HC14.out
     clear HC14
     by_cases c16 : (t317.length : Int) = (x11_1.length : Int)
     ·
      rw [if_pos c16] at H
      have c16b0 : ((t317.length : Int) == (x11_1.length : Int)) = true := beq_iff_eq.mpr c16
      have c16b1 : ((t317.length : Int) != (x11_1.length : Int)) = false := bne_eq_false_iff_eq.mpr c16
      have c16b2 : (t317.length == x11_1.length) = true := by first | simpa using c16 | (simp at c16 ⊢; omega)
      clear c16
      (first | rw [c16b0] | (simp only [i64_w, i32_w]; rw [c16b0]) | skip)
      by_cases c17 : t318 = t313
      ·
       rw [if_pos c17] at H
       have c17b0 : (t318 == t313) = true := beq_iff_eq.mpr c17
       have c17b1 : (t318 != t313) = false := bne_eq_false_iff_eq.mpr c17
       clear c17
       have H' := Aside0.mk H
       clear H
       obtain ⟨Ao18, co18, eo18⟩ := Kd.R_slice HO321.out
       subst eo18
       obtain ⟨Ao19, co19, eo19⟩ := Kd.R_slice HO_11.out
       subst eo19
       go_wp2
       repeat (go_quiet (fail); try go_wp2)
       go_meet
       case rel => exact ⟨_, (!t322), (by first | rfl | (simp; done) | (simp [*]; done)), H', ⟨by have := HK1.out; first | omega | exact Nat.le_refl _⟩, ⟨by (with_reducible repeat (first | apply Kd.R_alloc | apply Kd.R_drewN | apply Kd.R_drew)); exact Kd.R_mono HO_11.out (fun _ hk => hk.2)⟩, ⟨by (with_reducible repeat (first | apply Kd.R_alloc | apply Kd.R_drewN | apply Kd.R_drew)); exact Kd.R_mono HO321.out (fun _ hk => hk.2)⟩, ⟨Yr HB⟩⟩
      ·
       rw [if_neg c17] at H
       have c17b0 : (t318 == t313) = false := beq_eq_false_iff_ne.mpr c17
       have c17b1 : (t318 != t313) = true := bne_iff_ne.mpr c17
       have H' := Aside0.mk H
       clear H
       obtain ⟨Ao20, co20, eo20⟩ := Kd.R_slice HO321.out
       subst eo20
       obtain ⟨Ao21, co21, eo21⟩ := Kd.R_slice HO_11.out
       subst eo21
       go_wp2
       repeat (go_quiet (fail); try go_wp2)
       go_meet
       case rel => exact ⟨_, (true), (by first | rfl | (simp; done) | (simp [*]; done)), H', ⟨by have := HK1.out; first | omega | exact Nat.le_refl _⟩, ⟨by (with_reducible repeat (first | apply Kd.R_alloc | apply Kd.R_drewN | apply Kd.R_drew)); exact Kd.R_mono HO_11.out (fun _ hk => hk.2)⟩, ⟨by (with_reducible repeat (first | apply Kd.R_alloc | apply Kd.R_drewN | apply Kd.R_drew)); exact Kd.R_mono HO321.out (fun _ hk => hk.2)⟩, ⟨Yr HB⟩⟩
     ·
      rw [if_neg c16] at H
      have c16b0 : ((t317.length : Int) == (x11_1.length : Int)) = false := beq_eq_false_iff_ne.mpr c16
      have c16b1 : ((t317.length : Int) != (x11_1.length : Int)) = true := bne_iff_ne.mpr c16
      have c16b2 : (t317.length == x11_1.length) = false := by first | simpa using c16 | (simp at c16 ⊢; omega)
      (first | rw [c16b0] | (simp only [i64_w, i32_w]; rw [c16b0]) | skip)
      have H' := Aside0.mk H
      clear H
      obtain ⟨Ao22, co22, eo22⟩ := Kd.R_slice HO321.out
      subst eo22
      obtain ⟨Ao23, co23, eo23⟩ := Kd.R_slice HO_11.out
      subst eo23
      go_wp2
      repeat (go_quiet (fail); try go_wp2)
      go_meet
      case rel => exact ⟨_, (true), (by first | rfl | (simp; done) | (simp [*]; done)), H', ⟨by have := HK1.out; first | omega | exact Nat.le_refl _⟩, ⟨by (with_reducible repeat (first | apply Kd.R_alloc | apply Kd.R_drewN | apply Kd.R_drew)); exact Kd.R_mono HO_11.out (fun _ hk => hk.2)⟩, ⟨by (with_reducible repeat (first | apply Kd.R_alloc | apply Kd.R_drewN | apply Kd.R_drew)); exact Kd.R_mono HO321.out (fun _ hk => hk.2)⟩, ⟨Yr HB⟩⟩
    case rest =>
     clear HC14
     try clear c1
     try clear p2
     try clear c7
     try clear c11
     try clear c11b0
     try clear c16
     try clear c16b0
     try clear c16b1
     try clear c16b2
     try clear c17
     try clear c17b0
     try clear c17b1
     try clear p2
     obtain ⟨kq, x68_13, rfl, HA, HJ13, HO_11, HO_15, HB⟩ := hcut
     cases kq with
     | zero => exact absurd HA.out (by simp [palinodelaw03_FrameTakes.j1])
     | succ kj13 =>
      have H := HA.out
      clear HA
      simp only [palinodelaw03_FrameTakes.j1] at H
      by_cases c24 : x68_13 = true
      ·
       subst c24
       have H1 : (some false) = some r := by rw [if_pos rfl] at H; exact H
       clear H
       have H := H1
       clear H1
       exact absurd ((Option.some.inj H).trans HRT_.out) (by decide)
      ·
       replace c24 := Bool.eq_false_iff.mpr c24
       subst c24
       have H1 : (palinodelaw03_FrameTakes.l1 kj13 a0 t304 t305 t306 t308 t309 t311 x11_1 t313 t314 x14_1 t317 0) = some r := by rw [if_neg (show ¬ (false = true) by decide)] at H; exact H
       clear H
       have H := H1
       clear H1
       have H' := Aside0.mk H
       clear H
       go_wp2
       repeat (go_quiet (fail); try go_wp2)
       go_loopg [19] kj13 (fun kq v19 w' => ∃ (x15_3 : List ByteArray) (x19_3 : Int), v19 = .int .i64 x19_3 ∧ Aside0 (palinodelaw03_FrameTakes.l1 kq a0 t304 t305 t306 t308 t309 t311 x11_1 t313 t314 x14_1 x15_3 x19_3 = some r) ∧ Aside0 (kq ≤ kj13) ∧ Aside0 (Kd.R Kd.string 9 w' w.heap.size (fun k_ => some k_ ≠ (v320 : Value).ownBlock) v315 x11_1) ∧ Aside0 (Kd.R Kd.string 9 w' w.heap.size (fun k_ => some k_ ≠ (v315 : Value).ownBlock) v320 x15_3) ∧ Aside0 (Below w.heap.size w w'))
       case atStart => exact ⟨(t317), (0), (by first | rfl | (simp; done) | (simp [*]; done)), H', ⟨Nat.le_refl _⟩, ⟨by (with_reducible repeat (first | apply Kd.R_alloc | apply Kd.R_drewN | apply Kd.R_drew)); exact HO_11.out⟩, ⟨by (with_reducible repeat (first | apply Kd.R_alloc | apply Kd.R_drewN | apply Kd.R_drew)); exact HO_15.out⟩, ⟨Yr HB⟩⟩
       case round =>
        clear H'
        try clear c1
        try clear c2
        try clear p2
        try clear c7
        try clear c11
        try clear c11b0
        try clear c16
        try clear c16b0
        try clear c16b1
        try clear c16b2
        try clear c17
        try clear c17b0
        try clear c17b1
        try clear c24
        try clear p2
        obtain ⟨x15_3, x19_3, rfl, HA, HK3, HO_11, HO_15, HB⟩ := hrel
        cases gk with
        | zero => exact absurd HA.out (by simp [palinodelaw03_FrameTakes.l1])
        | succ k3 =>
         have H := HA.out
         clear HA
         simp only [palinodelaw03_FrameTakes.l1] at H
         by_cases c25 : x19_3 < (x15_3.length : Int)
         ·
          rw [if_pos c25] at H
          have c25b0 : decide (x19_3 < (x15_3.length : Int)) = true := decide_eq_true c25
          clear c25
          by_cases c26 : 0 ≤ x19_3
          ·
           rw [if_pos c26] at H
           have c26b0 : decide (0 ≤ x19_3) = true := decide_eq_true c26
           clear c26
           by_cases c27 : x19_3 < (x11_1.length : Int)
           ·
            rw [if_pos c27] at H
            have c27b0 : decide (x19_3 < (x11_1.length : Int)) = true := decide_eq_true c27
            clear c27
            by_cases c28 : (rdOf ByteArray.empty x15_3 x19_3).toList = (rdOf ByteArray.empty x11_1 x19_3).toList
            ·
             rw [if_pos c28] at H
             have c28b0 : ((rdOf ByteArray.empty x15_3 x19_3).toList == (rdOf ByteArray.empty x11_1 x19_3).toList) = true := beq_iff_eq.mpr c28
             have c28b1 : ((rdOf ByteArray.empty x15_3 x19_3).toList != (rdOf ByteArray.empty x11_1 x19_3).toList) = false := bne_eq_false_iff_eq.mpr c28
             clear c28
             obtain ⟨y325, hy325⟩ : ∃ y_ : List ByteArray, y_ = (x15_3.set (x19_3 : Int).toNat (⟨#[63]⟩ : ByteArray)) := ⟨_, rfl⟩
             replace H : (palinodelaw03_FrameTakes.l1 k3 a0 t304 t305 t306 t308 t309 t311 x11_1 t313 t314 x14_1 y325 (wrap64 (x19_3 + 1))) = some r := by first | (rw [hy325]; with_reducible exact H) | (have H2_ := (Option.bind_some _ _).symm.trans H; rw [hy325]; with_reducible exact H2_) | (have H2_ := (Option.bind_some _ _).symm.trans H; with_reducible exact H2_) | with_reducible exact H | (rw [hy325]; exact H) | exact H
             have Ny325 := Aside0.mk hy325
             clear hy325
             have H' := Aside0.mk H
             clear H
             obtain ⟨Ao30, co30, eo30⟩ := Kd.R_slice HO_15.out
             subst eo30
             have p323 : 0 ≤ (x19_3 : Int) := of_decide_eq_true (by first | (with_reducible assumption) | assumption)
             have q323 : x19_3 < (x15_3.length : Int) := of_decide_eq_true (by first | (with_reducible assumption) | assumption)
             obtain ⟨ad323, e323, hx323_0⟩ := Kd.at_string (Kd.R_reads' HO_15.out).2.2 x19_3 p323 q323
             cases e323
             replace p323 := eq_true p323
             replace q323 := eq_true q323
             obtain ⟨Ao31, co31, eo31⟩ := Kd.R_slice HO_11.out
             subst eo31
             have p324 : 0 ≤ (x19_3 : Int) := of_decide_eq_true (by first | (with_reducible assumption) | assumption)
             have q324 : x19_3 < (x11_1.length : Int) := of_decide_eq_true (by first | (with_reducible assumption) | assumption)
             obtain ⟨ad324, e324, hx324_0⟩ := Kd.at_string (Kd.R_reads' HO_11.out).2.2 x19_3 p324 q324
             cases e324
             replace p324 := eq_true p324
             replace q324 := eq_true q324
             have p29 : 0 ≤ (x19_3 : Int) := of_decide_eq_true (by first | (with_reducible assumption) | assumption)
             have q29 : (x19_3 : Int) < ((x15_3.length : Int) : Int) := of_decide_eq_true (by first | (with_reducible assumption) | assumption)
             obtain ⟨go29, co29, eo29, gb29, gl29, cl29, HG29⟩ := Kd.R_form HO_15.out (by omega)
             (first | cases eo29 | (injection eo29 with ea_ en_ ec_; (first | subst ea_ | (injection ea_ with ea_; subst ea_)); subst ec_; clear en_))
             have GB29 := Aside0.mk gb29
             have GG29 := Aside0.mk HG29
             clear gb29 gl29 HG29
             (first | simp only [add_plain] at hx323_0 | skip)
             obtain ⟨hx29_0, hf29_0⟩ := Kd.R_celln (⟨#[]⟩ : ByteArray) HO_15.out (x19_3 : Int) p29 q29
             replace p29 := eq_true p29
             replace q29 := eq_true q29
             have HP32 := Kd.R_putg HO_15.out (x19_3 : Int) (⟨#[63]⟩ : ByteArray)
             go_wp2_with (first | ((with_reducible refine gate_store (t := 9) (p := 86) rfl ?_); (try (rw [drewN_self wr]; generalize hq_ : World.drewN wr _ = wr; have n0_ := Aside0.mk (Kd.R_at hq_ HO_11.out); have n1_ := Aside0.mk (Kd.R_at hq_ HO_15.out); have n2_ := Aside0.mk (below_at hq_ HB.out); clear hq_ HO_11 HO_15 HB; have HO_11 := n0_; have HO_15 := n1_; have HB := n2_; clear n0_ n1_ n2_; (try (have HP32 := Kd.R_putg HO_15.out (x19_3 : Int) (⟨#[63]⟩ : ByteArray))); (try (obtain ⟨hx29_0, hf29_0⟩ := Kd.R_celln (⟨#[]⟩ : ByteArray) HO_15.out (x19_3 : Int) (of_eq_true p29) (of_eq_true q29))))); refine store_event (t := 9) (p := 86) (v := ?vo_w33) (w1 := (wr.setCell ⟨go29, (x19_3 : Int).toNat, none⟩ (.string (⟨#[63]⟩ : ByteArray)))) ?hg ?ho ?hn ?hr ?_; (case ho => rfl); (case hg => rfl); (case hn => rfl); (case hr => first | (go_simp; done) | (go_simp; rfl)); intro w33 hw; have hg : wr.grownBy w33 (some go29) := (by rw [hw]; exact HP32.2); have hp_ : Kd.R Kd.string 9 w33 w.heap.size (fun k_ => some k_ ≠ (.slice (some ad324) x11_1.length co31 : Value).ownBlock) (.slice (some ⟨go29, 0, none⟩) x15_3.length co30) y325 := (by rw [hw, Ny325.out]; exact HP32.1); clear HP32; have n0_ := Aside0.mk (Kd.R_after (v := (.slice (some ⟨go29, 0, none⟩) x15_3.length co30)) (v1 := (.slice (some ⟨go29, 0, none⟩) x15_3.length co30)) (ok := (fun _ => True)) (by (with_reducible repeat (first | apply Kd.R_alloc | apply Kd.R_drewN | apply Kd.R_drew)); exact Kd.R_mono HO_11.out (fun _ hk => ⟨trivial, hk⟩)) hg (.inl rfl)); have n1_ := Aside0.mk (hp_); have n2_ := Aside0.mk ((by rw [hw]; exact Ys (HB.out) GB29.out : Below w.heap.size w w33)); clear HO_11; clear HO_15; clear HB; have HO_11 := n0_; have HO_15 := n1_; have HB := n2_; clear n0_ n1_ n2_; clear hg hw hp_))
             repeat (go_quiet (first | ((with_reducible refine gate_store (t := 9) (p := 86) rfl ?_); (try (rw [drewN_self wr]; generalize hq_ : World.drewN wr _ = wr; have n0_ := Aside0.mk (Kd.R_at hq_ HO_11.out); have n1_ := Aside0.mk (Kd.R_at hq_ HO_15.out); have n2_ := Aside0.mk (below_at hq_ HB.out); clear hq_ HO_11 HO_15 HB; have HO_11 := n0_; have HO_15 := n1_; have HB := n2_; clear n0_ n1_ n2_; (try (have HP32 := Kd.R_putg HO_15.out (x19_3 : Int) (⟨#[63]⟩ : ByteArray))); (try (obtain ⟨hx29_0, hf29_0⟩ := Kd.R_celln (⟨#[]⟩ : ByteArray) HO_15.out (x19_3 : Int) (of_eq_true p29) (of_eq_true q29))))); refine store_event (t := 9) (p := 86) (v := ?vo_w33) (w1 := (wr.setCell ⟨go29, (x19_3 : Int).toNat, none⟩ (.string (⟨#[63]⟩ : ByteArray)))) ?hg ?ho ?hn ?hr ?_; (case ho => rfl); (case hg => rfl); (case hn => rfl); (case hr => first | (go_simp; done) | (go_simp; rfl)); intro w33 hw; have hg : wr.grownBy w33 (some go29) := (by rw [hw]; exact HP32.2); have hp_ : Kd.R Kd.string 9 w33 w.heap.size (fun k_ => some k_ ≠ (.slice (some ad324) x11_1.length co31 : Value).ownBlock) (.slice (some ⟨go29, 0, none⟩) x15_3.length co30) y325 := (by rw [hw, Ny325.out]; exact HP32.1); clear HP32; have n0_ := Aside0.mk (Kd.R_after (v := (.slice (some ⟨go29, 0, none⟩) x15_3.length co30)) (v1 := (.slice (some ⟨go29, 0, none⟩) x15_3.length co30)) (ok := (fun _ => True)) (by (with_reducible repeat (first | apply Kd.R_alloc | apply Kd.R_drewN | apply Kd.R_drew)); exact Kd.R_mono HO_11.out (fun _ hk => ⟨trivial, hk⟩)) hg (.inl rfl)); have n1_ := Aside0.mk (hp_); have n2_ := Aside0.mk ((by rw [hw]; exact Ys (HB.out) GB29.out : Below w.heap.size w w33)); clear HO_11; clear HO_15; clear HB; have HO_11 := n0_; have HO_15 := n1_; have HB := n2_; clear n0_ n1_ n2_; clear hg hw hp_)); try go_wp2_with (first | ((with_reducible refine gate_store (t := 9) (p := 86) rfl ?_); (try (rw [drewN_self wr]; generalize hq_ : World.drewN wr _ = wr; have n0_ := Aside0.mk (Kd.R_at hq_ HO_11.out); have n1_ := Aside0.mk (Kd.R_at hq_ HO_15.out); have n2_ := Aside0.mk (below_at hq_ HB.out); clear hq_ HO_11 HO_15 HB; have HO_11 := n0_; have HO_15 := n1_; have HB := n2_; clear n0_ n1_ n2_; (try (have HP32 := Kd.R_putg HO_15.out (x19_3 : Int) (⟨#[63]⟩ : ByteArray))); (try (obtain ⟨hx29_0, hf29_0⟩ := Kd.R_celln (⟨#[]⟩ : ByteArray) HO_15.out (x19_3 : Int) (of_eq_true p29) (of_eq_true q29))))); refine store_event (t := 9) (p := 86) (v := ?vo_w33) (w1 := (wr.setCell ⟨go29, (x19_3 : Int).toNat, none⟩ (.string (⟨#[63]⟩ : ByteArray)))) ?hg ?ho ?hn ?hr ?_; (case ho => rfl); (case hg => rfl); (case hn => rfl); (case hr => first | (go_simp; done) | (go_simp; rfl)); intro w33 hw; have hg : wr.grownBy w33 (some go29) := (by rw [hw]; exact HP32.2); have hp_ : Kd.R Kd.string 9 w33 w.heap.size (fun k_ => some k_ ≠ (.slice (some ad324) x11_1.length co31 : Value).ownBlock) (.slice (some ⟨go29, 0, none⟩) x15_3.length co30) y325 := (by rw [hw, Ny325.out]; exact HP32.1); clear HP32; have n0_ := Aside0.mk (Kd.R_after (v := (.slice (some ⟨go29, 0, none⟩) x15_3.length co30)) (v1 := (.slice (some ⟨go29, 0, none⟩) x15_3.length co30)) (ok := (fun _ => True)) (by (with_reducible repeat (first | apply Kd.R_alloc | apply Kd.R_drewN | apply Kd.R_drew)); exact Kd.R_mono HO_11.out (fun _ hk => ⟨trivial, hk⟩)) hg (.inl rfl)); have n1_ := Aside0.mk (hp_); have n2_ := Aside0.mk ((by rw [hw]; exact Ys (HB.out) GB29.out : Below w.heap.size w w33)); clear HO_11; clear HO_15; clear HB; have HO_11 := n0_; have HO_15 := n1_; have HB := n2_; clear n0_ n1_ n2_; clear hg hw hp_)))
             go_roundg k3
             case measure => have := HK1.out; have := HJ13.out; have := HK3.out; omega
             case rel => exact ⟨(y325), (wrap64 (x19_3 + 1)), (by first | rfl | (simp; done) | (simp [*]; done)), H', ⟨by have := HK1.out; have := HJ13.out; have := HK3.out; omega⟩, ⟨by (with_reducible repeat (first | apply Kd.R_alloc | apply Kd.R_drewN | apply Kd.R_drew)); exact Kd.R_mono HO_11.out (fun _ hk => hk.2)⟩, ⟨by (with_reducible repeat (first | apply Kd.R_alloc | apply Kd.R_drewN | apply Kd.R_drew)); exact HO_15.out⟩, ⟨Yr HB⟩⟩
            ·
             rw [if_neg c28] at H
             have c28b0 : ((rdOf ByteArray.empty x15_3 x19_3).toList == (rdOf ByteArray.empty x11_1 x19_3).toList) = false := beq_eq_false_iff_ne.mpr c28
             have c28b1 : ((rdOf ByteArray.empty x15_3 x19_3).toList != (rdOf ByteArray.empty x11_1 x19_3).toList) = true := bne_iff_ne.mpr c28
             exact absurd ((Option.some.inj H).trans HRT_.out) (by decide)
           ·
            rw [if_neg c27] at H
            exact absurd H (by simp)
          ·
           rw [if_neg c26] at H
           exact absurd H (by simp)
         ·
          rw [if_neg c25] at H
          have c25b0 : decide (x19_3 < (x15_3.length : Int)) = false := decide_eq_false c25
          clear c25
          have H' := Aside0.mk H
          clear H
          obtain ⟨Ao34, co34, eo34⟩ := Kd.R_slice HO_15.out
          subst eo34
          go_wp2
          repeat (go_quiet (fail); try go_wp2)
          go_roundg k3
          case measure => have := HK1.out; have := HJ13.out; have := HK3.out; omega
          case rel => exact ⟨(x11_1), (wrap64 (x14_1 + 1)), (by first | rfl | (simp; done) | (simp [*]; done)), H', ⟨by have := HK1.out; have := HJ13.out; have := HK3.out; omega⟩, ⟨by (with_reducible repeat (first | apply Kd.R_alloc | apply Kd.R_drewN | apply Kd.R_drew)); exact Kd.R_mono HO_11.out (fun _ hk => trivial)⟩, ⟨Yr HB⟩⟩
   ·
    rw [if_neg c11] at H
    have c11b0 : decide (x14_1 < 2) = false := decide_eq_false c11
    clear c11
    by_cases c35 : t304 = true
    ·
     subst c35
     have H1 : (if t305.toList = t308.toList then (if t306.toList = t309.toList then (some t311) else (some false)) else (some false)) = some r := by rw [if_pos rfl] at H; exact H
     clear H
     have H := H1
     clear H1
     by_cases c36 : t305.toList = t308.toList
     ·
      rw [if_pos c36] at H
      have c36b0 : (t305.toList == t308.toList) = true := beq_iff_eq.mpr c36
      have c36b1 : (t305.toList != t308.toList) = false := bne_eq_false_iff_eq.mpr c36
      clear c36
      by_cases c37 : t306.toList = t309.toList
      ·
       rw [if_pos c37] at H
       have c37b0 : (t306.toList == t309.toList) = true := beq_iff_eq.mpr c37
       have c37b1 : (t306.toList != t309.toList) = false := bne_eq_false_iff_eq.mpr c37
       clear c37
       obtain rfl := Option.some.inj H
       go_wp2
       repeat (go_quiet (fail); try go_wp2)
       go_ret
       exact ⟨by first | rfl | (simp [errW_none, errW_some] <;> rfl) | (simp [*, errW_none, errW_some] <;> rfl), Yr HB⟩
      ·
       rw [if_neg c37] at H
       have c37b0 : (t306.toList == t309.toList) = false := beq_eq_false_iff_ne.mpr c37
       have c37b1 : (t306.toList != t309.toList) = true := bne_iff_ne.mpr c37
       exact absurd ((Option.some.inj H).trans HRT_.out) (by decide)
     ·
      rw [if_neg c36] at H
      have c36b0 : (t305.toList == t308.toList) = false := beq_eq_false_iff_ne.mpr c36
      have c36b1 : (t305.toList != t308.toList) = true := bne_iff_ne.mpr c36
      exact absurd ((Option.some.inj H).trans HRT_.out) (by decide)
    ·
     replace c35 := Bool.eq_false_iff.mpr c35
     subst c35
     have H1 : (some false) = some r := by rw [if_neg (show ¬ (false = true) by decide)] at H; exact H
     clear H
     have H := H1
     clear H1
     exact absurd ((Option.some.inj H).trans HRT_.out) (by decide)

/-- THE ONE PURE STATEMENT of palinodelaw03_FrameTakes. -/
def palinodelaw03_FrameTakes.Pure : Prop := (∀ k_ r_, palinodelaw03_examples.f k_ = some r_ → r_ = true) ∧ ∀ (a0 : ByteArray), a0.size ≤ 140737488351232 → (a0.size + 1) ≤ 1048576 → ∃ k, palinodelaw03_FrameTakes.f k a0 = some true
theorem palinodelaw03_FrameTakes.walk (P : palinodelaw03_FrameTakes.Pure) (a0 : ByteArray) (w : World) (v0 : a0.size ≤ 140737488351232) (vbk_ : (a0.size + 1) ≤ 1048576) :
  Calls Try.prog 7 #[.string a0] w fun e w' => e = .returned (.bool true) ∧ Below w.heap.size w w' := by
 obtain ⟨k, h⟩ := P.2 a0 v0 vbk_
 refine (palinodelaw03_FrameTakes.calls k a0 true w  h ⟨P.1⟩).mono ?_
 rintro e w' ⟨rfl, hd⟩
 exact ⟨rfl, hd⟩

end Go.Proofs.Ytmmhdoaepdlmcaa.Print
