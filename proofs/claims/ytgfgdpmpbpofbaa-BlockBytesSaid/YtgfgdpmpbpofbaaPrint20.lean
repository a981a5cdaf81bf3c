-- Printed out of the translation by a program of this session's own. Not trusted: Lean checks it.
import Derived.Test.YtgfgdpmpbpofbaaPrint0
import Derived.Test.YtgfgdpmpbpofbaaPrint3
import Derived.Test.YtgfgdpmpbpofbaaPrint8
import Derived.Test.YtgfgdpmpbpofbaaPrint11
import Derived.Test.YtgfgdpmpbpofbaaPrint13
import Derived.Test.YtgfgdpmpbpofbaaPrint19
import Derived.Test.YtgfgdpmpbpofbaaHBlockDecode
import Derived.Test.YtgfgdpmpbpofbaaHBlockEncode
import Derived.Test.YtgfgdpmpbpofbaaHBlockRefEnc
namespace Go.Proofs.Ytgfgdpmpbpofbaa.Print
open Go.RowKit Go.Proofs.YtgfgdpmpbpofbaaW.PrintWords Go.Proofs.YtgfgdpmpbpofbaaW.PrintLast Go.Proofs.YtgfgdpmpbpofbaaW.PrintMore Go.Proofs.YtgfgdpmpbpofbaaX
attribute [local go_sem] max2_int min2_int max_two min_two max_three min_three max_four min_four   -- for this text's walks alone
set_option linter.unusedVariables false
set_option linter.unusedSimpArgs false

/-! ### palinoderef12_Decode: function 15 -/
mutual
def palinoderef12_Decode.j0 : Nat → ByteArray → Int → ByteArray → Bool → Option ((List (S26)) × Bool)
 | 0, _, _, _, _ => none
 | k + 1, x0, x4, x5, x26 => if x26 = true then (some (([] : List (S26)), false)) else (palinoderef12_Decode.l0 k x0 x4 x5 ([] : List (S26)) (⟨#[]⟩ : ByteArray) 0)
def palinoderef12_Decode.l0 : Nat → ByteArray → Int → ByteArray → List (S26) → ByteArray → Int → Option ((List (S26)) × Bool)
 | 0, _, _, _, _, _, _ => none
 | k + 1, x0, x4, x5, x7, x8, x9 => if x9 < x4 then ((palinoderef12_one.f k x5 x8).bind fun bt360 => (if bt360.2.2.2.2.2 = true then (if x7.length < 2932031007402 then (palinoderef12_Decode.l0 k x0 x4 bt360.2.2.2.2.1 (x7 ++ [(⟨bt360.1, bt360.2.1, bt360.2.2.1, bt360.2.2.2.1⟩ : S26)]) bt360.1 (wrap64 (x9 + 1))) else (none)) else (some (([] : List (S26)), false)))) else ((palinoderef12_Encode.f x7).bind fun bt370 => (if bt370.2 = 0 then (if bt370.1.toList = x0.toList then (some (x7, true)) else (some (([] : List (S26)), false))) else (some (([] : List (S26)), false))))
end
def palinoderef12_Decode.f (k : Nat) (a0 : ByteArray) : Option ((List (S26)) × Bool) := (palinoderef01_ReadNum.f k a0).bind fun bt357 => (if bt357.2.2 = 0 then (palinoderef12_Decode.j0 k a0 bt357.1 bt357.2.1 (decide (bt357.1 > 200))) else (palinoderef12_Decode.j0 k a0 bt357.1 bt357.2.1 true))
theorem palinoderef12_Decode.mono_l : ∀ k, (∀ y0 y1 y2 y3, LeO (palinoderef12_Decode.j0 k y0 y1 y2 y3) (palinoderef12_Decode.j0 (k + 1) y0 y1 y2 y3)) ∧ (∀ y0 y1 y2 y3 y4 y5, LeO (palinoderef12_Decode.l0 k y0 y1 y2 y3 y4 y5) (palinoderef12_Decode.l0 (k + 1) y0 y1 y2 y3 y4 y5))
 | 0 => ⟨fun _ _ _ _ r h => by simp [palinoderef12_Decode.j0] at h, fun _ _ _ _ _ _ r h => by simp [palinoderef12_Decode.l0] at h⟩
 | k + 1 => by
  obtain ⟨ih0, ih1⟩ := palinoderef12_Decode.mono_l k
  refine ⟨?_, ?_⟩
  ·
   intro y0 y1 y2 y3
   unfold palinoderef12_Decode.j0
   repeat' first
   | (with_reducible exact ih0 _ _ _ _)
   | (with_reducible exact ih1 _ _ _ _ _ _)
   | (with_reducible exact palinoderef01_ReadNum.mono _ _)
   | (with_reducible exact palinoderef12_one.mono _ _ _)
   | (with_reducible exact LeO.refl _)
   | (with_reducible exact LeO.none _)
   | (with_reducible refine LeO.ite ?_ ?_)
   | (with_reducible refine LeO.bind ?_ (fun _ => ?_))
   | exact ih0 _ _ _ _
   | exact ih1 _ _ _ _ _ _
   | exact palinoderef01_ReadNum.mono _ _
   | exact palinoderef12_one.mono _ _ _
   | exact LeO.none _
   | refine LeO.ite ?_ ?_
   | refine LeO.bind ?_ (fun _ => ?_)
  ·
   intro y0 y1 y2 y3 y4 y5
   unfold palinoderef12_Decode.l0
   repeat' first
   | (with_reducible exact ih0 _ _ _ _)
   | (with_reducible exact ih1 _ _ _ _ _ _)
   | (with_reducible exact palinoderef01_ReadNum.mono _ _)
   | (with_reducible exact palinoderef12_one.mono _ _ _)
   | (with_reducible exact LeO.refl _)
   | (with_reducible exact LeO.none _)
   | (with_reducible refine LeO.ite ?_ ?_)
   | (with_reducible refine LeO.bind ?_ (fun _ => ?_))
   | exact ih0 _ _ _ _
   | exact ih1 _ _ _ _ _ _
   | exact palinoderef01_ReadNum.mono _ _
   | exact palinoderef12_one.mono _ _ _
   | exact LeO.none _
   | refine LeO.ite ?_ ?_
   | refine LeO.bind ?_ (fun _ => ?_)
theorem palinoderef12_Decode.mono : ∀ a0 k, LeO (palinoderef12_Decode.f k a0) (palinoderef12_Decode.f (k + 1) a0) := by
 intro a0 k
 obtain ⟨ih0, ih1⟩ := palinoderef12_Decode.mono_l k
 unfold palinoderef12_Decode.f
 repeat' first
   | (with_reducible exact ih0 _ _ _ _)
   | (with_reducible exact ih1 _ _ _ _ _ _)
   | (with_reducible exact palinoderef01_ReadNum.mono _ _)
   | (with_reducible exact palinoderef12_one.mono _ _ _)
   | (with_reducible exact LeO.refl _)
   | (with_reducible exact LeO.none _)
   | (with_reducible refine LeO.ite ?_ ?_)
   | (with_reducible refine LeO.bind ?_ (fun _ => ?_))
   | exact ih0 _ _ _ _
   | exact ih1 _ _ _ _ _ _
   | exact palinoderef01_ReadNum.mono _ _
   | exact palinoderef12_one.mono _ _ _
   | exact LeO.none _
   | refine LeO.ite ?_ ?_
   | refine LeO.bind ?_ (fun _ => ?_)
set_option maxHeartbeats 8000000 in
set_option maxRecDepth 100000 in
theorem palinoderef12_Decode.calls (k : Nat) (a0 : ByteArray) (r1 : List (S26)) (r2 : Bool) (w : World) (h : palinoderef12_Decode.f k a0 = some (r1, r2)) :
  Calls Try.prog 15 #[.string a0] w fun e w' => ∃ v0_ : Value, e = .returned (.tuple #[v0_, .bool r2]) ∧ Kd.R k26 26 w' w.heap.size (fun _ => True) v0_ r1 ∧ Below w.heap.size w w' := by
 have hu26 := Try.underlying26
 have HB := Aside0.mk (Below.refl w.heap.size w)
 have H : ((palinoderef01_ReadNum.f k a0).bind fun bt357 => (if bt357.2.2 = 0 then (palinoderef12_Decode.j0 k a0 bt357.1 bt357.2.1 (decide (bt357.1 > 200))) else (palinoderef12_Decode.j0 k a0 bt357.1 bt357.2.1 true))) = some (r1, r2) := h
 clear h
 replace H := Option.bind_eq_some_iff.mp H
 obtain ⟨⟨t357, t358, t359⟩, A20, H⟩ := H
 replace H : (if t359 = 0 then (palinoderef12_Decode.j0 k a0 t357 t358 (decide (t357 > 200))) else (palinoderef12_Decode.j0 k a0 t357 t358 true)) = some (r1, r2) := H
 have A2 := Aside0.mk A20
 clear A20
 have HC3 := Aside0.mk H
 clear H
 go_enter Try.func15, Try.ntmps15
 go_upto_region 2 with (first | ((with_reducible refine gate_callee (f := 28) rfl ?_); refine goesL_ (some 17) rfl rfl Try.func28 (by kernel_rfl) rfl #[.string a0] rfl (by (try simp only [List.map_toArray, List.map_cons, List.map_nil]); first | done | rfl | (simp only [List.length_drop, List.length_take]; rfl)) ?_; (with_reducible refine (palinoderef01_ReadNum.calls k a0 t357 t358 t359 _ A2.out).mono ?_); rintro e w' ⟨rfl, ⟨nd, rfl⟩⟩; refine ⟨_, rfl, ?_⟩))
 (try simp only [Act.put, List.setIfInBounds_toArray, List.set_cons_zero, List.set_cons_succ])
 go_cut [26] (fun v26 wc => ∃ (kq : Nat) (x26_2 : Bool), v26 = .bool x26_2 ∧ Aside0 (palinoderef12_Decode.j0 kq a0 t357 t358 x26_2 = some (r1, r2)) ∧ Aside0 (kq ≤ k) ∧ Aside0 (Below w.heap.size w wc))
 case first =>
  have H := HC3.out
  clear HC3
  by_cases c4 : t359 = 0
  ·
   rw [if_pos c4] at H
   have c4b0 : (t359 == 0) = true := beq_iff_eq.mpr c4
   have c4b1 : (t359 != 0) = false := bne_eq_false_iff_eq.mpr c4
   clear c4
   (first | rw [c4b0] | (simp only [i64_w, i32_w]; rw [c4b0]) | skip)
   have H' := Aside0.mk H
   clear H
   go_wp2
   go_meet
   case rel => exact ⟨_, (decide (t357 > 200)), (by first | rfl | (simp; done) | (simp [*]; done)), H', ⟨by first | omega | exact Nat.le_refl _⟩, ⟨Yr HB⟩⟩
  ·
   rw [if_neg c4] at H
   have c4b0 : (t359 == 0) = false := beq_eq_false_iff_ne.mpr c4
   have c4b1 : (t359 != 0) = true := bne_iff_ne.mpr c4
   (first | rw [c4b0] | (simp only [i64_w, i32_w]; rw [c4b0]) | skip)
   have H' := Aside0.mk H
   clear H
   go_wp2
   go_meet
   case rel => exact ⟨_, (true), (by first | rfl | (simp; done) | (simp [*]; done)), H', ⟨by first | omega | exact Nat.le_refl _⟩, ⟨Yr HB⟩⟩
 case rest =>
  clear HC3
  try clear c1
  try clear c2
  try clear p2
  try clear c4
  try clear c4b0
  try clear c4b1
  obtain ⟨kq, x26_2, rfl, HA, HJ2, HB⟩ := hcut
  cases kq with
  | zero => exact absurd HA.out (by simp [palinoderef12_Decode.j0])
  | succ kj2 =>
   have H := HA.out
   clear HA
   simp only [palinoderef12_Decode.j0] at H
   by_cases c5 : x26_2 = true
   ·
    subst c5
    have H1 : (some (([] : List (S26)), false)) = some (r1, r2) := by rw [if_pos rfl] at H; exact H
    clear H
    have H := H1
    clear H1
    simp only [Option.some.injEq, Prod.mk.injEq] at H
    obtain ⟨rfl, rfl⟩ := H
    go_wp2
    go_ret2
    exact ⟨_, by first | rfl | (simp [errW_none, errW_some] <;> rfl) | (simp [*, errW_none, errW_some] <;> rfl), by first | exact Kd.R_nil _ _ _ _ _ | exact Kd.N_nil _ _ _ _ _ | exact Kd.V_nil _ _ _ _ _ | exact Kd.Q_nil _ _ _ _ _ | exact Kd.S_nil _ _ _ _ _, Yr HB⟩
   ·
    replace c5 := Bool.eq_false_iff.mpr c5
    subst c5
    have H1 : (palinoderef12_Decode.l0 kj2 a0 t357 t358 ([] : List (S26)) (⟨#[]⟩ : ByteArray) 0) = some (r1, r2) := by rw [if_neg (show ¬ (false = true) by decide)] at H; exact H
    clear H
    have H := H1
    clear H1
    have H' := Aside0.mk H
    clear H
    go_wp2
    go_loopg [5, 7, 8, 9] kj2 (fun kq v5 v7 v8 v9 w' => ∃ (x5_2 : ByteArray) (x7_2 : List (S26)) (x8_2 : ByteArray) (x9_2 : Int), v5 = .string x5_2 ∧ v8 = .string x8_2 ∧ v9 = .int .i64 x9_2 ∧ Aside0 (palinoderef12_Decode.l0 kq a0 t357 x5_2 x7_2 x8_2 x9_2 = some (r1, r2)) ∧ Aside0 (kq ≤ kj2) ∧ Aside0 (Kd.R k26 26 w' w.heap.size (fun _ => True) v7 x7_2) ∧ Aside0 (Below w.heap.size w w'))
    case atStart => exact ⟨(t358), (([] : List (S26))), ((⟨#[]⟩ : ByteArray)), (0), (by first | rfl | (simp; done) | (simp [*]; done)), (by first | rfl | (simp; done) | (simp [*]; done)), (by first | rfl | (simp; done) | (simp [*]; done)), H', ⟨Nat.le_refl _⟩, ⟨by first | exact Kd.R_nil _ _ _ _ _ | exact Kd.N_nil _ _ _ _ _ | exact Kd.V_nil _ _ _ _ _ | exact Kd.Q_nil _ _ _ _ _ | exact Kd.S_nil _ _ _ _ _⟩, ⟨Yr HB⟩⟩
    case round =>
     clear H'
     try clear c1
     try clear c2
     try clear p2
     try clear c4
     try clear c4b0
     try clear c4b1
     try clear c5
     try clear p2
     obtain ⟨x5_2, x7_2, x8_2, x9_2, rfl, rfl, rfl, HA, HK2, HO_7, HB⟩ := hrel
     cases gk with
     | zero => exact absurd HA.out (by simp [palinoderef12_Decode.l0])
     | succ k2 =>
      have H := HA.out
      clear HA
      simp only [palinoderef12_Decode.l0] at H
      by_cases c6 : x9_2 < t357
      ·
       rw [if_pos c6] at H
       have c6b0 : decide (x9_2 < t357) = true := decide_eq_true c6
       clear c6
       replace H := Option.bind_eq_some_iff.mp H
       obtain ⟨⟨t360, t361, t362, t363, t364, t365⟩, A70, H⟩ := H
       replace H : (if t365 = true then (if x7_2.length < 2932031007402 then (palinoderef12_Decode.l0 k2 a0 t357 t364 (x7_2 ++ [(⟨t360, t361, t362, t363⟩ : S26)]) t360 (wrap64 (x9_2 + 1))) else (none)) else (some (([] : List (S26)), false))) = some (r1, r2) := H
       have A7 := Aside0.mk A70
       clear A70
       by_cases c8 : t365 = true
       ·
        subst c8
        have H1 : (if x7_2.length < 2932031007402 then (palinoderef12_Decode.l0 k2 a0 t357 t364 (x7_2 ++ [(⟨t360, t361, t362, t363⟩ : S26)]) t360 (wrap64 (x9_2 + 1))) else (none)) = some (r1, r2) := by rw [if_pos rfl] at H; exact H
        clear H
        have H := H1
        clear H1
        by_cases c9 : x7_2.length < 2932031007402
        ·
         rw [if_pos c9] at H
         have LMc9 := Aside0.mk c9
         clear c9
         obtain ⟨y367, hy367⟩ : ∃ y_ : List (S26), y_ = (x7_2 ++ [(⟨t360, t361, t362, t363⟩ : S26)]) := ⟨_, rfl⟩
         replace H : (palinoderef12_Decode.l0 k2 a0 t357 t364 y367 t360 (wrap64 (x9_2 + 1))) = some (r1, r2) := by first | (rw [hy367]; with_reducible exact H) | (have H2_ := (Option.bind_some _ _).symm.trans H; rw [hy367]; with_reducible exact H2_) | (have H2_ := (Option.bind_some _ _).symm.trans H; with_reducible exact H2_) | with_reducible exact H | (rw [hy367]; exact H) | exact H
         have Ny367 := Aside0.mk hy367
         clear hy367
         have H' := Aside0.mk H
         clear H
         go_wp2_with (first | ((with_reducible refine gate_callee (f := 29) rfl ?_); refine goesL_ (some 35) rfl rfl Try.func29 (by kernel_rfl) rfl #[.string x5_2, .string x8_2] rfl (by (try simp only [List.map_toArray, List.map_cons, List.map_nil]); first | done | rfl | (simp only [List.length_drop, List.length_take]; rfl)) ?_; (with_reducible refine (palinoderef12_one.calls k2 x5_2 x8_2 t360 t361 t362 t363 t364 true _ A7.out).mono ?_); rintro e w10 ⟨rfl, hb⟩; refine ⟨_, rfl, ?_⟩; have n0_ := Aside0.mk (Kd.R_below (by (with_reducible repeat (first | apply Kd.R_alloc | apply Kd.R_drewN | apply Kd.R_drew)); exact HO_7.out) hb); have n1_ := Aside0.mk (Yv HB hb); clear HO_7; clear HB; have HO_7 := n0_; have HB := n1_; clear n0_ n1_; (try clear hb); (try clear hb2); (try clear hk); (try clear hi)) | ((with_reducible refine gate_dst (N := 10) rfl ?_); refine box_event ?hg (N := 10) ?hd (cs := #[.string (⟨#[]⟩ : ByteArray), .int .i64 0, .bool false, .string (⟨#[]⟩ : ByteArray)]) (t := 26) ?hr ?_; (case hd => rfl); (case hg => rfl); (case hr => first | (go_simp; done) | (go_simp; rfl)); intro gb366 hg w11 hbox hb; have n0_ := Aside0.mk (Kd.R_below (Kd.R_elderB (by (with_reducible repeat (first | apply Kd.R_alloc | apply Kd.R_drewN | apply Kd.R_drew)); exact HO_7.out) gb366 (Nat.le_of_eq hg.symm)) hb); have n1_ := Aside0.mk (Yv HB hb); have n2_ := Aside0.mk (hbox); have n3_ := Aside0.mk (Yg HB hg); have n4_ := Aside0.mk (Yg HB hg); clear HO_7; clear HB; have HO_7 := n0_; have HB := n1_; have BK366 := n2_; have GW366 := n3_; have GE366 := n4_; clear n0_ n1_ n2_ n3_ n4_; clear hb hbox hg; obtain ⟨⟨hcz12_0, hcz12_1, hcz12_2, hcz12_3⟩, hfz12_0, hfz12_1, hfz12_2, hfz12_3⟩ := Zk4 BK366) | ((with_reducible refine gate_builtin (b := .append) (xs := #[.tmp 41, .tmp 43]) rfl ?_); at_builtin; refine Kd.R_append k26 (w0 := w) w.heap.size rfl (.tmp 41) (.tmp 43) 22 26 (.agg #[(.string ⟨#[]⟩), (.int .i64 0), (.bool false), (.string ⟨#[]⟩)]) 48 rfl Try.underlying22 info26 rfl (by decide) (by omega) u7 x7_2 (⟨t360, t361, t362, t363⟩ : S26) [.string t360, .int .i64 t361, .bool t362, .string t363] (fun k_ => k_ ≠ gb366) (fun _ => False) rfl (by first | (go_simp; done) | (go_simp; rfl)) ?aP (fun _ hk => hk.elim) ?aF ?aO ?aB ?aS ?aL ?_; (case aP => exact k26_mkM _ _ _ (⟨t360, t361, t362, t363⟩ : S26)); (case aB => exact (Yr HB)); (case aF => exact (fun k_ hk => Kd.freshB (g := gb366) (o := .cells #[.string t360, .int .i64 t361, .bool t362, .string t363] 26 (0, 0)) (by (with_reducible repeat first | apply Zn | apply Zd | apply Za); refine Zp (cs := #[.string t360, .int .i64 t361, .bool t362, .string (⟨#[]⟩ : ByteArray)]) ?_ 3 _ rfl; (with_reducible repeat first | apply Zn | apply Zd | apply Za); refine Zp (cs := #[.string t360, .int .i64 t361, .bool false, .string (⟨#[]⟩ : ByteArray)]) ?_ 2 _ rfl; (with_reducible repeat first | apply Zn | apply Zd | apply Za); refine Zp (cs := #[.string t360, .int .i64 0, .bool false, .string (⟨#[]⟩ : ByteArray)]) ?_ 1 _ rfl; (with_reducible repeat first | apply Zn | apply Zd | apply Za); refine Zp (cs := #[.string (⟨#[]⟩ : ByteArray), .int .i64 0, .bool false, .string (⟨#[]⟩ : ByteArray)]) ?_ 0 _ rfl; (with_reducible repeat first | apply Zn | apply Zd | apply Za); exact BK366.out) k_ hk)); (case aO => exact (by (with_reducible repeat (first | apply Kd.R_alloc | apply Kd.R_drewN | apply Kd.R_drew)); exact Kd.R_mono (Kd.R_far (p := ⟨gb366, 3, none⟩) (Kd.R_far (p := ⟨gb366, 2, none⟩) (Kd.R_far (p := ⟨gb366, 1, none⟩) (Kd.R_far (p := ⟨gb366, 0, none⟩) (Kd.R_mono HO_7.out (fun k_ hk => (⟨hk, hk.2⟩ : _ ∧ k_ ≠ gb366))) (fun _ hk => hk.2) (.string t360)) (fun _ hk => hk.2) (.int .i64 t361)) (fun _ hk => hk.2) (.bool t362)) (fun _ hk => hk.2) (.string t363)) (fun _ hk => hk.1.2))); (case aS => exact (below_size (Yr HB))); (case aL => have := LMc9.out; omega); intro v368 w13 ho hb hg hat; rw [← Ny367.out] at ho; have n0_ := Aside0.mk (blk_grown (g := gb366) (o := .cells #[.string t360, .int .i64 t361, .bool t362, .string t363] 26 (0, 0)) (by (with_reducible repeat first | apply Zn | apply Zd | apply Za); refine Zp (cs := #[.string t360, .int .i64 t361, .bool t362, .string (⟨#[]⟩ : ByteArray)]) ?_ 3 _ rfl; (with_reducible repeat first | apply Zn | apply Zd | apply Za); refine Zp (cs := #[.string t360, .int .i64 t361, .bool false, .string (⟨#[]⟩ : ByteArray)]) ?_ 2 _ rfl; (with_reducible repeat first | apply Zn | apply Zd | apply Za); refine Zp (cs := #[.string t360, .int .i64 0, .bool false, .string (⟨#[]⟩ : ByteArray)]) ?_ 1 _ rfl; (with_reducible repeat first | apply Zn | apply Zd | apply Za); refine Zp (cs := #[.string (⟨#[]⟩ : ByteArray), .int .i64 0, .bool false, .string (⟨#[]⟩ : ByteArray)]) ?_ 0 _ rfl; (with_reducible repeat first | apply Zn | apply Zd | apply Za); exact BK366.out) hg (Kd.R_away HO_7.out (fun _ hk => hk.2))); have n1_ := Aside0.mk (hb); have n2_ := Aside0.mk (ho); clear BK366; clear HB; clear HO_7; have BK366 := n0_; have HB := n1_; have HO369 := n2_; clear n0_ n1_ n2_; clear ho hb hg hat; obtain ⟨⟨hcz14_0, hcz14_1, hcz14_2, hcz14_3⟩, hfz14_0, hfz14_1, hfz14_2, hfz14_3⟩ := Zk4 BK366))
         go_roundg k2
         case measure => have := HJ2.out; have := HK2.out; omega
         case rel => exact ⟨(t364), (y367), (t360), (wrap64 (x9_2 + 1)), (by first | rfl | (simp; done) | (simp [*]; done)), (by first | rfl | (simp; done) | (simp [*]; done)), (by first | rfl | (simp; done) | (simp [*]; done)), H', ⟨by have := HJ2.out; have := HK2.out; omega⟩, ⟨by (with_reducible repeat (first | apply Kd.R_alloc | apply Kd.R_drewN | apply Kd.R_drew)); exact Kd.R_mono HO369.out (fun _ hk => trivial)⟩, ⟨Yr HB⟩⟩
        ·
         rw [if_neg c9] at H
         exact absurd H (by simp)
       ·
        replace c8 := Bool.eq_false_iff.mpr c8
        subst c8
        have H1 : (some (([] : List (S26)), false)) = some (r1, r2) := by rw [if_neg (show ¬ (false = true) by decide)] at H; exact H
        clear H
        have H := H1
        clear H1
        simp only [Option.some.injEq, Prod.mk.injEq] at H
        obtain ⟨rfl, rfl⟩ := H
        go_wp2_with (first | ((with_reducible refine gate_callee (f := 29) rfl ?_); refine goesL_ (some 35) rfl rfl Try.func29 (by kernel_rfl) rfl #[.string x5_2, .string x8_2] rfl (by (try simp only [List.map_toArray, List.map_cons, List.map_nil]); first | done | rfl | (simp only [List.length_drop, List.length_take]; rfl)) ?_; (with_reducible refine (palinoderef12_one.calls k2 x5_2 x8_2 t360 t361 t362 t363 t364 false _ A7.out).mono ?_); rintro e w15 ⟨rfl, hb⟩; refine ⟨_, rfl, ?_⟩; have n0_ := Aside0.mk (Kd.R_below (by (with_reducible repeat (first | apply Kd.R_alloc | apply Kd.R_drewN | apply Kd.R_drew)); exact HO_7.out) hb); have n1_ := Aside0.mk (Yv HB hb); clear HO_7; clear HB; have HO_7 := n0_; have HB := n1_; clear n0_ n1_; (try clear hb); (try clear hb2); (try clear hk); (try clear hi)) | ((with_reducible refine gate_dst (N := 10) rfl ?_); refine box_event ?hg (N := 10) ?hd (cs := #[.string (⟨#[]⟩ : ByteArray), .int .i64 0, .bool false, .string (⟨#[]⟩ : ByteArray)]) (t := 26) ?hr ?_; (case hd => rfl); (case hg => rfl); (case hr => first | (go_simp; done) | (go_simp; rfl)); intro gb366 hg w16 hbox hb; have n0_ := Aside0.mk (Kd.R_below (Kd.R_elderB (by (with_reducible repeat (first | apply Kd.R_alloc | apply Kd.R_drewN | apply Kd.R_drew)); exact HO_7.out) gb366 (Nat.le_of_eq hg.symm)) hb); have n1_ := Aside0.mk (Yv HB hb); have n2_ := Aside0.mk (hbox); have n3_ := Aside0.mk (Yg HB hg); have n4_ := Aside0.mk (Yg HB hg); clear HO_7; clear HB; have HO_7 := n0_; have HB := n1_; have BK366 := n2_; have GW366 := n3_; have GE366 := n4_; clear n0_ n1_ n2_ n3_ n4_; clear hb hbox hg; obtain ⟨⟨hcz17_0, hcz17_1, hcz17_2, hcz17_3⟩, hfz17_0, hfz17_1, hfz17_2, hfz17_3⟩ := Zk4 BK366))
        go_ret2
        exact ⟨_, by first | rfl | (simp [errW_none, errW_some] <;> rfl) | (simp [*, errW_none, errW_some] <;> rfl), by first | exact Kd.R_nil _ _ _ _ _ | exact Kd.N_nil _ _ _ _ _ | exact Kd.V_nil _ _ _ _ _ | exact Kd.Q_nil _ _ _ _ _ | exact Kd.S_nil _ _ _ _ _, Yr HB⟩
      ·
       rw [if_neg c6] at H
       have c6b0 : decide (x9_2 < t357) = false := decide_eq_false c6
       clear c6
       replace H := Option.bind_eq_some_iff.mp H
       obtain ⟨⟨t370, t371⟩, A180, H⟩ := H
       replace H : (if t371 = 0 then (if t370.toList = a0.toList then (some (x7_2, true)) else (some (([] : List (S26)), false))) else (some (([] : List (S26)), false))) = some (r1, r2) := H
       have A18 := Aside0.mk A180
       clear A180
       by_cases c19 : t371 = 0
       ·
        rw [if_pos c19] at H
        have c19b0 : (t371 == 0) = true := beq_iff_eq.mpr c19
        have c19b1 : (t371 != 0) = false := bne_eq_false_iff_eq.mpr c19
        clear c19
        by_cases c20 : t370.toList = a0.toList
        ·
         rw [if_pos c20] at H
         have c20b0 : (t370.toList == a0.toList) = true := beq_iff_eq.mpr c20
         have c20b1 : (t370.toList != a0.toList) = false := bne_eq_false_iff_eq.mpr c20
         clear c20
         simp only [Option.some.injEq, Prod.mk.injEq] at H
         obtain ⟨rfl, rfl⟩ := H
         obtain ⟨Ao21, co21, eo21⟩ := Kd.R_slice HO_7.out
         subst eo21
         go_wp2_with (first | ((with_reducible refine gate_callee (f := 14) rfl ?_); refine goesL_ (some 50) rfl rfl Try.func14 (by kernel_rfl) rfl #[.slice Ao21 x7_2.length co21] rfl (by (try simp only [List.map_toArray, List.map_cons, List.map_nil]); first | done | rfl | (simp only [List.length_drop, List.length_take]; rfl)) ?_; (with_reducible refine (palinoderef12_Encode.calls _ _ x7_2 t370 t371 _ ?side1 ?side2 A18.out).mono ?_); (case side1 => repeat (first | exact (Kd.R_reads' HO_7.out).2.2 | (with_reducible refine Kd.C_alloc ?_ _) | (with_reducible refine Kd.C_drewN ?_ _) | (with_reducible refine Kd.C_drew ?_))); (case side2 => exact (Kd.R_reads' HO_7.out).2.1); rintro e w22 ⟨rfl, hb⟩; refine ⟨_, rfl, ?_⟩; have n0_ := Aside0.mk (Kd.R_below (by (with_reducible repeat (first | apply Kd.R_alloc | apply Kd.R_drewN | apply Kd.R_drew)); exact HO_7.out) hb); have n1_ := Aside0.mk (Yv HB hb); clear HO_7; clear HB; have HO_7 := n0_; have HB := n1_; clear n0_ n1_; (try clear hb); (try clear hb2); (try clear hk); (try clear hi)))
         go_ret2
         exact ⟨_, by first | rfl | (simp [errW_none, errW_some] <;> rfl) | (simp [*, errW_none, errW_some] <;> rfl), by (with_reducible repeat (first | apply Kd.R_alloc | apply Kd.R_drewN | apply Kd.R_drew)); exact HO_7.out, Yr HB⟩
        ·
         rw [if_neg c20] at H
         have c20b0 : (t370.toList == a0.toList) = false := beq_eq_false_iff_ne.mpr c20
         have c20b1 : (t370.toList != a0.toList) = true := bne_iff_ne.mpr c20
         simp only [Option.some.injEq, Prod.mk.injEq] at H
         obtain ⟨rfl, rfl⟩ := H
         obtain ⟨Ao23, co23, eo23⟩ := Kd.R_slice HO_7.out
         subst eo23
         go_wp2_with (first | ((with_reducible refine gate_callee (f := 14) rfl ?_); refine goesL_ (some 50) rfl rfl Try.func14 (by kernel_rfl) rfl #[.slice Ao23 x7_2.length co23] rfl (by (try simp only [List.map_toArray, List.map_cons, List.map_nil]); first | done | rfl | (simp only [List.length_drop, List.length_take]; rfl)) ?_; (with_reducible refine (palinoderef12_Encode.calls _ _ x7_2 t370 t371 _ ?side1 ?side2 A18.out).mono ?_); (case side1 => repeat (first | exact (Kd.R_reads' HO_7.out).2.2 | (with_reducible refine Kd.C_alloc ?_ _) | (with_reducible refine Kd.C_drewN ?_ _) | (with_reducible refine Kd.C_drew ?_))); (case side2 => exact (Kd.R_reads' HO_7.out).2.1); rintro e w24 ⟨rfl, hb⟩; refine ⟨_, rfl, ?_⟩; have n0_ := Aside0.mk (Kd.R_below (by (with_reducible repeat (first | apply Kd.R_alloc | apply Kd.R_drewN | apply Kd.R_drew)); exact HO_7.out) hb); have n1_ := Aside0.mk (Yv HB hb); clear HO_7; clear HB; have HO_7 := n0_; have HB := n1_; clear n0_ n1_; (try clear hb); (try clear hb2); (try clear hk); (try clear hi)))
         go_ret2
         exact ⟨_, by first | rfl | (simp [errW_none, errW_some] <;> rfl) | (simp [*, errW_none, errW_some] <;> rfl), by first | exact Kd.R_nil _ _ _ _ _ | exact Kd.N_nil _ _ _ _ _ | exact Kd.V_nil _ _ _ _ _ | exact Kd.Q_nil _ _ _ _ _ | exact Kd.S_nil _ _ _ _ _, Yr HB⟩
       ·
        rw [if_neg c19] at H
        have c19b0 : (t371 == 0) = false := beq_eq_false_iff_ne.mpr c19
        have c19b1 : (t371 != 0) = true := bne_iff_ne.mpr c19
        simp only [Option.some.injEq, Prod.mk.injEq] at H
        obtain ⟨rfl, rfl⟩ := H
        obtain ⟨Ao25, co25, eo25⟩ := Kd.R_slice HO_7.out
        subst eo25
        go_wp2_with (first | ((with_reducible refine gate_callee (f := 14) rfl ?_); refine goesL_ (some 50) rfl rfl Try.func14 (by kernel_rfl) rfl #[.slice Ao25 x7_2.length co25] rfl (by (try simp only [List.map_toArray, List.map_cons, List.map_nil]); first | done | rfl | (simp only [List.length_drop, List.length_take]; rfl)) ?_; (with_reducible refine (palinoderef12_Encode.calls _ _ x7_2 t370 t371 _ ?side1 ?side2 A18.out).mono ?_); (case side1 => repeat (first | exact (Kd.R_reads' HO_7.out).2.2 | (with_reducible refine Kd.C_alloc ?_ _) | (with_reducible refine Kd.C_drewN ?_ _) | (with_reducible refine Kd.C_drew ?_))); (case side2 => exact (Kd.R_reads' HO_7.out).2.1); rintro e w26 ⟨rfl, hb⟩; refine ⟨_, rfl, ?_⟩; have n0_ := Aside0.mk (Kd.R_below (by (with_reducible repeat (first | apply Kd.R_alloc | apply Kd.R_drewN | apply Kd.R_drew)); exact HO_7.out) hb); have n1_ := Aside0.mk (Yv HB hb); clear HO_7; clear HB; have HO_7 := n0_; have HB := n1_; clear n0_ n1_; (try clear hb); (try clear hb2); (try clear hk); (try clear hi)))
        go_ret2
        exact ⟨_, by first | rfl | (simp [errW_none, errW_some] <;> rfl) | (simp [*, errW_none, errW_some] <;> rfl), by first | exact Kd.R_nil _ _ _ _ _ | exact Kd.N_nil _ _ _ _ _ | exact Kd.V_nil _ _ _ _ _ | exact Kd.Q_nil _ _ _ _ _ | exact Kd.S_nil _ _ _ _ _, Yr HB⟩

/-! ### palinodelaw12_BlockBytes: function 6 -/
mutual
def palinodelaw12_BlockBytes.l0 : Nat → List (S26) → ByteArray → Bool → ByteArray → Option Int → ByteArray → Int → List (S26) → Bool → Int → Option (Bool)
 | 0, _, _, _, _, _, _, _, _, _, _ => none
 | k + 1, x0, x1, x5, x6, x7, x8, x9, x10, x11, x12 => if x12 < 2 then ((block_Decode.f x1).bind fun bt384 => ((palinodelaw12_entries.f k bt384.1 x10).bind fun t388 => (if t388 = true then (if bt384.2.isNone = true then (if (true != x11) = true then (palinodelaw12_BlockBytes.j1 k x0 x1 x5 x6 x7 x8 x9 x10 x11 x12 bt384.1 true) else (if x11 = true then (palinodelaw12_BlockBytes.j1 k x0 x1 x5 x6 x7 x8 x9 x10 x11 x12 bt384.1 false) else ((palinodelaw12_is.f none 3).bind fun t390 => (palinodelaw12_BlockBytes.j1 k x0 x1 x5 x6 x7 x8 x9 x10 x11 x12 bt384.1 (!t390))))) else (if (false != x11) = true then (palinodelaw12_BlockBytes.j1 k x0 x1 x5 x6 x7 x8 x9 x10 x11 x12 bt384.1 true) else (if x11 = true then (palinodelaw12_BlockBytes.j1 k x0 x1 x5 x6 x7 x8 x9 x10 x11 x12 bt384.1 false) else ((palinodelaw12_is.f (some (bt384.2.getD 0)) 3).bind fun t391 => (palinodelaw12_BlockBytes.j1 k x0 x1 x5 x6 x7 x8 x9 x10 x11 x12 bt384.1 (!t391)))))) else (palinodelaw12_BlockBytes.j1 k x0 x1 x5 x6 x7 x8 x9 x10 x11 x12 bt384.1 true)))) else (if x5 = true then (if x6.toList = x8.toList then ((palinodelaw12_is.f x7 x9).bind fun t381 => (if t381 = true then ((block_Sorted.f k x0).bind fun t382 => ((palinoderef12_Sorted.f k x0).bind fun t383 => (some (t382 == t383)))) else (some false))) else (some false)) else (some false))
def palinodelaw12_BlockBytes.j1 : Nat → List (S26) → ByteArray → Bool → ByteArray → Option Int → ByteArray → Int → List (S26) → Bool → Int → List (S26) → Bool → Option (Bool)
 | 0, _, _, _, _, _, _, _, _, _, _, _, _ => none
 | k + 1, x0, x1, x5, x6, x7, x8, x9, x10, x11, x12, x13, x61 => if x61 = true then (some false) else (palinodelaw12_BlockBytes.l1 k x0 x1 x5 x6 x7 x8 x9 x10 x11 x12 x13 0)
def palinodelaw12_BlockBytes.l1 : Nat → List (S26) → ByteArray → Bool → ByteArray → Option Int → ByteArray → Int → List (S26) → Bool → Int → List (S26) → Int → Option (Bool)
 | 0, _, _, _, _, _, _, _, _, _, _, _, _ => none
 | k + 1, x0, x1, x5, x6, x7, x8, x9, x10, x11, x12, x13, x16 => if x16 < (x13.length : Int) then (if 0 ≤ x16 then (palinodelaw12_BlockBytes.l1 k x0 x1 x5 x6 x7 x8 x9 x10 x11 x12 (x13.set (x16 : Int).toNat (⟨(⟨#[]⟩ : ByteArray), 0, false, (⟨#[]⟩ : ByteArray)⟩ : S26)) (wrap64 (x16 + 1))) else (none)) else (palinodelaw12_BlockBytes.l0 k x0 x1 x5 x6 x7 x8 x9 x10 x11 (wrap64 (x12 + 1)))
end
def palinodelaw12_BlockBytes.f (k : Nat) (l0 : List (S26)) (a1 : ByteArray) : Option (Bool) := (palinodelaw12_examples.f k).bind fun t372 => ((block_Encode.f l0).bind fun bt373 => ((palinoderef12_Encode.f l0).bind fun bt375 => ((palinoderef12_Decode.f k a1).bind fun bt377 => (palinodelaw12_BlockBytes.l0 k l0 a1 t372 bt373.1 bt373.2 bt375.1 bt375.2 bt377.1 bt377.2 0))))
theorem palinodelaw12_BlockBytes.mono_l : ∀ k, (∀ y0 y1 y2 y3 y4 y5 y6 y7 y8 y9, LeO (palinodelaw12_BlockBytes.l0 k y0 y1 y2 y3 y4 y5 y6 y7 y8 y9) (palinodelaw12_BlockBytes.l0 (k + 1) y0 y1 y2 y3 y4 y5 y6 y7 y8 y9)) ∧ (∀ y0 y1 y2 y3 y4 y5 y6 y7 y8 y9 y10 y11, LeO (palinodelaw12_BlockBytes.j1 k y0 y1 y2 y3 y4 y5 y6 y7 y8 y9 y10 y11) (palinodelaw12_BlockBytes.j1 (k + 1) y0 y1 y2 y3 y4 y5 y6 y7 y8 y9 y10 y11)) ∧ (∀ y0 y1 y2 y3 y4 y5 y6 y7 y8 y9 y10 y11, LeO (palinodelaw12_BlockBytes.l1 k y0 y1 y2 y3 y4 y5 y6 y7 y8 y9 y10 y11) (palinodelaw12_BlockBytes.l1 (k + 1) y0 y1 y2 y3 y4 y5 y6 y7 y8 y9 y10 y11))
 | 0 => ⟨fun _ _ _ _ _ _ _ _ _ _ r h => by simp [palinodelaw12_BlockBytes.l0] at h, fun _ _ _ _ _ _ _ _ _ _ _ _ r h => by simp [palinodelaw12_BlockBytes.j1] at h, fun _ _ _ _ _ _ _ _ _ _ _ _ r h => by simp [palinodelaw12_BlockBytes.l1] at h⟩
 | k + 1 => by
  obtain ⟨ih0, ih1, ih2⟩ := palinodelaw12_BlockBytes.mono_l k
  refine ⟨?_, ?_, ?_⟩
  ·
   intro y0 y1 y2 y3 y4 y5 y6 y7 y8 y9
   unfold palinodelaw12_BlockBytes.l0
   repeat' first
   | (with_reducible exact ih0 _ _ _ _ _ _ _ _ _ _)
   | (with_reducible exact ih1 _ _ _ _ _ _ _ _ _ _ _ _)
   | (with_reducible exact ih2 _ _ _ _ _ _ _ _ _ _ _ _)
   | (with_reducible exact block_Sorted.mono _ _)
   | (with_reducible exact palinodelaw12_entries.mono _ _ _)
   | (with_reducible exact palinodelaw12_examples.mono _)
   | (with_reducible exact palinoderef12_Decode.mono _ _)
   | (with_reducible exact palinoderef12_Sorted.mono _ _)
   | (with_reducible exact LeO.refl _)
   | (with_reducible exact LeO.none _)
   | (with_reducible refine LeO.ite ?_ ?_)
   | (with_reducible refine LeO.bind ?_ (fun _ => ?_))
   | exact ih0 _ _ _ _ _ _ _ _ _ _
   | exact ih1 _ _ _ _ _ _ _ _ _ _ _ _
   | exact ih2 _ _ _ _ _ _ _ _ _ _ _ _
   | exact block_Sorted.mono _ _
   | exact palinodelaw12_entries.mono _ _ _
   | exact palinodelaw12_examples.mono _
   | exact palinoderef12_Decode.mono _ _
   | exact palinoderef12_Sorted.mono _ _
   | exact LeO.none _
   | refine LeO.ite ?_ ?_
   | refine LeO.bind ?_ (fun _ => ?_)
  ·
   intro y0 y1 y2 y3 y4 y5 y6 y7 y8 y9 y10 y11
   unfold palinodelaw12_BlockBytes.j1
   repeat' first
   | (with_reducible exact ih0 _ _ _ _ _ _ _ _ _ _)
   | (with_reducible exact ih1 _ _ _ _ _ _ _ _ _ _ _ _)
   | (with_reducible exact ih2 _ _ _ _ _ _ _ _ _ _ _ _)
   | (with_reducible exact block_Sorted.mono _ _)
   | (with_reducible exact palinodelaw12_entries.mono _ _ _)
   | (with_reducible exact palinodelaw12_examples.mono _)
   | (with_reducible exact palinoderef12_Decode.mono _ _)
   | (with_reducible exact palinoderef12_Sorted.mono _ _)
   | (with_reducible exact LeO.refl _)
   | (with_reducible exact LeO.none _)
   | (with_reducible refine LeO.ite ?_ ?_)
   | (with_reducible refine LeO.bind ?_ (fun _ => ?_))
   | exact ih0 _ _ _ _ _ _ _ _ _ _
   | exact ih1 _ _ _ _ _ _ _ _ _ _ _ _
   | exact ih2 _ _ _ _ _ _ _ _ _ _ _ _
   | exact block_Sorted.mono _ _
   | exact palinodelaw12_entries.mono _ _ _
   | exact palinodelaw12_examples.mono _
   | exact palinoderef12_Decode.mono _ _
   | exact palinoderef12_Sorted.mono _ _
   | exact LeO.none _
   | refine LeO.ite ?_ ?_
   | refine LeO.bind ?_ (fun _ => ?_)
  ·
   intro y0 y1 y2 y3 y4 y5 y6 y7 y8 y9 y10 y11
   unfold palinodelaw12_BlockBytes.l1
   repeat' first
   | (with_reducible exact ih0 _ _ _ _ _ _ _ _ _ _)
   | (with_reducible exact ih1 _ _ _ _ _ _ _ _ _ _ _ _)
   | (with_reducible exact ih2 _ _ _ _ _ _ _ _ _ _ _ _)
   | (with_reducible exact block_Sorted.mono _ _)
   | (with_reducible exact palinodelaw12_entries.mono _ _ _)
   | (with_reducible exact palinodelaw12_examples.mono _)
   | (with_reducible exact palinoderef12_Decode.mono _ _)
   | (with_reducible exact palinoderef12_Sorted.mono _ _)
   | (with_reducible exact LeO.refl _)
   | (with_reducible exact LeO.none _)
   | (with_reducible refine LeO.ite ?_ ?_)
   | (with_reducible refine LeO.bind ?_ (fun _ => ?_))
   | exact ih0 _ _ _ _ _ _ _ _ _ _
   | exact ih1 _ _ _ _ _ _ _ _ _ _ _ _
   | exact ih2 _ _ _ _ _ _ _ _ _ _ _ _
   | exact block_Sorted.mono _ _
   | exact palinodelaw12_entries.mono _ _ _
   | exact palinodelaw12_examples.mono _
   | exact palinoderef12_Decode.mono _ _
   | exact palinoderef12_Sorted.mono _ _
   | exact LeO.none _
   | refine LeO.ite ?_ ?_
   | refine LeO.bind ?_ (fun _ => ?_)
theorem palinodelaw12_BlockBytes.mono : ∀ a0 a1 k, LeO (palinodelaw12_BlockBytes.f k a0 a1) (palinodelaw12_BlockBytes.f (k + 1) a0 a1) := by
 intro a0 a1 k
 obtain ⟨ih0, ih1, ih2⟩ := palinodelaw12_BlockBytes.mono_l k
 unfold palinodelaw12_BlockBytes.f
 repeat' first
   | (with_reducible exact ih0 _ _ _ _ _ _ _ _ _ _)
   | (with_reducible exact ih1 _ _ _ _ _ _ _ _ _ _ _ _)
   | (with_reducible exact ih2 _ _ _ _ _ _ _ _ _ _ _ _)
   | (with_reducible exact block_Sorted.mono _ _)
   | (with_reducible exact palinodelaw12_entries.mono _ _ _)
   | (with_reducible exact palinodelaw12_examples.mono _)
   | (with_reducible exact palinoderef12_Decode.mono _ _)
   | (with_reducible exact palinoderef12_Sorted.mono _ _)
   | (with_reducible exact LeO.refl _)
   | (with_reducible exact LeO.none _)
   | (with_reducible refine LeO.ite ?_ ?_)
   | (with_reducible refine LeO.bind ?_ (fun _ => ?_))
   | exact ih0 _ _ _ _ _ _ _ _ _ _
   | exact ih1 _ _ _ _ _ _ _ _ _ _ _ _
   | exact ih2 _ _ _ _ _ _ _ _ _ _ _ _
   | exact block_Sorted.mono _ _
   | exact palinodelaw12_entries.mono _ _ _
   | exact palinodelaw12_examples.mono _
   | exact palinoderef12_Decode.mono _ _
   | exact palinoderef12_Sorted.mono _ _
   | exact LeO.none _
   | refine LeO.ite ?_ ?_
   | refine LeO.bind ?_ (fun _ => ?_)
set_option maxHeartbeats 8000000 in
set_option maxRecDepth 100000 in
theorem palinodelaw12_BlockBytes.calls (k : Nat) (A0 : Option Addr) (c0 : Nat) (l0 : List (S26)) (a1 : ByteArray) (r : Bool) (w : World) (hr0 : Kd.C k26 w A0 l0.length l0) (hc0 : l0.length ≤ c0) (h : palinodelaw12_BlockBytes.f k l0 a1 = some r) (HEX_ : Aside0 (∀ k_ r_, palinodelaw12_examples.f k_ = some r_ → r_ = true)) (HRT_ : Aside0 (r = true) := by first | exact ⟨rfl⟩ | assumption) :
  Calls Try.prog 6 #[.slice A0 l0.length c0, .string a1] w fun e w' => e = .returned (.bool r) ∧ Below w.heap.size w w' := by
 have hu26 := Try.underlying26
 have hu29 := Try.underlying29
 have hu47 := Try.underlying47
 have HR0 := Aside0.mk hr0
 have HC0 := Aside0.mk hc0
 clear hr0 hc0
 have HB := Aside0.mk (Below.refl w.heap.size w)
 have H : ((palinodelaw12_examples.f k).bind fun t372 => ((block_Encode.f l0).bind fun bt373 => ((palinoderef12_Encode.f l0).bind fun bt375 => ((palinoderef12_Decode.f k a1).bind fun bt377 => (palinodelaw12_BlockBytes.l0 k l0 a1 t372 bt373.1 bt373.2 bt375.1 bt375.2 bt377.1 bt377.2 0))))) = some r := h
 clear h
 replace H := Option.bind_eq_some_iff.mp H
 obtain ⟨t372, A30, H⟩ := H
 replace H : ((block_Encode.f l0).bind fun bt373 => ((palinoderef12_Encode.f l0).bind fun bt375 => ((palinoderef12_Decode.f k a1).bind fun bt377 => (palinodelaw12_BlockBytes.l0 k l0 a1 t372 bt373.1 bt373.2 bt375.1 bt375.2 bt377.1 bt377.2 0)))) = some r := H
 have A3 := Aside0.mk A30
 have HTA3_ : Aside0 (t372 = true) := ⟨HEX_.out _ _ A30⟩
 clear A30
 replace H := Option.bind_eq_some_iff.mp H
 obtain ⟨⟨t373, t374⟩, A40, H⟩ := H
 replace H : ((palinoderef12_Encode.f l0).bind fun bt375 => ((palinoderef12_Decode.f k a1).bind fun bt377 => (palinodelaw12_BlockBytes.l0 k l0 a1 t372 t373 t374 bt375.1 bt375.2 bt377.1 bt377.2 0))) = some r := H
 have A4 := Aside0.mk A40
 clear A40
 replace H := Option.bind_eq_some_iff.mp H
 obtain ⟨⟨t375, t376⟩, A50, H⟩ := H
 replace H : ((palinoderef12_Decode.f k a1).bind fun bt377 => (palinodelaw12_BlockBytes.l0 k l0 a1 t372 t373 t374 t375 t376 bt377.1 bt377.2 0)) = some r := H
 have A5 := Aside0.mk A50
 clear A50
 replace H := Option.bind_eq_some_iff.mp H
 obtain ⟨⟨t377, t378⟩, A60, H⟩ := H
 replace H : (palinodelaw12_BlockBytes.l0 k l0 a1 t372 t373 t374 t375 t376 t377 t378 0) = some r := H
 have A6 := Aside0.mk A60
 clear A60
 have H' := Aside0.mk H
 clear H
 go_enter Try.func6, Try.ntmps6
 go_wp2_with (first | ((with_reducible refine gate_callee (f := 9) rfl ?_); refine goesL_ (some 17) rfl rfl Try.func9 (by kernel_rfl) rfl #[] rfl (by (try simp only [List.map_toArray, List.map_cons, List.map_nil]); first | done | rfl | (simp only [List.length_drop, List.length_take]; rfl)) ?_; (with_reducible refine (palinodelaw12_examples.calls k  t372 _ A3.out).mono ?_); rintro e w7 ⟨rfl, hb⟩; refine ⟨_, rfl, ?_⟩; have n0_ := Aside0.mk (Yv HB hb); clear HB; have HB := n0_; clear n0_; (try clear hb); (try clear hb2); (try clear hk); (try clear hi)) | ((with_reducible refine gate_callee (f := 11) rfl ?_); refine goesL_ (some 20) rfl rfl Try.func11 (by kernel_rfl) rfl #[.slice A0 l0.length c0] rfl (by (try simp only [List.map_toArray, List.map_cons, List.map_nil]); first | done | rfl | (simp only [List.length_drop, List.length_take]; rfl)) ?_; (with_reducible refine (block_Encode.calls _ _ l0 t373 t374 _ ?side1 ?side2 A4.out).mono ?_); (case side1 => repeat (first | exact (Kd.C_below HR0.out HB.out) | (with_reducible refine Kd.C_alloc ?_ _) | (with_reducible refine Kd.C_drewN ?_ _) | (with_reducible refine Kd.C_drew ?_))); (case side2 => exact HC0.out); rintro e w8 ⟨rfl, hb⟩; refine ⟨_, rfl, ?_⟩; have n0_ := Aside0.mk (Yv HB hb); clear HB; have HB := n0_; clear n0_; (try clear hb); (try clear hb2); (try clear hk); (try clear hi); (try simp only [errW_none, errW_some])) | ((with_reducible refine gate_callee (f := 14) rfl ?_); refine goesL_ (some 25) rfl rfl Try.func14 (by kernel_rfl) rfl #[.slice A0 l0.length c0] rfl (by (try simp only [List.map_toArray, List.map_cons, List.map_nil]); first | done | rfl | (simp only [List.length_drop, List.length_take]; rfl)) ?_; (with_reducible refine (palinoderef12_Encode.calls _ _ l0 t375 t376 _ ?side1 ?side2 A5.out).mono ?_); (case side1 => repeat (first | exact (Kd.C_below HR0.out HB.out) | (with_reducible refine Kd.C_alloc ?_ _) | (with_reducible refine Kd.C_drewN ?_ _) | (with_reducible refine Kd.C_drew ?_))); (case side2 => exact HC0.out); rintro e w9 ⟨rfl, hb⟩; refine ⟨_, rfl, ?_⟩; have n0_ := Aside0.mk (Yv HB hb); clear HB; have HB := n0_; clear n0_; (try clear hb); (try clear hb2); (try clear hk); (try clear hi)) | ((with_reducible refine gate_callee (f := 15) rfl ?_); refine goesL_ (some 30) rfl rfl Try.func15 (by kernel_rfl) rfl #[.string a1] rfl (by (try simp only [List.map_toArray, List.map_cons, List.map_nil]); first | done | rfl | (simp only [List.length_drop, List.length_take]; rfl)) ?_; (with_reducible refine (palinoderef12_Decode.calls k a1 t377 t378 _ A6.out).mono ?_); rintro e w10 ⟨v379, rfl, ho0, hb⟩; refine ⟨_, rfl, ?_⟩; have n0_ := Aside0.mk (Kd.R_lower ho0 (below_size (Yr HB))); have n1_ := Aside0.mk (Yv HB hb); clear HB; have HO380 := n0_; have HB := n1_; clear n0_ n1_; (try clear hb); (try clear hb2); (try clear hk); (try clear hi); (try clear ho0)))
 go_loopg [12] k (fun kq v12 w' => ∃ (x10_1 : List (S26)) (x12_1 : Int), v12 = .int .i64 x12_1 ∧ Aside0 (palinodelaw12_BlockBytes.l0 kq l0 a1 t372 t373 t374 t375 t376 x10_1 t378 x12_1 = some r) ∧ Aside0 (kq ≤ k) ∧ Aside0 (Kd.R k26 26 w' w.heap.size (fun _ => True) v379 x10_1) ∧ Aside0 (Below w.heap.size w w'))
 case atStart => exact ⟨(t377), (0), (by first | rfl | (simp; done) | (simp [*]; done)), H', ⟨Nat.le_refl _⟩, ⟨by (with_reducible repeat (first | apply Kd.R_alloc | apply Kd.R_drewN | apply Kd.R_drew)); exact HO380.out⟩, ⟨Yr HB⟩⟩
 case round =>
  clear H'
  try clear c1
  try clear p2
  try clear c6
  try clear c9
  obtain ⟨x10_1, x12_1, rfl, HA, HK1, HO_10, HB⟩ := hrel
  cases gk with
  | zero => exact absurd HA.out (by simp [palinodelaw12_BlockBytes.l0])
  | succ k1 =>
   have H := HA.out
   clear HA
   simp only [palinodelaw12_BlockBytes.l0] at H
   by_cases c11 : x12_1 < 2
   ·
    rw [if_pos c11] at H
    have c11b0 : decide (x12_1 < 2) = true := decide_eq_true c11
    clear c11
    replace H := Option.bind_eq_some_iff.mp H
    obtain ⟨⟨t384, t385⟩, A120, H⟩ := H
    replace H : ((palinodelaw12_entries.f k1 t384 x10_1).bind fun t388 => (if t388 = true then (if t385.isNone = true then (if (true != t378) = true then (palinodelaw12_BlockBytes.j1 k1 l0 a1 t372 t373 t374 t375 t376 x10_1 t378 x12_1 t384 true) else (if t378 = true then (palinodelaw12_BlockBytes.j1 k1 l0 a1 t372 t373 t374 t375 t376 x10_1 t378 x12_1 t384 false) else ((palinodelaw12_is.f none 3).bind fun t390 => (palinodelaw12_BlockBytes.j1 k1 l0 a1 t372 t373 t374 t375 t376 x10_1 t378 x12_1 t384 (!t390))))) else (if (false != t378) = true then (palinodelaw12_BlockBytes.j1 k1 l0 a1 t372 t373 t374 t375 t376 x10_1 t378 x12_1 t384 true) else (if t378 = true then (palinodelaw12_BlockBytes.j1 k1 l0 a1 t372 t373 t374 t375 t376 x10_1 t378 x12_1 t384 false) else ((palinodelaw12_is.f (some (t385.getD 0)) 3).bind fun t391 => (palinodelaw12_BlockBytes.j1 k1 l0 a1 t372 t373 t374 t375 t376 x10_1 t378 x12_1 t384 (!t391)))))) else (palinodelaw12_BlockBytes.j1 k1 l0 a1 t372 t373 t374 t375 t376 x10_1 t378 x12_1 t384 true))) = some r := H
    have A12 := Aside0.mk A120
    clear A120
    replace H := Option.bind_eq_some_iff.mp H
    obtain ⟨t388, A130, H⟩ := H
    replace H : (if t388 = true then (if t385.isNone = true then (if (true != t378) = true then (palinodelaw12_BlockBytes.j1 k1 l0 a1 t372 t373 t374 t375 t376 x10_1 t378 x12_1 t384 true) else (if t378 = true then (palinodelaw12_BlockBytes.j1 k1 l0 a1 t372 t373 t374 t375 t376 x10_1 t378 x12_1 t384 false) else ((palinodelaw12_is.f none 3).bind fun t390 => (palinodelaw12_BlockBytes.j1 k1 l0 a1 t372 t373 t374 t375 t376 x10_1 t378 x12_1 t384 (!t390))))) else (if (false != t378) = true then (palinodelaw12_BlockBytes.j1 k1 l0 a1 t372 t373 t374 t375 t376 x10_1 t378 x12_1 t384 true) else (if t378 = true then (palinodelaw12_BlockBytes.j1 k1 l0 a1 t372 t373 t374 t375 t376 x10_1 t378 x12_1 t384 false) else ((palinodelaw12_is.f (some (t385.getD 0)) 3).bind fun t391 => (palinodelaw12_BlockBytes.j1 k1 l0 a1 t372 t373 t374 t375 t376 x10_1 t378 x12_1 t384 (!t391)))))) else (palinodelaw12_BlockBytes.j1 k1 l0 a1 t372 t373 t374 t375 t376 x10_1 t378 x12_1 t384 true)) = some r := H
    have A13 := Aside0.mk A130
    clear A130
    have HC14 := Aside0.mk H
    clear H
    go_upto_region 10 with (first | ((with_reducible refine gate_callee (f := 16) rfl ?_); refine goesL_ (some 39) rfl rfl Try.func16 (by kernel_rfl) rfl #[.string a1] rfl (by (try simp only [List.map_toArray, List.map_cons, List.map_nil]); first | done | rfl | (simp only [List.length_drop, List.length_take]; rfl)) ?_; (with_reducible refine (block_Decode.calls a1 t384 t385 _ A12.out).mono ?_); rintro e w15 ⟨v386, rfl, ho0, hb⟩; refine ⟨_, rfl, ?_⟩; have n0_ := Aside0.mk (Kd.R_elder' (by (with_reducible repeat (first | apply Kd.R_alloc | apply Kd.R_drewN | apply Kd.R_drew)); exact HO_10.out) (Kd.R_base ho0) hb); have n1_ := Aside0.mk (Kd.R_lower (Kd.R_new' ho0 (Kd.R_lt (by (with_reducible repeat (first | apply Kd.R_alloc | apply Kd.R_drewN | apply Kd.R_drew)); exact HO_10.out))) (below_size (Yr HB))); have n2_ := Aside0.mk (Yv HB hb); clear HO_10; clear HB; have HO_10 := n0_; have HO387 := n1_; have HB := n2_; clear n0_ n1_ n2_; (try clear hb); (try clear hb2); (try clear hk); (try clear hi); (try clear ho0); (try simp only [errW_none, errW_some]); obtain ⟨Ao16, co16, eo16⟩ := Kd.R_slice HO387.out; subst eo16; obtain ⟨Ao17, co17, eo17⟩ := Kd.R_slice HO_10.out; subst eo17) | ((with_reducible refine gate_callee (f := 17) rfl ?_); refine goesL_ (some 44) rfl rfl Try.func17 (by kernel_rfl) rfl #[.slice Ao16 t384.length co16, .slice Ao17 x10_1.length co17] rfl (by (try simp only [List.map_toArray, List.map_cons, List.map_nil]); first | done | rfl | (simp only [List.length_drop, List.length_take]; rfl)) ?_; (with_reducible refine (palinodelaw12_entries.calls k1 _ _ t384 _ _ x10_1 t388 _ ?side1 ?side2 ?side3 ?side4 A13.out).mono ?_); (case side1 => repeat (first | exact (Kd.R_reads' HO387.out).2.2 | (with_reducible refine Kd.C_alloc ?_ _) | (with_reducible refine Kd.C_drewN ?_ _) | (with_reducible refine Kd.C_drew ?_))); (case side2 => exact (Kd.R_reads' HO387.out).2.1); (case side3 => repeat (first | exact (Kd.R_reads' HO_10.out).2.2 | (with_reducible refine Kd.C_alloc ?_ _) | (with_reducible refine Kd.C_drewN ?_ _) | (with_reducible refine Kd.C_drew ?_))); (case side4 => exact (Kd.R_reads' HO_10.out).2.1); rintro e w' ⟨rfl, ⟨nd, rfl⟩⟩; refine ⟨_, rfl, ?_⟩))
    (try simp only [Act.put, List.setIfInBounds_toArray, List.set_cons_zero, List.set_cons_succ])
    go_cut [61] (fun v61 wc => ∃ (kq : Nat) (x61_13 : Bool), v61 = .bool x61_13 ∧ Aside0 (palinodelaw12_BlockBytes.j1 kq l0 a1 t372 t373 t374 t375 t376 x10_1 t378 x12_1 t384 x61_13 = some r) ∧ Aside0 (kq ≤ k1) ∧ Aside0 (Kd.R k26 26 wc w.heap.size (fun k_ => some k_ ≠ ((.slice Ao16 t384.length co16) : Value).ownBlock) (.slice Ao17 x10_1.length co17) x10_1) ∧ Aside0 (Kd.R k26 26 wc w.heap.size (fun k_ => some k_ ≠ ((.slice Ao17 x10_1.length co17) : Value).ownBlock) (.slice Ao16 t384.length co16) t384) ∧ Aside0 (Below w.heap.size w wc))
    case first =>
     have H := HC14.out
     clear HC14
     by_cases c18 : t388 = true
     ·
      subst c18
      have H1 : (if t385.isNone = true then (if (true != t378) = true then (palinodelaw12_BlockBytes.j1 k1 l0 a1 t372 t373 t374 t375 t376 x10_1 t378 x12_1 t384 true) else (if t378 = true then (palinodelaw12_BlockBytes.j1 k1 l0 a1 t372 t373 t374 t375 t376 x10_1 t378 x12_1 t384 false) else ((palinodelaw12_is.f none 3).bind fun t390 => (palinodelaw12_BlockBytes.j1 k1 l0 a1 t372 t373 t374 t375 t376 x10_1 t378 x12_1 t384 (!t390))))) else (if (false != t378) = true then (palinodelaw12_BlockBytes.j1 k1 l0 a1 t372 t373 t374 t375 t376 x10_1 t378 x12_1 t384 true) else (if t378 = true then (palinodelaw12_BlockBytes.j1 k1 l0 a1 t372 t373 t374 t375 t376 x10_1 t378 x12_1 t384 false) else ((palinodelaw12_is.f (some (t385.getD 0)) 3).bind fun t391 => (palinodelaw12_BlockBytes.j1 k1 l0 a1 t372 t373 t374 t375 t376 x10_1 t378 x12_1 t384 (!t391)))))) = some r := by rw [if_pos rfl] at H; exact H
      clear H
      have H := H1
      clear H1
      rcases t385 with _ | q389
      ·
       have H1 : (if (true != t378) = true then (palinodelaw12_BlockBytes.j1 k1 l0 a1 t372 t373 t374 t375 t376 x10_1 t378 x12_1 t384 true) else (if t378 = true then (palinodelaw12_BlockBytes.j1 k1 l0 a1 t372 t373 t374 t375 t376 x10_1 t378 x12_1 t384 false) else ((palinodelaw12_is.f none 3).bind fun t390 => (palinodelaw12_BlockBytes.j1 k1 l0 a1 t372 t373 t374 t375 t376 x10_1 t378 x12_1 t384 (!t390))))) = some r := by rw [if_pos (show (none : Option Int).isNone = true by rfl)] at H; exact H
       clear H
       have H := H1
       clear H1
       try simp only [errW_none, errW_some]
       by_cases c19 : (true != t378) = true
       ·
        rw [if_pos c19] at H
        have c19b0 : (true != t378) = true := c19
        (try (have c19b1 : decide (true = t378) = false := by simpa using c19))
        (try (have c19b2 : (true == t378) = false := by simpa using c19))
        (try (have c19b3 : ¬ (true = t378) := by simpa using c19))
        clear c19
        (first | rw [c19b0] | (simp only [i64_w, i32_w]; rw [c19b0]) | skip)
        have H' := Aside0.mk H
        clear H
        go_wp2
        go_meet
        case rel => exact ⟨_, (true), (by first | rfl | (simp; done) | (simp [*]; done)), H', ⟨by have := HK1.out; first | omega | exact Nat.le_refl _⟩, ⟨by (with_reducible repeat (first | apply Kd.R_alloc | apply Kd.R_drewN | apply Kd.R_drew)); exact Kd.R_mono HO_10.out (fun _ hk => hk.2)⟩, ⟨by (with_reducible repeat (first | apply Kd.R_alloc | apply Kd.R_drewN | apply Kd.R_drew)); exact Kd.R_mono HO387.out (fun _ hk => hk.2)⟩, ⟨Yr HB⟩⟩
       ·
        rw [if_neg c19] at H
        have c19b0 : (true != t378) = false := by simpa using c19
        (try (have c19b1 : decide (true = t378) = true := by simpa using c19))
        (try (have c19b2 : (true == t378) = true := by simpa using c19))
        clear c19
        (first | rw [c19b0] | (simp only [i64_w, i32_w]; rw [c19b0]) | skip)
        by_cases c20 : t378 = true
        ·
         subst c20
         have H1 : (palinodelaw12_BlockBytes.j1 k1 l0 a1 t372 t373 t374 t375 t376 x10_1 true x12_1 t384 false) = some r := by rw [if_pos rfl] at H; exact H
         clear H
         have H := H1
         clear H1
         have H' := Aside0.mk H
         clear H
         go_wp2
         go_meet
         case rel => exact ⟨_, (false), (by first | rfl | (simp; done) | (simp [*]; done)), H', ⟨by have := HK1.out; first | omega | exact Nat.le_refl _⟩, ⟨by (with_reducible repeat (first | apply Kd.R_alloc | apply Kd.R_drewN | apply Kd.R_drew)); exact Kd.R_mono HO_10.out (fun _ hk => hk.2)⟩, ⟨by (with_reducible repeat (first | apply Kd.R_alloc | apply Kd.R_drewN | apply Kd.R_drew)); exact Kd.R_mono HO387.out (fun _ hk => hk.2)⟩, ⟨Yr HB⟩⟩
        ·
         replace c20 := Bool.eq_false_iff.mpr c20
         subst c20
         have H1 : ((palinodelaw12_is.f none 3).bind fun t390 => (palinodelaw12_BlockBytes.j1 k1 l0 a1 t372 t373 t374 t375 t376 x10_1 false x12_1 t384 (!t390))) = some r := by rw [if_neg (show ¬ (false = true) by decide)] at H; exact H
         clear H
         have H := H1
         clear H1
         replace H := Option.bind_eq_some_iff.mp H
         obtain ⟨t390, A210, H⟩ := H
         replace H : (palinodelaw12_BlockBytes.j1 k1 l0 a1 t372 t373 t374 t375 t376 x10_1 false x12_1 t384 (!t390)) = some r := H
         have A21 := Aside0.mk A210
         clear A210
         have H' := Aside0.mk H
         clear H
         have CA21 := fun W => palinodelaw12_is.calls none 3 t390 W A21.out
         try simp only [errW_none, errW_some] at CA21
         go_wp2_with (first | (go_at_call 18; (with_reducible refine (CA21 _).mono ?_); rintro e w' ⟨rfl, ⟨nd, rfl⟩⟩))
         go_meet
         case rel => exact ⟨_, (!t390), (by first | rfl | (simp; done) | (simp [*]; done)), H', ⟨by have := HK1.out; first | omega | exact Nat.le_refl _⟩, ⟨by (with_reducible repeat (first | apply Kd.R_alloc | apply Kd.R_drewN | apply Kd.R_drew)); exact Kd.R_mono HO_10.out (fun _ hk => hk.2)⟩, ⟨by (with_reducible repeat (first | apply Kd.R_alloc | apply Kd.R_drewN | apply Kd.R_drew)); exact Kd.R_mono HO387.out (fun _ hk => hk.2)⟩, ⟨Yr HB⟩⟩
      ·
       have H1 : (if (false != t378) = true then (palinodelaw12_BlockBytes.j1 k1 l0 a1 t372 t373 t374 t375 t376 x10_1 t378 x12_1 t384 true) else (if t378 = true then (palinodelaw12_BlockBytes.j1 k1 l0 a1 t372 t373 t374 t375 t376 x10_1 t378 x12_1 t384 false) else ((palinodelaw12_is.f (some q389) 3).bind fun t391 => (palinodelaw12_BlockBytes.j1 k1 l0 a1 t372 t373 t374 t375 t376 x10_1 t378 x12_1 t384 (!t391))))) = some r := by rw [if_neg (show ¬ (some q389).isNone = true by simp)] at H; exact H
       clear H
       have H := H1
       clear H1
       try simp only [errW_none, errW_some]
       by_cases c22 : (false != t378) = true
       ·
        rw [if_pos c22] at H
        have c22b0 : (false != t378) = true := c22
        (try (have c22b1 : decide (false = t378) = false := by simpa using c22))
        (try (have c22b2 : (false == t378) = false := by simpa using c22))
        (try (have c22b3 : ¬ (false = t378) := by simpa using c22))
        clear c22
        have H' := Aside0.mk H
        clear H
        go_wp2
        go_meet
        case rel => exact ⟨_, (true), (by first | rfl | (simp; done) | (simp [*]; done)), H', ⟨by have := HK1.out; first | omega | exact Nat.le_refl _⟩, ⟨by (with_reducible repeat (first | apply Kd.R_alloc | apply Kd.R_drewN | apply Kd.R_drew)); exact Kd.R_mono HO_10.out (fun _ hk => hk.2)⟩, ⟨by (with_reducible repeat (first | apply Kd.R_alloc | apply Kd.R_drewN | apply Kd.R_drew)); exact Kd.R_mono HO387.out (fun _ hk => hk.2)⟩, ⟨Yr HB⟩⟩
       ·
        rw [if_neg c22] at H
        have c22b0 : (false != t378) = false := by simpa using c22
        (try (have c22b1 : decide (false = t378) = true := by simpa using c22))
        (try (have c22b2 : (false == t378) = true := by simpa using c22))
        clear c22
        by_cases c23 : t378 = true
        ·
         subst c23
         have H1 : (palinodelaw12_BlockBytes.j1 k1 l0 a1 t372 t373 t374 t375 t376 x10_1 true x12_1 t384 false) = some r := by rw [if_pos rfl] at H; exact H
         clear H
         have H := H1
         clear H1
         have H' := Aside0.mk H
         clear H
         go_wp2
         go_meet
         case rel => exact ⟨_, (false), (by first | rfl | (simp; done) | (simp [*]; done)), H', ⟨by have := HK1.out; first | omega | exact Nat.le_refl _⟩, ⟨by (with_reducible repeat (first | apply Kd.R_alloc | apply Kd.R_drewN | apply Kd.R_drew)); exact Kd.R_mono HO_10.out (fun _ hk => hk.2)⟩, ⟨by (with_reducible repeat (first | apply Kd.R_alloc | apply Kd.R_drewN | apply Kd.R_drew)); exact Kd.R_mono HO387.out (fun _ hk => hk.2)⟩, ⟨Yr HB⟩⟩
        ·
         replace c23 := Bool.eq_false_iff.mpr c23
         subst c23
         have H1 : ((palinodelaw12_is.f (some q389) 3).bind fun t391 => (palinodelaw12_BlockBytes.j1 k1 l0 a1 t372 t373 t374 t375 t376 x10_1 false x12_1 t384 (!t391))) = some r := by rw [if_neg (show ¬ (false = true) by decide)] at H; exact H
         clear H
         have H := H1
         clear H1
         replace H := Option.bind_eq_some_iff.mp H
         obtain ⟨t391, A240, H⟩ := H
         replace H : (palinodelaw12_BlockBytes.j1 k1 l0 a1 t372 t373 t374 t375 t376 x10_1 false x12_1 t384 (!t391)) = some r := H
         have A24 := Aside0.mk A240
         clear A240
         have H' := Aside0.mk H
         clear H
         have CA24 := fun W => palinodelaw12_is.calls (some q389) 3 t391 W A24.out
         try simp only [errW_none, errW_some] at CA24
         go_wp2_with (first | (go_at_call 18; (with_reducible refine (CA24 _).mono ?_); rintro e w' ⟨rfl, ⟨nd, rfl⟩⟩))
         go_meet
         case rel => exact ⟨_, (!t391), (by first | rfl | (simp; done) | (simp [*]; done)), H', ⟨by have := HK1.out; first | omega | exact Nat.le_refl _⟩, ⟨by (with_reducible repeat (first | apply Kd.R_alloc | apply Kd.R_drewN | apply Kd.R_drew)); exact Kd.R_mono HO_10.out (fun _ hk => hk.2)⟩, ⟨by (with_reducible repeat (first | apply Kd.R_alloc | apply Kd.R_drewN | apply Kd.R_drew)); exact Kd.R_mono HO387.out (fun _ hk => hk.2)⟩, ⟨Yr HB⟩⟩
     ·
      replace c18 := Bool.eq_false_iff.mpr c18
      subst c18
      have H1 : (palinodelaw12_BlockBytes.j1 k1 l0 a1 t372 t373 t374 t375 t376 x10_1 t378 x12_1 t384 true) = some r := by rw [if_neg (show ¬ (false = true) by decide)] at H; exact H
      clear H
      have H := H1
      clear H1
      have H' := Aside0.mk H
      clear H
      go_wp2
      go_meet
      case rel => exact ⟨_, (true), (by first | rfl | (simp; done) | (simp [*]; done)), H', ⟨by have := HK1.out; first | omega | exact Nat.le_refl _⟩, ⟨by (with_reducible repeat (first | apply Kd.R_alloc | apply Kd.R_drewN | apply Kd.R_drew)); exact Kd.R_mono HO_10.out (fun _ hk => hk.2)⟩, ⟨by (with_reducible repeat (first | apply Kd.R_alloc | apply Kd.R_drewN | apply Kd.R_drew)); exact Kd.R_mono HO387.out (fun _ hk => hk.2)⟩, ⟨Yr HB⟩⟩
    case rest =>
     clear HC14
     try clear c1
     try clear c2
     try clear p2
     try clear q3
     try clear c6
     try clear c9
     try clear c11
     try clear c11b0
     try clear c14
     try clear c15
     try clear c16
     try clear c17
     try clear c18
     try clear c19
     try clear c19b0
     try clear c19b1
     try clear c19b2
     try clear c20
     try clear c22
     try clear c22b0
     try clear c22b1
     try clear c22b2
     try clear c23
     try clear p2
     try clear q389
     obtain ⟨kq, x61_13, rfl, HA, HJ13, HO_10, HO_13, HB⟩ := hcut
     cases kq with
     | zero => exact absurd HA.out (by simp [palinodelaw12_BlockBytes.j1])
     | succ kj13 =>
      have H := HA.out
      clear HA
      simp only [palinodelaw12_BlockBytes.j1] at H
      by_cases c25 : x61_13 = true
      ·
       subst c25
       have H1 : (some false) = some r := by rw [if_pos rfl] at H; exact H
       clear H
       have H := H1
       clear H1
       exact absurd ((Option.some.inj H).trans HRT_.out) (by decide)
      ·
       replace c25 := Bool.eq_false_iff.mpr c25
       subst c25
       have H1 : (palinodelaw12_BlockBytes.l1 kj13 l0 a1 t372 t373 t374 t375 t376 x10_1 t378 x12_1 t384 0) = some r := by rw [if_neg (show ¬ (false = true) by decide)] at H; exact H
       clear H
       have H := H1
       clear H1
       have H' := Aside0.mk H
       clear H
       go_wp2
       go_loopg [16] kj13 (fun kq v16 w' => ∃ (x13_3 : List (S26)) (x16_3 : Int), v16 = .int .i64 x16_3 ∧ Aside0 (palinodelaw12_BlockBytes.l1 kq l0 a1 t372 t373 t374 t375 t376 x10_1 t378 x12_1 x13_3 x16_3 = some r) ∧ Aside0 (kq ≤ kj13) ∧ Aside0 (Kd.R k26 26 w' w.heap.size (fun k_ => some k_ ≠ ((.slice Ao16 t384.length co16) : Value).ownBlock) (.slice Ao17 x10_1.length co17) x10_1) ∧ Aside0 (Kd.R k26 26 w' w.heap.size (fun k_ => some k_ ≠ ((.slice Ao17 x10_1.length co17) : Value).ownBlock) (.slice Ao16 t384.length co16) x13_3) ∧ Aside0 (Below w.heap.size w w'))
       case atStart => exact ⟨(t384), (0), (by first | rfl | (simp; done) | (simp [*]; done)), H', ⟨Nat.le_refl _⟩, ⟨by (with_reducible repeat (first | apply Kd.R_alloc | apply Kd.R_drewN | apply Kd.R_drew)); exact HO_10.out⟩, ⟨by (with_reducible repeat (first | apply Kd.R_alloc | apply Kd.R_drewN | apply Kd.R_drew)); exact HO_13.out⟩, ⟨Yr HB⟩⟩
       case round =>
        clear H'
        try clear c1
        try clear c2
        try clear p2
        try clear q3
        try clear c6
        try clear c9
        try clear c11
        try clear c11b0
        try clear c14
        try clear c15
        try clear c16
        try clear c17
        try clear c18
        try clear c19
        try clear c19b0
        try clear c19b1
        try clear c19b2
        try clear c20
        try clear c22
        try clear c22b0
        try clear c22b1
        try clear c22b2
        try clear c23
        try clear c25
        try clear p2
        try clear q3
        try clear q389
        obtain ⟨x13_3, x16_3, rfl, HA, HK3, HO_10, HO_13, HB⟩ := hrel
        have hl13_3 := (Kd.R_reads' HO_13.out).1
        rw [hl13_3] at HO_13
        (try simp only [hl13_3])
        (try simp only [hl13_3] at HO_10)
        cases gk with
        | zero => exact absurd HA.out (by simp [palinodelaw12_BlockBytes.l1])
        | succ k3 =>
         have H := HA.out
         clear HA
         simp only [palinodelaw12_BlockBytes.l1] at H
         by_cases c26 : x16_3 < (x13_3.length : Int)
         ·
          rw [if_pos c26] at H
          have c26b0 : decide (x16_3 < (x13_3.length : Int)) = true := decide_eq_true c26
          clear c26
          by_cases c27 : 0 ≤ x16_3
          ·
           rw [if_pos c27] at H
           have c27b0 : decide (0 ≤ x16_3) = true := decide_eq_true c27
           clear c27
           obtain ⟨y392, hy392⟩ : ∃ y_ : List (S26), y_ = (x13_3.set (x16_3 : Int).toNat (⟨(⟨#[]⟩ : ByteArray), 0, false, (⟨#[]⟩ : ByteArray)⟩ : S26)) := ⟨_, rfl⟩
           replace H : (palinodelaw12_BlockBytes.l1 k3 l0 a1 t372 t373 t374 t375 t376 x10_1 t378 x12_1 y392 (wrap64 (x16_3 + 1))) = some r := by first | (rw [hy392]; with_reducible exact H) | (have H2_ := (Option.bind_some _ _).symm.trans H; rw [hy392]; with_reducible exact H2_) | (have H2_ := (Option.bind_some _ _).symm.trans H; with_reducible exact H2_) | with_reducible exact H | (rw [hy392]; exact H) | exact H
           have Ny392 := Aside0.mk hy392
           clear hy392
           have H' := Aside0.mk H
           clear H
           have p28 : 0 ≤ (x16_3 : Int) := of_decide_eq_true (by first | (with_reducible assumption) | assumption)
           have q28 : (x16_3 : Int) < ((x13_3.length : Int) : Int) := of_decide_eq_true (by first | (with_reducible assumption) | assumption)
           obtain ⟨go28, co28, eo28, gb28, gl28, cl28, HG28⟩ := Kd.R_form HO_13.out (by omega)
           (first | cases eo28 | (injection eo28 with ea_ en_ ec_; (first | subst ea_ | (injection ea_ with ea_; subst ea_)); subst ec_; clear en_))
           have GB28 := Aside0.mk gb28
           have GG28 := Aside0.mk HG28
           clear gb28 gl28 HG28
           obtain ⟨ce28, hcl28, hM28, hcc28, hfr28⟩ := Kd.R_elem HO_13.out z26 (x16_3 : Int) p28 q28
           obtain rfl := k26_openM hM28
           have hx28_0 : wr.cell? ⟨go28, (x16_3 : Int).toNat * 4, none⟩ = some (.string ((rd_T26 x13_3 x16_3).f0)) := hcc28 0 _ rfl
           have hx28_1 : wr.cell? ⟨go28, (x16_3 : Int).toNat * 4 + 1, none⟩ = some (.int .i64 ((rd_T26 x13_3 x16_3).f1)) := hcc28 1 _ rfl
           have hx28_2 : wr.cell? ⟨go28, (x16_3 : Int).toNat * 4 + 2, none⟩ = some (.bool ((rd_T26 x13_3 x16_3).f2)) := hcc28 2 _ rfl
           have hx28_3 : wr.cell? ⟨go28, (x16_3 : Int).toNat * 4 + 3, none⟩ = some (.string ((rd_T26 x13_3 x16_3).f3)) := hcc28 3 _ rfl
           have hf28_0 : wr.frozen? ⟨go28, (x16_3 : Int).toNat * 4, none⟩ = false := hfr28 0
           have hf28_1 : wr.frozen? ⟨go28, (x16_3 : Int).toNat * 4 + 1, none⟩ = false := hfr28 1
           have hf28_2 : wr.frozen? ⟨go28, (x16_3 : Int).toNat * 4 + 2, none⟩ = false := hfr28 2
           have hf28_3 : wr.frozen? ⟨go28, (x16_3 : Int).toNat * 4 + 3, none⟩ = false := hfr28 3
           clear hcl28 hcc28 hfr28 hM28
           replace p28 := eq_true p28
           replace q28 := eq_true q28
           have HX29 := Aside0.mk (show Kd.R k26 26 wr w.heap.size (fun k_ => some k_ ≠ (.slice Ao17 x10_1.length co17 : Value).ownBlock) (.slice (some ⟨go28, 0, none⟩) x13_3.length co16) x13_3 from (by (with_reducible repeat (first | apply Kd.R_alloc | apply Kd.R_drewN | apply Kd.R_drew)); exact HO_13.out))
           obtain ⟨ce29, hcl29, hM29, hcc29, hfr29⟩ := Kd.R_elem HX29.out z26 (x16_3 : Int) (of_decide_eq_true (by first | (with_reducible assumption) | assumption)) (by have h_ : (x16_3 : Int) < ((x13_3.length : Int) : Int) := of_decide_eq_true (by first | (with_reducible assumption) | assumption); first | exact h_ | (have e_ := (Kd.R_reads' HO_13.out).1; omega) | simpa using h_)
           obtain rfl := k26_openM hM29
           have HP29 := Kd.R_seg HX29.out (x16_3 : Int) (of_decide_eq_true (by first | (with_reducible assumption) | assumption)) (by have h_ : (x16_3 : Int) < ((x13_3.length : Int) : Int) := of_decide_eq_true (by first | (with_reducible assumption) | assumption); first | exact h_ | (have e_ := (Kd.R_reads' HO_13.out).1; omega) | simpa using h_) (seg := [.string (⟨#[]⟩ : ByteArray), .int .i64 0, .bool false, .string (⟨#[]⟩ : ByteArray)]) (j := 0) hcl29 hcc29 (show 4 ≤ 4 from by decide) (x' := (⟨(⟨#[]⟩ : ByteArray), 0, false, (⟨#[]⟩ : ByteArray)⟩ : S26)) (k26_mkM _ _ _ (⟨(⟨#[]⟩ : ByteArray), 0, false, (⟨#[]⟩ : ByteArray)⟩ : S26) ) (fun _ hk => hk)
           have hx29_0 := hcc29 0 _ rfl
           (try simp only [show (k26).sz = 4 from rfl, Nat.mul_one, Nat.add_zero] at hx29_0)
           have hf29_0 := hfr29 0
           (try simp only [show (k26).sz = 4 from rfl, Nat.mul_one, Nat.add_zero] at hf29_0)
           have hx29_1 := hcc29 1 _ rfl
           (try simp only [show (k26).sz = 4 from rfl, Nat.mul_one, Nat.add_zero] at hx29_1)
           have hf29_1 := hfr29 1
           (try simp only [show (k26).sz = 4 from rfl, Nat.mul_one, Nat.add_zero] at hf29_1)
           have hx29_2 := hcc29 2 _ rfl
           (try simp only [show (k26).sz = 4 from rfl, Nat.mul_one, Nat.add_zero] at hx29_2)
           have hf29_2 := hfr29 2
           (try simp only [show (k26).sz = 4 from rfl, Nat.mul_one, Nat.add_zero] at hf29_2)
           have hx29_3 := hcc29 3 _ rfl
           (try simp only [show (k26).sz = 4 from rfl, Nat.mul_one, Nat.add_zero] at hx29_3)
           have hf29_3 := hfr29 3
           (try simp only [show (k26).sz = 4 from rfl, Nat.mul_one, Nat.add_zero] at hf29_3)
           clear hcl29 hcc29 hfr29 hM29
           go_wp2_with (first | ((with_reducible refine gate_store (t := 26) (p := 71) rfl ?_); refine store_event (t := 26) (p := 71) (v := ?vo_w30) (w1 := ((((wr.setCell ⟨go28, (x16_3 : Int).toNat * 4, none⟩ (.string (⟨#[]⟩ : ByteArray))).setCell ⟨go28, (x16_3 : Int).toNat * 4 + 1, none⟩ (.int .i64 0)).setCell ⟨go28, (x16_3 : Int).toNat * 4 + 2, none⟩ (.bool false)).setCell ⟨go28, (x16_3 : Int).toNat * 4 + 3, none⟩ (.string (⟨#[]⟩ : ByteArray)))) ?hg ?ho ?hn ?hr ?_; (case ho => rfl); (case hg => rfl); (case hn => rfl); (case hr => first | (go_simp; done) | (go_simp; rfl)); intro w30 hw; have hg : wr.grownBy w30 (some go28) := (by rw [hw]; exact HP29.2); have hp_ : Kd.R k26 26 w30 w.heap.size (fun k_ => some k_ ≠ (.slice Ao17 x10_1.length co17 : Value).ownBlock) (.slice (some ⟨go28, 0, none⟩) x13_3.length co16) y392 := (by rw [hw, Ny392.out]; exact HP29.1); clear HP29; have n0_ := Aside0.mk (Kd.R_after (v := (.slice (some ⟨go28, 0, none⟩) x13_3.length co16)) (v1 := (.slice (some ⟨go28, 0, none⟩) x13_3.length co16)) (ok := (fun _ => True)) (by (with_reducible repeat (first | apply Kd.R_alloc | apply Kd.R_drewN | apply Kd.R_drew)); exact Kd.R_mono HO_10.out (fun _ hk => ⟨trivial, hk⟩)) hg (.inl rfl)); have n1_ := Aside0.mk (hp_); have n2_ := Aside0.mk ((by rw [hw]; exact Ys (Ys (Ys (Ys (HB.out) GB28.out) GB28.out) GB28.out) GB28.out : Below w.heap.size w w30)); clear HO_10; clear HO_13; clear HB; have HO_10 := n0_; have HO_13 := n1_; have HB := n2_; clear n0_ n1_ n2_; clear hg hw hp_))
           (try simp only [← hl13_3])
           go_roundg k3
           case measure => have := HK1.out; have := HJ13.out; have := HK3.out; omega
           case rel => exact ⟨(y392), (wrap64 (x16_3 + 1)), (by first | rfl | (simp; done) | (simp [*]; done)), H', ⟨by have := HK1.out; have := HJ13.out; have := HK3.out; omega⟩, ⟨by (try simp only [hl13_3]); (with_reducible repeat (first | apply Kd.R_alloc | apply Kd.R_drewN | apply Kd.R_drew)); exact Kd.R_mono HO_10.out (fun _ hk => hk.2)⟩, ⟨by (try simp only [hl13_3]); (with_reducible repeat (first | apply Kd.R_alloc | apply Kd.R_drewN | apply Kd.R_drew)); exact HO_13.out⟩, ⟨Yr HB⟩⟩
          ·
           rw [if_neg c27] at H
           exact absurd H (by simp)
         ·
          rw [if_neg c26] at H
          have c26b0 : decide (x16_3 < (x13_3.length : Int)) = false := decide_eq_false c26
          clear c26
          have H' := Aside0.mk H
          clear H
          go_wp2
          (try simp only [← hl13_3])
          go_roundg k3
          case measure => have := HK1.out; have := HJ13.out; have := HK3.out; omega
          case rel => exact ⟨(x10_1), (wrap64 (x12_1 + 1)), (by first | rfl | (simp; done) | (simp [*]; done)), H', ⟨by have := HK1.out; have := HJ13.out; have := HK3.out; omega⟩, ⟨by (try simp only [hl13_3]); (with_reducible repeat (first | apply Kd.R_alloc | apply Kd.R_drewN | apply Kd.R_drew)); exact Kd.R_mono HO_10.out (fun _ hk => trivial)⟩, ⟨Yr HB⟩⟩
   ·
    rw [if_neg c11] at H
    have c11b0 : decide (x12_1 < 2) = false := decide_eq_false c11
    clear c11
    by_cases c31 : t372 = true
    ·
     subst c31
     have H1 : (if t373.toList = t375.toList then ((palinodelaw12_is.f t374 t376).bind fun t381 => (if t381 = true then ((block_Sorted.f k1 l0).bind fun t382 => ((palinoderef12_Sorted.f k1 l0).bind fun t383 => (some (t382 == t383)))) else (some false))) else (some false)) = some r := by rw [if_pos rfl] at H; exact H
     clear H
     have H := H1
     clear H1
     by_cases c32 : t373.toList = t375.toList
     ·
      rw [if_pos c32] at H
      have c32b0 : (t373.toList == t375.toList) = true := beq_iff_eq.mpr c32
      have c32b1 : (t373.toList != t375.toList) = false := bne_eq_false_iff_eq.mpr c32
      clear c32
      replace H := Option.bind_eq_some_iff.mp H
      obtain ⟨t381, A330, H⟩ := H
      replace H : (if t381 = true then ((block_Sorted.f k1 l0).bind fun t382 => ((palinoderef12_Sorted.f k1 l0).bind fun t383 => (some (t382 == t383)))) else (some false)) = some r := H
      have A33 := Aside0.mk A330
      clear A330
      by_cases c34 : t381 = true
      ·
       subst c34
       have H1 : ((block_Sorted.f k1 l0).bind fun t382 => ((palinoderef12_Sorted.f k1 l0).bind fun t383 => (some (t382 == t383)))) = some r := by rw [if_pos rfl] at H; exact H
       clear H
       have H := H1
       clear H1
       replace H := Option.bind_eq_some_iff.mp H
       obtain ⟨t382, A350, H⟩ := H
       replace H : ((palinoderef12_Sorted.f k1 l0).bind fun t383 => (some (t382 == t383))) = some r := H
       have A35 := Aside0.mk A350
       clear A350
       replace H := Option.bind_eq_some_iff.mp H
       obtain ⟨t383, A360, H⟩ := H
       replace H : (some (t382 == t383)) = some r := H
       have A36 := Aside0.mk A360
       clear A360
       obtain rfl := Option.some.inj H
       have CA33 := fun W => palinodelaw12_is.calls t374 t376 true W A33.out
       try simp only [errW_none, errW_some] at CA33
       go_wp2_with (first | (go_at_call 18; (with_reducible refine (CA33 _).mono ?_); rintro e w' ⟨rfl, ⟨nd, rfl⟩⟩) | (go_at_call 10; (with_reducible refine (block_Sorted.calls k1 _ _ l0 t382 _ ?side1 ?side2 A35.out).mono ?_); (case side1 => repeat (first | exact (Kd.C_below HR0.out (Yr HB)) | (with_reducible refine Kd.C_alloc ?_ _) | (with_reducible refine Kd.C_drewN ?_ _) | (with_reducible refine Kd.C_drew ?_))); (case side2 => exact HC0.out); rintro e w37 ⟨rfl, hb⟩; have n0_ := Aside0.mk (Kd.R_below (by (with_reducible repeat (first | apply Kd.R_alloc | apply Kd.R_drewN | apply Kd.R_drew)); exact HO_10.out) hb); have n1_ := Aside0.mk (Yv HB hb); clear HO_10; clear HB; have HO_10 := n0_; have HB := n1_; clear n0_ n1_; (try clear hb); (try clear hb2); (try clear hk); (try clear hi)) | (go_at_call 19; (with_reducible refine (palinoderef12_Sorted.calls k1 _ _ l0 t383 _ ?side1 ?side2 A36.out).mono ?_); (case side1 => repeat (first | exact (Kd.C_below HR0.out HB.out) | (with_reducible refine Kd.C_alloc ?_ _) | (with_reducible refine Kd.C_drewN ?_ _) | (with_reducible refine Kd.C_drew ?_))); (case side2 => exact HC0.out); rintro e w38 ⟨rfl, hb⟩; have n0_ := Aside0.mk (Kd.R_below (by (with_reducible repeat (first | apply Kd.R_alloc | apply Kd.R_drewN | apply Kd.R_drew)); exact HO_10.out) hb); have n1_ := Aside0.mk (Yv HB hb); clear HO_10; clear HB; have HO_10 := n0_; have HB := n1_; clear n0_ n1_; (try clear hb); (try clear hb2); (try clear hk); (try clear hi)))
       go_ret
       exact ⟨by first | rfl | (simp [errW_none, errW_some] <;> rfl) | (simp [*, errW_none, errW_some] <;> rfl), Yr HB⟩
      ·
       replace c34 := Bool.eq_false_iff.mpr c34
       subst c34
       have H1 : (some false) = some r := by rw [if_neg (show ¬ (false = true) by decide)] at H; exact H
       clear H
       have H := H1
       clear H1
       exact absurd ((Option.some.inj H).trans HRT_.out) (by decide)
     ·
      rw [if_neg c32] at H
      have c32b0 : (t373.toList == t375.toList) = false := beq_eq_false_iff_ne.mpr c32
      have c32b1 : (t373.toList != t375.toList) = true := bne_iff_ne.mpr c32
      exact absurd ((Option.some.inj H).trans HRT_.out) (by decide)
    ·
     replace c31 := Bool.eq_false_iff.mpr c31
     subst c31
     have H1 : (some false) = some r := by rw [if_neg (show ¬ (false = true) by decide)] at H; exact H
     clear H
     have H := H1
     clear H1
     exact absurd ((Option.some.inj H).trans HRT_.out) (by decide)

/-- THE ONE PURE STATEMENT of palinodelaw12_BlockBytes. -/
def palinodelaw12_BlockBytes.Pure : Prop := (∀ k_ r_, palinodelaw12_examples.f k_ = some r_ → r_ = true) ∧ ∀ (l0 : List (S26)) (a1 : ByteArray), (l0.length ≤ maxLen ∧ l0.length * 48 ≤ 140737488351232 ∧ ∀ x_ ∈ l0, V26 x_) → a1.size ≤ 140737488351232 → ∃ k, palinodelaw12_BlockBytes.f k l0 a1 = some true
theorem palinodelaw12_BlockBytes.walk (P : palinodelaw12_BlockBytes.Pure) (A0 : Option Addr) (c0 : Nat) (l0 : List (S26)) (a1 : ByteArray) (w : World) (hr0 : Kd.C k26 w A0 l0.length l0) (hc0 : l0.length ≤ c0) (v0 : (l0.length ≤ maxLen ∧ l0.length * 48 ≤ 140737488351232 ∧ ∀ x_ ∈ l0, V26 x_)) (v1 : a1.size ≤ 140737488351232) :
  Calls Try.prog 6 #[.slice A0 l0.length c0, .string a1] w fun e w' => e = .returned (.bool true) ∧ Below w.heap.size w w' := by
 obtain ⟨k, h⟩ := P.2 l0 a1 v0 v1
 refine (palinodelaw12_BlockBytes.calls k A0 c0 l0 a1 true w hr0 hc0 h ⟨P.1⟩).mono ?_
 rintro e w' ⟨rfl, hd⟩
 exact ⟨rfl, hd⟩

end Go.Proofs.Ytgfgdpmpbpofbaa.Print
