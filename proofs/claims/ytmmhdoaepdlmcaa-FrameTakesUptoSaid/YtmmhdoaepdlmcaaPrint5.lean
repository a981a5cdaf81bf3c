-- Printed out of the translation by a program of this session's own. Not trusted: Lean checks it.
import Derived.Test.YtmmhdoaepdlmcaaPrint0
import Derived.Test.YtmmhdoaepdlmcaaPrint3
import Derived.Test.YtmmhdoaepdlmcaaPrint4
import Derived.Test.YtmmhdoaepdlmcaaHFrameSum
namespace Go.Proofs.Ytmmhdoaepdlmcaa.Print
open Go.RowKit Go.Proofs.YtmmhdoaepdlmcaaW.PrintWords Go.Proofs.YtmmhdoaepdlmcaaW.PrintLast Go.Proofs.YtmmhdoaepdlmcaaW.PrintMore Go.Proofs.YtmmhdoaepdlmcaaX
attribute [local go_sem] max2_int min2_int max_two min_two max_three min_three max_four min_four   -- for this text's walks alone
set_option linter.unusedVariables false
set_option linter.unusedSimpArgs false

/-! ### palinoderef01_Num: function 29 -/
mutual
def palinoderef01_Num.j0 : Nat → Int → Bool → Option (ByteArray × Bool)
 | 0, _, _ => none
 | k + 1, x0, x12 => if x12 = true then (some ((⟨#[]⟩ : ByteArray), false)) else (palinoderef01_Num.l0 k x0 ([] : List Int))
def palinoderef01_Num.l0 : Nat → Int → List Int → Option (ByteArray × Bool)
 | 0, _, _ => none
 | k + 1, x0, x4 => if x0 > 0 then (if x4.length < 140737488355328 then (palinoderef01_Num.l0 k (wrap64 (Int.tdiv x0 256)) (x4 ++ [(Int.tmod x0 256) % 256])) else (none)) else (palinoderef01_Num.l1 k x4 (([((x4.length : Int)) % 256] : List Int)) (wrap64 ((x4.length : Int) - 1)))
def palinoderef01_Num.l1 : Nat → List Int → List Int → Int → Option (ByteArray × Bool)
 | 0, _, _, _ => none
 | k + 1, x4, x5, x6 => if x6 ≥ 0 then (if 0 ≤ x6 then (if x6 < (x4.length : Int) then (if x5.length < 140737488355328 then (palinoderef01_Num.l1 k x4 (x5 ++ [rd x4 x6]) (wrap64 (x6 - 1))) else (none)) else (none)) else (none)) else (some (strOfNums x5, true))
end
def palinoderef01_Num.f (k : Nat) (a0 : Int) : Option (ByteArray × Bool) := if a0 < 0 then (palinoderef01_Num.j0 k a0 true) else (palinoderef01_Num.j0 k a0 (decide (a0 > 9007199254740991)))
theorem palinoderef01_Num.mono_l : ∀ k, (∀ y0 y1, LeO (palinoderef01_Num.j0 k y0 y1) (palinoderef01_Num.j0 (k + 1) y0 y1)) ∧ (∀ y0 y1, LeO (palinoderef01_Num.l0 k y0 y1) (palinoderef01_Num.l0 (k + 1) y0 y1)) ∧ (∀ y0 y1 y2, LeO (palinoderef01_Num.l1 k y0 y1 y2) (palinoderef01_Num.l1 (k + 1) y0 y1 y2))
 | 0 => ⟨fun _ _ r h => by simp [palinoderef01_Num.j0] at h, fun _ _ r h => by simp [palinoderef01_Num.l0] at h, fun _ _ _ r h => by simp [palinoderef01_Num.l1] at h⟩
 | k + 1 => by
  obtain ⟨ih0, ih1, ih2⟩ := palinoderef01_Num.mono_l k
  refine ⟨?_, ?_, ?_⟩
  ·
   intro y0 y1
   unfold palinoderef01_Num.j0
   repeat' first
   | (with_reducible exact ih0 _ _)
   | (with_reducible exact ih1 _ _)
   | (with_reducible exact ih2 _ _ _)
   | (with_reducible exact LeO.refl _)
   | (with_reducible exact LeO.none _)
   | (with_reducible refine LeO.ite ?_ ?_)
   | (with_reducible refine LeO.bind ?_ (fun _ => ?_))
   | exact ih0 _ _
   | exact ih1 _ _
   | exact ih2 _ _ _
   | exact LeO.none _
   | refine LeO.ite ?_ ?_
   | refine LeO.bind ?_ (fun _ => ?_)
  ·
   intro y0 y1
   unfold palinoderef01_Num.l0
   repeat' first
   | (with_reducible exact ih0 _ _)
   | (with_reducible exact ih1 _ _)
   | (with_reducible exact ih2 _ _ _)
   | (with_reducible exact LeO.refl _)
   | (with_reducible exact LeO.none _)
   | (with_reducible refine LeO.ite ?_ ?_)
   | (with_reducible refine LeO.bind ?_ (fun _ => ?_))
   | exact ih0 _ _
   | exact ih1 _ _
   | exact ih2 _ _ _
   | exact LeO.none _
   | refine LeO.ite ?_ ?_
   | refine LeO.bind ?_ (fun _ => ?_)
  ·
   intro y0 y1 y2
   unfold palinoderef01_Num.l1
   repeat' first
   | (with_reducible exact ih0 _ _)
   | (with_reducible exact ih1 _ _)
   | (with_reducible exact ih2 _ _ _)
   | (with_reducible exact LeO.refl _)
   | (with_reducible exact LeO.none _)
   | (with_reducible refine LeO.ite ?_ ?_)
   | (with_reducible refine LeO.bind ?_ (fun _ => ?_))
   | exact ih0 _ _
   | exact ih1 _ _
   | exact ih2 _ _ _
   | exact LeO.none _
   | refine LeO.ite ?_ ?_
   | refine LeO.bind ?_ (fun _ => ?_)
theorem palinoderef01_Num.mono : ∀ a0 k, LeO (palinoderef01_Num.f k a0) (palinoderef01_Num.f (k + 1) a0) := by
 intro a0 k
 obtain ⟨ih0, ih1, ih2⟩ := palinoderef01_Num.mono_l k
 unfold palinoderef01_Num.f
 repeat' first
   | (with_reducible exact ih0 _ _)
   | (with_reducible exact ih1 _ _)
   | (with_reducible exact ih2 _ _ _)
   | (with_reducible exact LeO.refl _)
   | (with_reducible exact LeO.none _)
   | (with_reducible refine LeO.ite ?_ ?_)
   | (with_reducible refine LeO.bind ?_ (fun _ => ?_))
   | exact ih0 _ _
   | exact ih1 _ _
   | exact ih2 _ _ _
   | exact LeO.none _
   | refine LeO.ite ?_ ?_
   | refine LeO.bind ?_ (fun _ => ?_)
set_option maxHeartbeats 8000000 in
set_option maxRecDepth 100000 in
theorem palinoderef01_Num.calls (k : Nat) (a0 : Int) (r1 : ByteArray) (r2 : Bool) (w : World) (h : palinoderef01_Num.f k a0 = some (r1, r2)) :
  Calls Try.prog 29 #[.int .i64 a0] w fun e w' => e = .returned (.tuple #[.string r1, .bool r2]) ∧ Below w.heap.size w w' := by
 have HB := Aside0.mk (Below.refl w.heap.size w)
 have H : (if a0 < 0 then (palinoderef01_Num.j0 k a0 true) else (palinoderef01_Num.j0 k a0 (decide (a0 > 9007199254740991)))) = some (r1, r2) := h
 clear h
 have HC2 := Aside0.mk H
 clear H
 go_enter Try.func29, Try.ntmps29
 go_upto_region 1 with (fail)
 go_cut [12] (fun v12 wc => ∃ (kq : Nat) (x12_1 : Bool), v12 = .bool x12_1 ∧ Aside0 (palinoderef01_Num.j0 kq a0 x12_1 = some (r1, r2)) ∧ Aside0 (kq ≤ k) ∧ Aside0 (Below w.heap.size w wc))
 case first =>
  have H := HC2.out
  clear HC2
  by_cases c3 : a0 < 0
  ·
   rw [if_pos c3] at H
   have c3b0 : decide (a0 < 0) = true := decide_eq_true c3
   clear c3
   (first | rw [c3b0] | (simp only [i64_w, i32_w]; rw [c3b0]) | skip)
   have H' := Aside0.mk H
   clear H
   go_wp2
   go_meet
   case rel => exact ⟨_, (true), (by first | rfl | (simp; done) | (simp [*]; done)), H', ⟨by first | omega | exact Nat.le_refl _⟩, ⟨Yr HB⟩⟩
  ·
   rw [if_neg c3] at H
   have c3b0 : decide (a0 < 0) = false := decide_eq_false c3
   clear c3
   (first | rw [c3b0] | (simp only [i64_w, i32_w]; rw [c3b0]) | skip)
   have H' := Aside0.mk H
   clear H
   go_wp2
   go_meet
   case rel => exact ⟨_, (decide (a0 > 9007199254740991)), (by first | rfl | (simp; done) | (simp [*]; done)), H', ⟨by first | omega | exact Nat.le_refl _⟩, ⟨Yr HB⟩⟩
 case rest =>
  clear HC2
  try clear c2
  try clear p2
  try clear c3
  try clear c3b0
  obtain ⟨kq, x12_1, rfl, HA, HJ1, HB⟩ := hcut
  cases kq with
  | zero => exact absurd HA.out (by simp [palinoderef01_Num.j0])
  | succ kj1 =>
   have H := HA.out
   clear HA
   simp only [palinoderef01_Num.j0] at H
   by_cases c4 : x12_1 = true
   ·
    subst c4
    have H1 : (some ((⟨#[]⟩ : ByteArray), false)) = some (r1, r2) := by rw [if_pos rfl] at H; exact H
    clear H
    have H := H1
    clear H1
    simp only [Option.some.injEq, Prod.mk.injEq] at H
    obtain ⟨rfl, rfl⟩ := H
    go_wp2
    go_ret2
    exact ⟨by first | rfl | (simp [errW_none, errW_some] <;> rfl) | (simp [*, errW_none, errW_some] <;> rfl), Yr HB⟩
   ·
    replace c4 := Bool.eq_false_iff.mpr c4
    subst c4
    have H1 : (palinoderef01_Num.l0 kj1 a0 ([] : List Int)) = some (r1, r2) := by rw [if_neg (show ¬ (false = true) by decide)] at H; exact H
    clear H
    have H := H1
    clear H1
    have H' := Aside0.mk H
    clear H
    go_wp2
    go_loopg [0, 4] kj1 (fun kq v0 v4 w' => ∃ (x0_2 : Int) (x4_2 : List Int), v0 = .int .i64 x0_2 ∧ Aside0 (palinoderef01_Num.l0 kq x0_2 x4_2 = some (r1, r2)) ∧ Aside0 (kq ≤ kj1) ∧ Aside0 (Kd.R (Kd.int .u8) 5 w' w.heap.size (fun _ => True) v4 x4_2) ∧ Aside0 (Below w.heap.size w w'))
    case atStart => exact ⟨(a0), (([] : List Int)), (by first | rfl | (simp; done) | (simp [*]; done)), H', ⟨Nat.le_refl _⟩, ⟨by first | exact Kd.R_nil _ _ _ _ _ | exact Kd.N_nil _ _ _ _ _ | exact Kd.V_nil _ _ _ _ _ | exact Kd.Q_nil _ _ _ _ _ | exact Kd.S_nil _ _ _ _ _⟩, ⟨Yr HB⟩⟩
    case round =>
     clear H'
     try clear c2
     try clear p2
     try clear c3
     try clear c3b0
     try clear c4
     try clear p2
     obtain ⟨x0_2, x4_2, rfl, HA, HK2, HO_4, HB⟩ := hrel
     cases gk with
     | zero => exact absurd HA.out (by simp [palinoderef01_Num.l0])
     | succ k2 =>
      have H := HA.out
      clear HA
      simp only [palinoderef01_Num.l0] at H
      by_cases c5 : x0_2 > 0
      ·
       rw [if_pos c5] at H
       have c5b0 : decide (0 < x0_2) = true := decide_eq_true c5
       clear c5
       by_cases c6 : x4_2.length < 140737488355328
       ·
        rw [if_pos c6] at H
        have LMc6 := Aside0.mk c6
        clear c6
        obtain ⟨y224, hy224⟩ : ∃ y_ : List Int, y_ = (x4_2 ++ [(Int.tmod x0_2 256) % 256]) := ⟨_, rfl⟩
        replace H : (palinoderef01_Num.l0 k2 (wrap64 (Int.tdiv x0_2 256)) y224) = some (r1, r2) := by first | (rw [hy224]; with_reducible exact H) | (have H2_ := (Option.bind_some _ _).symm.trans H; rw [hy224]; with_reducible exact H2_) | (have H2_ := (Option.bind_some _ _).symm.trans H; with_reducible exact H2_) | with_reducible exact H | (rw [hy224]; exact H) | exact H
        have Ny224 := Aside0.mk hy224
        clear hy224
        have H' := Aside0.mk H
        clear H
        go_wp2_with (first | ((with_reducible refine gate_builtin (b := .append) (xs := #[.tmp 15, .tmp 19]) rfl ?_); at_builtin; refine Kd.R_append (Kd.int .u8) (w0 := w) w.heap.size rfl (.tmp 15) (.tmp 19) 36 5 (.int .u8 0) 1 rfl Try.underlying36 info5 rfl (by decide) (by omega) u4 x4_2 ((Int.tmod x0_2 256) % 256) [.int .u8 ((Int.tmod x0_2 256) % 256)] (fun _ => True) (fun _ => False) rfl rfl ?aP (fun _ hk => hk.elim) ?aF ?aO ?aB ?aS ?aL ?_; (case aP => exact rfl); (case aB => exact (Yr HB)); (case aF => exact (fun _ _ => trivial)); (case aO => exact (by (with_reducible repeat (first | apply Kd.R_alloc | apply Kd.R_drewN | apply Kd.R_drew)); exact HO_4.out)); (case aS => exact (below_size (Yr HB))); (case aL => have := LMc6.out; omega); intro v225 w7 ho hb hg hat; rw [← Ny224.out] at ho; have n0_ := Aside0.mk (hb); have n1_ := Aside0.mk (ho); clear HB; clear HO_4; have HB := n0_; have HO226 := n1_; clear n0_ n1_; clear ho hb hg hat))
        go_roundg k2
        case measure => have := HJ1.out; have := HK2.out; omega
        case rel => exact ⟨(wrap64 (Int.tdiv x0_2 256)), (y224), (by first | rfl | (simp; done) | (simp [*]; done)), H', ⟨by have := HJ1.out; have := HK2.out; omega⟩, ⟨by (with_reducible repeat (first | apply Kd.R_alloc | apply Kd.R_drewN | apply Kd.R_drew)); exact HO226.out⟩, ⟨Yr HB⟩⟩
       ·
        rw [if_neg c6] at H
        exact absurd H (by simp)
      ·
       rw [if_neg c5] at H
       have c5b0 : decide (0 < x0_2) = false := decide_eq_false c5
       clear c5
       obtain ⟨y227, hy227⟩ : ∃ y_ : List Int, y_ = (([((x4_2.length : Int)) % 256] : List Int)) := ⟨_, rfl⟩
       replace H : (palinoderef01_Num.l1 k2 x4_2 y227 (wrap64 ((x4_2.length : Int) - 1))) = some (r1, r2) := by first | (rw [hy227]; with_reducible exact H) | (have H2_ := (Option.bind_some _ _).symm.trans H; rw [hy227]; with_reducible exact H2_) | (have H2_ := (Option.bind_some _ _).symm.trans H; with_reducible exact H2_) | with_reducible exact H | (rw [hy227]; exact H) | exact H
       have Ny227 := Aside0.mk hy227
       clear hy227
       have H' := Aside0.mk H
       clear H
       obtain ⟨Ao8, co8, eo8⟩ := Kd.R_slice HO_4.out
       subst eo8
       go_wp2_with (first | ((with_reducible refine gate_dst (N := 26) rfl ?_); refine Kd.R_lit (Kd.int .u8) _ 5 ?hg (N := 26) ?hd (xs := ([((x4_2.length : Int)) % 256] : List Int)) (inner := [.int .u8 (((x4_2.length : Int)) % 256)]) (ok := fun _ => True) (okp := fun _ => True) ?hr ?hp (fun _ hk => hk) trivial (Below.refl _ _) (Nat.le_refl _) (by simp) ?_; (case hd => rfl); (case hg => rfl); (case hr => first | (go_simp; done) | (go_simp; rfl)); (case hp => exact (Reps.one (show Kd.M (Kd.int .u8) _ _ _ (((x4_2.length : Int)) % 256) [.int .u8 (((x4_2.length : Int)) % 256)] from rfl) (Reps.none _ _))); intro v228 w9 ho10 hb hg_ hnew_; clear hg_ hnew_; (first | rw [← Ny227.out] at ho10 | (simp only [Int.reduceToNat] at ho10; rw [← Ny227.out] at ho10)); have n0_ := Aside0.mk (Kd.R_elder' (by (with_reducible repeat (first | apply Kd.R_alloc | apply Kd.R_drewN | apply Kd.R_drew)); exact HO_4.out) (Kd.R_base ho10) hb); have n1_ := Aside0.mk (Kd.R_lower (Kd.R_new' ho10 (Kd.R_lt (by (with_reducible repeat (first | apply Kd.R_alloc | apply Kd.R_drewN | apply Kd.R_drew)); exact HO_4.out))) (below_size (Yr HB))); have n2_ := Aside0.mk (Yv HB hb); clear HO_4; clear HB; have HO_4 := n0_; have HO229 := n1_; have HB := n2_; clear n0_ n1_ n2_; clear hb ho10))
       go_loopg [5, 6] k2 (fun kq v5 v6 w' => ∃ (x5_3 : List Int) (x6_3 : Int), v6 = .int .i64 x6_3 ∧ Aside0 (palinoderef01_Num.l1 kq x4_2 x5_3 x6_3 = some (r1, r2)) ∧ Aside0 (kq ≤ k2) ∧ Aside0 (Kd.R (Kd.int .u8) 5 w' w.heap.size (fun k_ => some k_ ≠ (v5 : Value).ownBlock) (.slice Ao8 x4_2.length co8) x4_2) ∧ Aside0 (Kd.R (Kd.int .u8) 5 w' w.heap.size (fun k_ => some k_ ≠ ((.slice Ao8 x4_2.length co8) : Value).ownBlock) v5 x5_3) ∧ Aside0 (Below w.heap.size w w'))
       case atStart => exact ⟨(y227), (wrap64 ((x4_2.length : Int) - 1)), (by first | rfl | (simp; done) | (simp [*]; done)), H', ⟨Nat.le_refl _⟩, ⟨by (with_reducible repeat (first | apply Kd.R_alloc | apply Kd.R_drewN | apply Kd.R_drew)); exact Kd.R_mono HO_4.out (fun _ hk => hk.2)⟩, ⟨by (with_reducible repeat (first | apply Kd.R_alloc | apply Kd.R_drewN | apply Kd.R_drew)); exact Kd.R_mono HO229.out (fun _ hk => hk.2)⟩, ⟨Yr HB⟩⟩
       case round =>
        clear H'
        try clear c2
        try clear p2
        try clear c3
        try clear c3b0
        try clear c4
        try clear c5
        try clear c5b0
        try clear c6
        try clear p6
        try clear p2
        obtain ⟨x5_3, x6_3, rfl, HA, HK3, HO_4, HO_5, HB⟩ := hrel
        cases gk with
        | zero => exact absurd HA.out (by simp [palinoderef01_Num.l1])
        | succ k3 =>
         have H := HA.out
         clear HA
         simp only [palinoderef01_Num.l1] at H
         by_cases c11 : x6_3 ≥ 0
         ·
          rw [if_pos c11] at H
          have c11b0 : decide (0 ≤ x6_3) = true := decide_eq_true c11
          clear c11
          by_cases c12 : 0 ≤ x6_3
          ·
           rw [if_pos c12] at H
           have c12b0 : decide (0 ≤ x6_3) = true := decide_eq_true c12
           clear c12
           by_cases c13 : x6_3 < (x4_2.length : Int)
           ·
            rw [if_pos c13] at H
            have c13b0 : decide (x6_3 < (x4_2.length : Int)) = true := decide_eq_true c13
            clear c13
            by_cases c14 : x5_3.length < 140737488355328
            ·
             rw [if_pos c14] at H
             have LMc14 := Aside0.mk c14
             clear c14
             obtain ⟨y231, hy231⟩ : ∃ y_ : List Int, y_ = (x5_3 ++ [rd x4_2 x6_3]) := ⟨_, rfl⟩
             replace H : (palinoderef01_Num.l1 k3 x4_2 y231 (wrap64 (x6_3 - 1))) = some (r1, r2) := by first | (rw [hy231]; with_reducible exact H) | (have H2_ := (Option.bind_some _ _).symm.trans H; rw [hy231]; with_reducible exact H2_) | (have H2_ := (Option.bind_some _ _).symm.trans H; with_reducible exact H2_) | with_reducible exact H | (rw [hy231]; exact H) | exact H
             have Ny231 := Aside0.mk hy231
             clear hy231
             have H' := Aside0.mk H
             clear H
             have p230 : 0 ≤ (x6_3 : Int) := of_decide_eq_true (by first | (with_reducible assumption) | assumption)
             have q230 : x6_3 < (x4_2.length : Int) := of_decide_eq_true (by first | (with_reducible assumption) | assumption)
             obtain ⟨ad230, e230, hx230_0⟩ := Kd.at_int (Kd.R_reads' HO_4.out).2.2 x6_3 p230 q230
             cases e230
             replace p230 := eq_true p230
             replace q230 := eq_true q230
             go_wp2_with (first | ((with_reducible refine gate_builtin (b := .append) (xs := #[.tmp 34, .tmp 39]) rfl ?_); at_builtin; refine Kd.R_append (Kd.int .u8) (w0 := w) w.heap.size rfl (.tmp 34) (.tmp 39) 36 5 (.int .u8 0) 1 rfl Try.underlying36 info5 rfl (by decide) (by omega) u5 x5_3 (rd x4_2 x6_3) [.int .u8 (rd x4_2 x6_3)] (fun k_ => some k_ ≠ (.slice (some ad230) x4_2.length co8 : Value).ownBlock) (fun _ => False) rfl rfl ?aP (fun _ hk => hk.elim) ?aF ?aO ?aB ?aS ?aL ?_; (case aP => exact rfl); (case aB => exact (Yr HB)); (case aF => exact (fun k_ hk => Kd.fresh' (Kd.R_lt (by (with_reducible repeat (first | apply Kd.R_alloc | apply Kd.R_drewN | apply Kd.R_drew)); exact HO_4.out)) k_ hk)); (case aO => exact (by (with_reducible repeat (first | apply Kd.R_alloc | apply Kd.R_drewN | apply Kd.R_drew)); exact HO_5.out)); (case aS => exact (below_size (Yr HB))); (case aL => have := LMc14.out; omega); intro v232 w15 ho hb hg hat; rw [← Ny231.out] at ho; have n0_ := Aside0.mk (Kd.R_after (ok := (fun _ => True)) (by (with_reducible repeat (first | apply Kd.R_alloc | apply Kd.R_drewN | apply Kd.R_drew)); exact Kd.R_mono HO_4.out (fun _ hk => ⟨trivial, hk⟩)) hg hat); have n1_ := Aside0.mk (hb); have n2_ := Aside0.mk (ho); clear HO_4; clear HB; clear HO_5; have HO_4 := n0_; have HB := n1_; have HO233 := n2_; clear n0_ n1_ n2_; clear ho hb hg hat))
             go_roundg k3
             case measure => have := HJ1.out; have := HK2.out; have := HK3.out; omega
             case rel => exact ⟨(y231), (wrap64 (x6_3 - 1)), (by first | rfl | (simp; done) | (simp [*]; done)), H', ⟨by have := HJ1.out; have := HK2.out; have := HK3.out; omega⟩, ⟨by (with_reducible repeat (first | apply Kd.R_alloc | apply Kd.R_drewN | apply Kd.R_drew)); exact Kd.R_mono HO_4.out (fun _ hk => hk.2)⟩, ⟨by (with_reducible repeat (first | apply Kd.R_alloc | apply Kd.R_drewN | apply Kd.R_drew)); exact HO233.out⟩, ⟨Yr HB⟩⟩
            ·
             rw [if_neg c14] at H
             exact absurd H (by simp)
           ·
            rw [if_neg c13] at H
            exact absurd H (by simp)
          ·
           rw [if_neg c12] at H
           exact absurd H (by simp)
         ·
          rw [if_neg c11] at H
          have c11b0 : decide (0 ≤ x6_3) = false := decide_eq_false c11
          clear c11
          simp only [Option.some.injEq, Prod.mk.injEq] at H
          obtain ⟨rfl, rfl⟩ := H
          have hcv16 := own_string (P := Try.prog) Try.underlying36 Try.underlying5 Try.underlying9 (Kd.own_of_R HO_5.out)
          go_wp2
          go_ret2
          exact ⟨by first | rfl | (simp [errW_none, errW_some] <;> rfl) | (simp [*, errW_none, errW_some] <;> rfl), Yr HB⟩

/-! ### palinoderef01_Text: function 21 -/
def palinoderef01_Text.f (k : Nat) (a0 : ByteArray) : Option (ByteArray × Bool) := if (a0.size : Int) > 1048576 then (some ((⟨#[]⟩ : ByteArray), false)) else ((palinoderef01_Num.f k (a0.size : Int)).bind fun bt234 => (if bt234.1.size + a0.size ≤ 9223372036854775807 then (some (bt234.1 ++ a0, true)) else (none)))
theorem palinoderef01_Text.mono : ∀ a0 k, LeO (palinoderef01_Text.f k a0) (palinoderef01_Text.f (k + 1) a0) := by
 intro a0 k
 unfold palinoderef01_Text.f
 repeat' first
   | (with_reducible exact palinoderef01_Num.mono _ _)
   | (with_reducible exact LeO.refl _)
   | (with_reducible exact LeO.none _)
   | (with_reducible refine LeO.ite ?_ ?_)
   | (with_reducible refine LeO.bind ?_ (fun _ => ?_))
   | exact palinoderef01_Num.mono _ _
   | exact LeO.none _
   | refine LeO.ite ?_ ?_
   | refine LeO.bind ?_ (fun _ => ?_)
set_option maxHeartbeats 8000000 in
set_option maxRecDepth 100000 in
theorem palinoderef01_Text.calls (k : Nat) (a0 : ByteArray) (r1 : ByteArray) (r2 : Bool) (w : World) (h : palinoderef01_Text.f k a0 = some (r1, r2)) :
  Calls Try.prog 21 #[.string a0] w fun e w' => e = .returned (.tuple #[.string r1, .bool r2]) ∧ Below w.heap.size w w' := by
 have HB := Aside0.mk (Below.refl w.heap.size w)
 have H : (if (a0.size : Int) > 1048576 then (some ((⟨#[]⟩ : ByteArray), false)) else ((palinoderef01_Num.f k (a0.size : Int)).bind fun bt234 => (if bt234.1.size + a0.size ≤ 9223372036854775807 then (some (bt234.1 ++ a0, true)) else (none)))) = some (r1, r2) := h
 clear h
 by_cases c2 : (a0.size : Int) > 1048576
 ·
  rw [if_pos c2] at H
  have c2b0 : decide (1048576 < (a0.size : Int)) = true := decide_eq_true c2
  have c2b1 : decide (1048576 < a0.size) = true := decide_eq_true (by omega)
  clear c2
  simp only [Option.some.injEq, Prod.mk.injEq] at H
  obtain ⟨rfl, rfl⟩ := H
  go_enter Try.func21, Try.ntmps21
  go_wp2
  go_ret2
  exact ⟨by first | rfl | (simp [errW_none, errW_some] <;> rfl) | (simp [*, errW_none, errW_some] <;> rfl), Yr HB⟩
 ·
  rw [if_neg c2] at H
  have c2b0 : decide (1048576 < (a0.size : Int)) = false := decide_eq_false c2
  have c2b1 : decide (1048576 < a0.size) = false := decide_eq_false (by omega)
  clear c2
  replace H := Option.bind_eq_some_iff.mp H
  obtain ⟨⟨t234, t235⟩, A30, H⟩ := H
  replace H : (if t234.size + a0.size ≤ 9223372036854775807 then (some (t234 ++ a0, true)) else (none)) = some (r1, r2) := H
  have A3 := Aside0.mk A30
  clear A30
  by_cases c4 : t234.size + a0.size ≤ 9223372036854775807
  ·
   rw [if_pos c4] at H
   have c4b0 := eq_true c4
   have c4b1 : decide (t234.size + a0.size ≤ 9223372036854775807) = true := decide_eq_true c4
   try have c4b2 : (9223372036854775807 < t234.size + a0.size) = False := eq_false (Nat.not_lt.2 c4)
   simp only [Option.some.injEq, Prod.mk.injEq] at H
   obtain ⟨rfl, rfl⟩ := H
   go_enter Try.func21, Try.ntmps21
   go_wp2_with (first | ((with_reducible refine gate_callee (f := 29) rfl ?_); refine goesL_ (some 12) rfl rfl Try.func29 (by kernel_rfl) rfl #[.int .i64 (a0.size : Int)] rfl (by (try simp only [List.map_toArray, List.map_cons, List.map_nil]); first | done | rfl | (simp only [List.length_drop, List.length_take]; rfl)) ?_; (with_reducible refine (palinoderef01_Num.calls k (a0.size : Int) t234 t235 _ A3.out).mono ?_); rintro e w5 ⟨rfl, hb⟩; refine ⟨_, rfl, ?_⟩; have n0_ := Aside0.mk (Yv HB hb); clear HB; have HB := n0_; clear n0_; (try clear hb); (try clear hb2); (try clear hk); (try clear hi)))
   go_ret2
   exact ⟨by first | rfl | (simp [errW_none, errW_some] <;> rfl) | (simp [*, errW_none, errW_some] <;> rfl), Yr HB⟩
  ·
   rw [if_neg c4] at H
   exact absurd H (by simp)

/-! ### palinoderef03_four: function 22 -/
def palinoderef03_four.f (a0 : Int) : Option (ByteArray) := some (strOfNums (([(a0 / 16777216) % 256, (a0 / 65536) % 256, (a0 / 256) % 256, (a0) % 256] : List Int)))
set_option maxHeartbeats 8000000 in
set_option maxRecDepth 100000 in
theorem palinoderef03_four.calls (a0 : Int) (r : ByteArray) (w : World) (h : palinoderef03_four.f a0 = some r) :
  Calls Try.prog 22 #[.int .u32 a0] w fun e w' => e = .returned (.string r) ∧ Below w.heap.size w w' := by
 have HB := Aside0.mk (Below.refl w.heap.size w)
 have H : (some (strOfNums (([(a0 / 16777216) % 256, (a0 / 65536) % 256, (a0 / 256) % 256, (a0) % 256] : List Int)))) = some r := h
 clear h
 obtain ⟨y236, hy236⟩ : ∃ y_ : List Int, y_ = (([(a0 / 16777216) % 256, (a0 / 65536) % 256, (a0 / 256) % 256, (a0) % 256] : List Int)) := ⟨_, rfl⟩
 replace H : (some (strOfNums y236)) = some r := by first | (rw [hy236]; with_reducible exact H) | (have H2_ := (Option.bind_some _ _).symm.trans H; rw [hy236]; with_reducible exact H2_) | (have H2_ := (Option.bind_some _ _).symm.trans H; with_reducible exact H2_) | with_reducible exact H | (rw [hy236]; exact H) | exact H
 have Ny236 := Aside0.mk hy236
 clear hy236
 obtain rfl := Option.some.inj H
 go_enter Try.func22, Try.ntmps22
 go_wp2_with (first | ((with_reducible refine gate_dst (N := 14) rfl ?_); refine Kd.R_lit (Kd.int .u8) _ 5 ?hg (N := 14) ?hd (xs := ([(a0 / 16777216) % 256, (a0 / 65536) % 256, (a0 / 256) % 256, (a0) % 256] : List Int)) (inner := [.int .u8 ((a0 / 16777216) % 256), .int .u8 ((a0 / 65536) % 256), .int .u8 ((a0 / 256) % 256), .int .u8 ((a0) % 256)]) (ok := fun _ => True) (okp := fun _ => True) ?hr ?hp (fun _ hk => hk) trivial (Below.refl _ _) (Nat.le_refl _) (by simp) ?_; (case hd => rfl); (case hg => rfl); (case hr => first | (go_simp; done) | (go_simp; rfl)); (case hp => exact (Reps.one (show Kd.M (Kd.int .u8) _ _ _ ((a0 / 16777216) % 256) [.int .u8 ((a0 / 16777216) % 256)] from rfl) (Reps.one (show Kd.M (Kd.int .u8) _ _ _ ((a0 / 65536) % 256) [.int .u8 ((a0 / 65536) % 256)] from rfl) (Reps.one (show Kd.M (Kd.int .u8) _ _ _ ((a0 / 256) % 256) [.int .u8 ((a0 / 256) % 256)] from rfl) (Reps.one (show Kd.M (Kd.int .u8) _ _ _ ((a0) % 256) [.int .u8 ((a0) % 256)] from rfl) (Reps.none _ _)))))); intro v237 w2 ho3 hb hg_ hnew_; clear hg_ hnew_; (first | rw [← Ny236.out] at ho3 | (simp only [Int.reduceToNat] at ho3; rw [← Ny236.out] at ho3)); have n0_ := Aside0.mk (Kd.R_lower ho3 (below_size (Yr HB))); have n1_ := Aside0.mk (Yv HB hb); clear HB; have HO238 := n0_; have HB := n1_; clear n0_ n1_; clear hb ho3; have hcv4 := own_string (P := Try.prog) Try.underlying36 Try.underlying5 Try.underlying9 (Kd.own_of_R HO238.out)))
 go_ret
 exact ⟨by first | rfl | (simp [errW_none, errW_some] <;> rfl) | (simp [*, errW_none, errW_some] <;> rfl), Yr HB⟩

/-! ### palinoderef03_Put: function 11 -/
def palinoderef03_Put.f (k : Nat) (a0 : ByteArray) : Option (ByteArray × Bool) := (palinoderef01_Text.f k a0).bind fun bt239 => (if bt239.2 = true then ((palinoderef03_Sum.f k a0).bind fun t241 => ((palinoderef03_four.f t241).bind fun t242 => (if bt239.1.size + t242.size ≤ 9223372036854775807 then (some (bt239.1 ++ t242, true)) else (none)))) else (some ((⟨#[]⟩ : ByteArray), false)))
theorem palinoderef03_Put.mono : ∀ a0 k, LeO (palinoderef03_Put.f k a0) (palinoderef03_Put.f (k + 1) a0) := by
 intro a0 k
 unfold palinoderef03_Put.f
 repeat' first
   | (with_reducible exact palinoderef01_Text.mono _ _)
   | (with_reducible exact palinoderef03_Sum.mono _ _)
   | (with_reducible exact LeO.refl _)
   | (with_reducible exact LeO.none _)
   | (with_reducible refine LeO.ite ?_ ?_)
   | (with_reducible refine LeO.bind ?_ (fun _ => ?_))
   | exact palinoderef01_Text.mono _ _
   | exact palinoderef03_Sum.mono _ _
   | exact LeO.none _
   | refine LeO.ite ?_ ?_
   | refine LeO.bind ?_ (fun _ => ?_)
set_option maxHeartbeats 8000000 in
set_option maxRecDepth 100000 in
theorem palinoderef03_Put.calls (k : Nat) (a0 : ByteArray) (r1 : ByteArray) (r2 : Bool) (w : World) (h : palinoderef03_Put.f k a0 = some (r1, r2)) :
  Calls Try.prog 11 #[.string a0] w fun e w' => e = .returned (.tuple #[.string r1, .bool r2]) ∧ Below w.heap.size w w' := by
 have HB := Aside0.mk (Below.refl w.heap.size w)
 have H : ((palinoderef01_Text.f k a0).bind fun bt239 => (if bt239.2 = true then ((palinoderef03_Sum.f k a0).bind fun t241 => ((palinoderef03_four.f t241).bind fun t242 => (if bt239.1.size + t242.size ≤ 9223372036854775807 then (some (bt239.1 ++ t242, true)) else (none)))) else (some ((⟨#[]⟩ : ByteArray), false)))) = some (r1, r2) := h
 clear h
 replace H := Option.bind_eq_some_iff.mp H
 obtain ⟨⟨t239, t240⟩, A20, H⟩ := H
 replace H : (if t240 = true then ((palinoderef03_Sum.f k a0).bind fun t241 => ((palinoderef03_four.f t241).bind fun t242 => (if t239.size + t242.size ≤ 9223372036854775807 then (some (t239 ++ t242, true)) else (none)))) else (some ((⟨#[]⟩ : ByteArray), false))) = some (r1, r2) := H
 have A2 := Aside0.mk A20
 clear A20
 by_cases c3 : t240 = true
 ·
  subst c3
  have H1 : ((palinoderef03_Sum.f k a0).bind fun t241 => ((palinoderef03_four.f t241).bind fun t242 => (if t239.size + t242.size ≤ 9223372036854775807 then (some (t239 ++ t242, true)) else (none)))) = some (r1, r2) := by rw [if_pos rfl] at H; exact H
  clear H
  have H := H1
  clear H1
  replace H := Option.bind_eq_some_iff.mp H
  obtain ⟨t241, A40, H⟩ := H
  replace H : ((palinoderef03_four.f t241).bind fun t242 => (if t239.size + t242.size ≤ 9223372036854775807 then (some (t239 ++ t242, true)) else (none))) = some (r1, r2) := H
  have A4 := Aside0.mk A40
  clear A40
  replace H := Option.bind_eq_some_iff.mp H
  obtain ⟨t242, A50, H⟩ := H
  replace H : (if t239.size + t242.size ≤ 9223372036854775807 then (some (t239 ++ t242, true)) else (none)) = some (r1, r2) := H
  have A5 := Aside0.mk A50
  clear A50
  by_cases c6 : t239.size + t242.size ≤ 9223372036854775807
  ·
   rw [if_pos c6] at H
   have c6b0 := eq_true c6
   have c6b1 : decide (t239.size + t242.size ≤ 9223372036854775807) = true := decide_eq_true c6
   try have c6b2 : (9223372036854775807 < t239.size + t242.size) = False := eq_false (Nat.not_lt.2 c6)
   simp only [Option.some.injEq, Prod.mk.injEq] at H
   obtain ⟨rfl, rfl⟩ := H
   go_enter Try.func11, Try.ntmps11
   go_wp2_with (first | ((with_reducible refine gate_callee (f := 21) rfl ?_); refine goesL_ (some 8) rfl rfl Try.func21 (by kernel_rfl) rfl #[.string a0] rfl (by (try simp only [List.map_toArray, List.map_cons, List.map_nil]); first | done | rfl | (simp only [List.length_drop, List.length_take]; rfl)) ?_; (with_reducible refine (palinoderef01_Text.calls k a0 t239 true _ A2.out).mono ?_); rintro e w7 ⟨rfl, hb⟩; refine ⟨_, rfl, ?_⟩; have n0_ := Aside0.mk (Yv HB hb); clear HB; have HB := n0_; clear n0_; (try clear hb); (try clear hb2); (try clear hk); (try clear hi)) | ((with_reducible refine gate_callee (f := 13) rfl ?_); refine goesL_ (some 15) rfl rfl Try.func13 (by kernel_rfl) rfl #[.string a0] rfl (by (try simp only [List.map_toArray, List.map_cons, List.map_nil]); first | done | rfl | (simp only [List.length_drop, List.length_take]; rfl)) ?_; (with_reducible refine (palinoderef03_Sum.calls k a0 t241 _ A4.out).mono ?_); rintro e w' ⟨rfl, ⟨nd, rfl⟩⟩; refine ⟨_, rfl, ?_⟩) | ((with_reducible refine gate_callee (f := 22) rfl ?_); refine goesL_ (some 16) rfl rfl Try.func22 (by kernel_rfl) rfl #[.int .u32 t241] rfl (by (try simp only [List.map_toArray, List.map_cons, List.map_nil]); first | done | rfl | (simp only [List.length_drop, List.length_take]; rfl)) ?_; (with_reducible refine (palinoderef03_four.calls t241 t242 _ A5.out).mono ?_); rintro e w8 ⟨rfl, hb⟩; refine ⟨_, rfl, ?_⟩; have n0_ := Aside0.mk (Yv HB hb); clear HB; have HB := n0_; clear n0_; (try clear hb); (try clear hb2); (try clear hk); (try clear hi)))
   go_ret2
   exact ⟨by first | rfl | (simp [errW_none, errW_some] <;> rfl) | (simp [*, errW_none, errW_some] <;> rfl), Yr HB⟩
  ·
   rw [if_neg c6] at H
   exact absurd H (by simp)
 ·
  replace c3 := Bool.eq_false_iff.mpr c3
  subst c3
  have H1 : (some ((⟨#[]⟩ : ByteArray), false)) = some (r1, r2) := by rw [if_neg (show ¬ (false = true) by decide)] at H; exact H
  clear H
  have H := H1
  clear H1
  simp only [Option.some.injEq, Prod.mk.injEq] at H
  obtain ⟨rfl, rfl⟩ := H
  go_enter Try.func11, Try.ntmps11
  go_wp2_with (first | ((with_reducible refine gate_callee (f := 21) rfl ?_); refine goesL_ (some 8) rfl rfl Try.func21 (by kernel_rfl) rfl #[.string a0] rfl (by (try simp only [List.map_toArray, List.map_cons, List.map_nil]); first | done | rfl | (simp only [List.length_drop, List.length_take]; rfl)) ?_; (with_reducible refine (palinoderef01_Text.calls k a0 t239 false _ A2.out).mono ?_); rintro e w9 ⟨rfl, hb⟩; refine ⟨_, rfl, ?_⟩; have n0_ := Aside0.mk (Yv HB hb); clear HB; have HB := n0_; clear n0_; (try clear hb); (try clear hb2); (try clear hk); (try clear hi)))
  go_ret2
  exact ⟨by first | rfl | (simp [errW_none, errW_some] <;> rfl) | (simp [*, errW_none, errW_some] <;> rfl), Yr HB⟩

/-! ### palinodelaw03_FramePuts: function 3 -/
def palinodelaw03_FramePuts.f (k : Nat) (a0 : ByteArray) : Option (Bool) := (palinodelaw03_examples.f k).bind fun t243 => ((frame_Put.f k a0).bind fun bt244 => ((palinoderef03_Put.f k a0).bind fun bt246 => (if t243 = true then ((frame_Sum.f a0).bind fun t248 => ((palinoderef03_Sum.f k a0).bind fun t249 => (if t248 = t249 then (if bt244.1.toList = bt246.1.toList then (if bt246.2 = true then (if bt244.2.isNone = true then (some true) else (some false)) else ((palinodelaw03_is.f bt244.2 5).bind fun t251 => (some t251))) else (some false)) else (some false)))) else (some false))))
theorem palinodelaw03_FramePuts.mono : ∀ a0 k, LeO (palinodelaw03_FramePuts.f k a0) (palinodelaw03_FramePuts.f (k + 1) a0) := by
 intro a0 k
 unfold palinodelaw03_FramePuts.f
 repeat' first
   | (with_reducible exact frame_Put.mono _ _)
   | (with_reducible exact palinodelaw03_examples.mono _)
   | (with_reducible exact palinoderef03_Put.mono _ _)
   | (with_reducible exact palinoderef03_Sum.mono _ _)
   | (with_reducible exact LeO.refl _)
   | (with_reducible exact LeO.none _)
   | (with_reducible refine LeO.ite ?_ ?_)
   | (with_reducible refine LeO.bind ?_ (fun _ => ?_))
   | exact frame_Put.mono _ _
   | exact palinodelaw03_examples.mono _
   | exact palinoderef03_Put.mono _ _
   | exact palinoderef03_Sum.mono _ _
   | exact LeO.none _
   | refine LeO.ite ?_ ?_
   | refine LeO.bind ?_ (fun _ => ?_)
set_option maxHeartbeats 8000000 in
set_option maxRecDepth 100000 in
theorem palinodelaw03_FramePuts.calls (k : Nat) (a0 : ByteArray) (r : Bool) (w : World) (h : palinodelaw03_FramePuts.f k a0 = some r) (HEX_ : Aside0 (∀ k_ r_, palinodelaw03_examples.f k_ = some r_ → r_ = true)) (HRT_ : Aside0 (r = true) := by first | exact ⟨rfl⟩ | assumption) :
  Calls Try.prog 3 #[.string a0] w fun e w' => e = .returned (.bool r) ∧ Below w.heap.size w w' := by
 have hu24 := Try.underlying24
 have hu50 := Try.underlying50
 have HB := Aside0.mk (Below.refl w.heap.size w)
 have H : ((palinodelaw03_examples.f k).bind fun t243 => ((frame_Put.f k a0).bind fun bt244 => ((palinoderef03_Put.f k a0).bind fun bt246 => (if t243 = true then ((frame_Sum.f a0).bind fun t248 => ((palinoderef03_Sum.f k a0).bind fun t249 => (if t248 = t249 then (if bt244.1.toList = bt246.1.toList then (if bt246.2 = true then (if bt244.2.isNone = true then (some true) else (some false)) else ((palinodelaw03_is.f bt244.2 5).bind fun t251 => (some t251))) else (some false)) else (some false)))) else (some false))))) = some r := h
 clear h
 replace H := Option.bind_eq_some_iff.mp H
 obtain ⟨t243, A20, H⟩ := H
 replace H : ((frame_Put.f k a0).bind fun bt244 => ((palinoderef03_Put.f k a0).bind fun bt246 => (if t243 = true then ((frame_Sum.f a0).bind fun t248 => ((palinoderef03_Sum.f k a0).bind fun t249 => (if t248 = t249 then (if bt244.1.toList = bt246.1.toList then (if bt246.2 = true then (if bt244.2.isNone = true then (some true) else (some false)) else ((palinodelaw03_is.f bt244.2 5).bind fun t251 => (some t251))) else (some false)) else (some false)))) else (some false)))) = some r := H
 have A2 := Aside0.mk A20
 have HTA2_ : Aside0 (t243 = true) := ⟨HEX_.out _ _ A20⟩
 clear A20
 replace H := Option.bind_eq_some_iff.mp H
 obtain ⟨⟨t244, t245⟩, A30, H⟩ := H
 replace H : ((palinoderef03_Put.f k a0).bind fun bt246 => (if t243 = true then ((frame_Sum.f a0).bind fun t248 => ((palinoderef03_Sum.f k a0).bind fun t249 => (if t248 = t249 then (if t244.toList = bt246.1.toList then (if bt246.2 = true then (if t245.isNone = true then (some true) else (some false)) else ((palinodelaw03_is.f t245 5).bind fun t251 => (some t251))) else (some false)) else (some false)))) else (some false))) = some r := H
 have A3 := Aside0.mk A30
 clear A30
 replace H := Option.bind_eq_some_iff.mp H
 obtain ⟨⟨t246, t247⟩, A40, H⟩ := H
 replace H : (if t243 = true then ((frame_Sum.f a0).bind fun t248 => ((palinoderef03_Sum.f k a0).bind fun t249 => (if t248 = t249 then (if t244.toList = t246.toList then (if t247 = true then (if t245.isNone = true then (some true) else (some false)) else ((palinodelaw03_is.f t245 5).bind fun t251 => (some t251))) else (some false)) else (some false)))) else (some false)) = some r := H
 have A4 := Aside0.mk A40
 clear A40
 by_cases c5 : t243 = true
 ·
  subst c5
  have H1 : ((frame_Sum.f a0).bind fun t248 => ((palinoderef03_Sum.f k a0).bind fun t249 => (if t248 = t249 then (if t244.toList = t246.toList then (if t247 = true then (if t245.isNone = true then (some true) else (some false)) else ((palinodelaw03_is.f t245 5).bind fun t251 => (some t251))) else (some false)) else (some false)))) = some r := by rw [if_pos rfl] at H; exact H
  clear H
  have H := H1
  clear H1
  replace H := Option.bind_eq_some_iff.mp H
  obtain ⟨t248, A60, H⟩ := H
  replace H : ((palinoderef03_Sum.f k a0).bind fun t249 => (if t248 = t249 then (if t244.toList = t246.toList then (if t247 = true then (if t245.isNone = true then (some true) else (some false)) else ((palinodelaw03_is.f t245 5).bind fun t251 => (some t251))) else (some false)) else (some false))) = some r := H
  have A6 := Aside0.mk A60
  clear A60
  replace H := Option.bind_eq_some_iff.mp H
  obtain ⟨t249, A70, H⟩ := H
  replace H : (if t248 = t249 then (if t244.toList = t246.toList then (if t247 = true then (if t245.isNone = true then (some true) else (some false)) else ((palinodelaw03_is.f t245 5).bind fun t251 => (some t251))) else (some false)) else (some false)) = some r := H
  have A7 := Aside0.mk A70
  clear A70
  by_cases c8 : t248 = t249
  ·
   rw [if_pos c8] at H
   have c8b0 : (t248 == t249) = true := beq_iff_eq.mpr c8
   have c8b1 : (t248 != t249) = false := bne_eq_false_iff_eq.mpr c8
   clear c8
   by_cases c9 : t244.toList = t246.toList
   ·
    rw [if_pos c9] at H
    have c9b0 : (t244.toList == t246.toList) = true := beq_iff_eq.mpr c9
    have c9b1 : (t244.toList != t246.toList) = false := bne_eq_false_iff_eq.mpr c9
    clear c9
    by_cases c10 : t247 = true
    ·
     subst c10
     have H1 : (if t245.isNone = true then (some true) else (some false)) = some r := by rw [if_pos rfl] at H; exact H
     clear H
     have H := H1
     clear H1
     rcases t245 with _ | q250
     ·
      have H1 : (some true) = some r := by rw [if_pos (show (none : Option Int).isNone = true by rfl)] at H; exact H
      clear H
      have H := H1
      clear H1
      try simp only [errW_none, errW_some]
      obtain rfl := Option.some.inj H
      go_enter Try.func3, Try.ntmps3
      go_wp2_with (first | ((with_reducible refine gate_callee (f := 9) rfl ?_); refine goesL_ (some 8) rfl rfl Try.func9 (by kernel_rfl) rfl #[] rfl (by (try simp only [List.map_toArray, List.map_cons, List.map_nil]); first | done | rfl | (simp only [List.length_drop, List.length_take]; rfl)) ?_; (with_reducible refine (palinodelaw03_examples.calls k  true _ A2.out).mono ?_); rintro e w11 ⟨rfl, hb⟩; refine ⟨_, rfl, ?_⟩; have n0_ := Aside0.mk (Yv HB hb); clear HB; have HB := n0_; clear n0_; (try clear hb); (try clear hb2); (try clear hk); (try clear hi)) | ((with_reducible refine gate_callee (f := 10) rfl ?_); refine goesL_ (some 11) rfl rfl Try.func10 (by kernel_rfl) rfl #[.string a0] rfl (by (try simp only [List.map_toArray, List.map_cons, List.map_nil]); first | done | rfl | (simp only [List.length_drop, List.length_take]; rfl)) ?_; (with_reducible refine (frame_Put.calls k a0 t244 none _ A3.out).mono ?_); rintro e w12 ⟨rfl, hb⟩; refine ⟨_, rfl, ?_⟩; have n0_ := Aside0.mk (Yv HB hb); clear HB; have HB := n0_; clear n0_; (try clear hb); (try clear hb2); (try clear hk); (try clear hi); (try simp only [errW_none, errW_some])) | ((with_reducible refine gate_callee (f := 11) rfl ?_); refine goesL_ (some 16) rfl rfl Try.func11 (by kernel_rfl) rfl #[.string a0] rfl (by (try simp only [List.map_toArray, List.map_cons, List.map_nil]); first | done | rfl | (simp only [List.length_drop, List.length_take]; rfl)) ?_; (with_reducible refine (palinoderef03_Put.calls k a0 t246 true _ A4.out).mono ?_); rintro e w13 ⟨rfl, hb⟩; refine ⟨_, rfl, ?_⟩; have n0_ := Aside0.mk (Yv HB hb); clear HB; have HB := n0_; clear n0_; (try clear hb); (try clear hb2); (try clear hk); (try clear hi)) | (go_at_call 12; (with_reducible refine (frame_Sum.calls a0 t248 _ A6.out).mono ?_); rintro e w14 ⟨rfl, hb⟩; have n0_ := Aside0.mk (Yv HB hb); clear HB; have HB := n0_; clear n0_; (try clear hb); (try clear hb2); (try clear hk); (try clear hi)) | (go_at_call 13; (with_reducible refine (palinoderef03_Sum.calls k a0 t249 _ A7.out).mono ?_); rintro e w' ⟨rfl, ⟨nd, rfl⟩⟩))
      go_ret
      exact ⟨by first | rfl | (simp [errW_none, errW_some] <;> rfl) | (simp [*, errW_none, errW_some] <;> rfl), Yr HB⟩
     ·
      have H1 : (some false) = some r := by rw [if_neg (show ¬ (some q250).isNone = true by simp)] at H; exact H
      clear H
      have H := H1
      clear H1
      try simp only [errW_none, errW_some]
      exact absurd ((Option.some.inj H).trans HRT_.out) (by decide)
    ·
     replace c10 := Bool.eq_false_iff.mpr c10
     subst c10
     have H1 : ((palinodelaw03_is.f t245 5).bind fun t251 => (some t251)) = some r := by rw [if_neg (show ¬ (false = true) by decide)] at H; exact H
     clear H
     have H := H1
     clear H1
     replace H := Option.bind_eq_some_iff.mp H
     obtain ⟨t251, A150, H⟩ := H
     replace H : (some t251) = some r := H
     have A15 := Aside0.mk A150
     clear A150
     obtain rfl := Option.some.inj H
     go_enter Try.func3, Try.ntmps3
     go_wp2_with (first | ((with_reducible refine gate_callee (f := 9) rfl ?_); refine goesL_ (some 8) rfl rfl Try.func9 (by kernel_rfl) rfl #[] rfl (by (try simp only [List.map_toArray, List.map_cons, List.map_nil]); first | done | rfl | (simp only [List.length_drop, List.length_take]; rfl)) ?_; (with_reducible refine (palinodelaw03_examples.calls k  true _ A2.out).mono ?_); rintro e w16 ⟨rfl, hb⟩; refine ⟨_, rfl, ?_⟩; have n0_ := Aside0.mk (Yv HB hb); clear HB; have HB := n0_; clear n0_; (try clear hb); (try clear hb2); (try clear hk); (try clear hi)) | ((with_reducible refine gate_callee (f := 10) rfl ?_); refine goesL_ (some 11) rfl rfl Try.func10 (by kernel_rfl) rfl #[.string a0] rfl (by (try simp only [List.map_toArray, List.map_cons, List.map_nil]); first | done | rfl | (simp only [List.length_drop, List.length_take]; rfl)) ?_; (with_reducible refine (frame_Put.calls k a0 t244 t245 _ A3.out).mono ?_); rintro e w17 ⟨rfl, hb⟩; refine ⟨_, rfl, ?_⟩; have n0_ := Aside0.mk (Yv HB hb); clear HB; have HB := n0_; clear n0_; (try clear hb); (try clear hb2); (try clear hk); (try clear hi); (try simp only [errW_none, errW_some])) | ((with_reducible refine gate_callee (f := 11) rfl ?_); refine goesL_ (some 16) rfl rfl Try.func11 (by kernel_rfl) rfl #[.string a0] rfl (by (try simp only [List.map_toArray, List.map_cons, List.map_nil]); first | done | rfl | (simp only [List.length_drop, List.length_take]; rfl)) ?_; (with_reducible refine (palinoderef03_Put.calls k a0 t246 false _ A4.out).mono ?_); rintro e w18 ⟨rfl, hb⟩; refine ⟨_, rfl, ?_⟩; have n0_ := Aside0.mk (Yv HB hb); clear HB; have HB := n0_; clear n0_; (try clear hb); (try clear hb2); (try clear hk); (try clear hi)) | (go_at_call 12; (with_reducible refine (frame_Sum.calls a0 t248 _ A6.out).mono ?_); rintro e w19 ⟨rfl, hb⟩; have n0_ := Aside0.mk (Yv HB hb); clear HB; have HB := n0_; clear n0_; (try clear hb); (try clear hb2); (try clear hk); (try clear hi)) | (go_at_call 13; (with_reducible refine (palinoderef03_Sum.calls k a0 t249 _ A7.out).mono ?_); rintro e w' ⟨rfl, ⟨nd, rfl⟩⟩; have CA15 := fun W => palinodelaw03_is.calls t245 5 t251 W A15.out; try simp only [errW_none, errW_some] at CA15) | (go_at_call 14; (with_reducible refine (CA15 _).mono ?_); rintro e w' ⟨rfl, ⟨nd, rfl⟩⟩))
     go_ret
     exact ⟨by first | rfl | (simp [errW_none, errW_some] <;> rfl) | (simp [*, errW_none, errW_some] <;> rfl), Yr HB⟩
   ·
    rw [if_neg c9] at H
    have c9b0 : (t244.toList == t246.toList) = false := beq_eq_false_iff_ne.mpr c9
    have c9b1 : (t244.toList != t246.toList) = true := bne_iff_ne.mpr c9
    exact absurd ((Option.some.inj H).trans HRT_.out) (by decide)
  ·
   rw [if_neg c8] at H
   have c8b0 : (t248 == t249) = false := beq_eq_false_iff_ne.mpr c8
   have c8b1 : (t248 != t249) = true := bne_iff_ne.mpr c8
   exact absurd ((Option.some.inj H).trans HRT_.out) (by decide)
 ·
  replace c5 := Bool.eq_false_iff.mpr c5
  subst c5
  have H1 : (some false) = some r := by rw [if_neg (show ¬ (false = true) by decide)] at H; exact H
  clear H
  have H := H1
  clear H1
  exact absurd ((Option.some.inj H).trans HRT_.out) (by decide)

/-- THE ONE PURE STATEMENT of palinodelaw03_FramePuts. -/
def palinodelaw03_FramePuts.Pure : Prop := (∀ k_ r_, palinodelaw03_examples.f k_ = some r_ → r_ = true) ∧ ∀ (a0 : ByteArray), a0.size ≤ 140737488351232 → ∃ k, palinodelaw03_FramePuts.f k a0 = some true
theorem palinodelaw03_FramePuts.walk (P : palinodelaw03_FramePuts.Pure) (a0 : ByteArray) (w : World) (v0 : a0.size ≤ 140737488351232) :
  Calls Try.prog 3 #[.string a0] w fun e w' => e = .returned (.bool true) ∧ Below w.heap.size w w' := by
 obtain ⟨k, h⟩ := P.2 a0 v0
 refine (palinodelaw03_FramePuts.calls k a0 true w  h ⟨P.1⟩).mono ?_
 rintro e w' ⟨rfl, hd⟩
 exact ⟨rfl, hd⟩

/-! ### palinodelaw03_FrameBack: function 4 -/
def palinodelaw03_FrameBack.f (k : Nat) (a0 : ByteArray) (a1 : ByteArray) (a2 : ByteArray) : Option (Bool) := (palinodelaw03_examples.f k).bind fun t252 => ((frame_Put.f k a0).bind fun bt253 => (if bt253.2.isNone = true then (if bt253.1.size + a1.size ≤ 9223372036854775807 then ((frame_Take.f (bt253.1 ++ a1)).bind fun bt256 => (if bt256.1.toList = a0.toList then (if bt256.2.1.toList = a1.toList then (if bt256.2.2.isNone = true then ((frame_Take.f a2).bind fun bt260 => (if bt260.2.2.isNone = true then ((frame_Put.f k bt260.1).bind fun bt264 => (if t252 = true then (if bt264.2.isNone = true then (if bt264.1.size + bt260.2.1.size ≤ 9223372036854775807 then (some ((bt264.1 ++ bt260.2.1).toList == a2.toList)) else (none)) else (some false)) else (some false))) else (if t252 = true then (if bt260.1.toList = ([] : List UInt8) then (some (bt260.2.1.toList == ([] : List UInt8))) else (some false)) else (some false)))) else (some false)) else (some false)) else (some false))) else (none)) else ((frame_Take.f a2).bind fun bt267 => (if bt267.2.2.isNone = true then ((frame_Put.f k bt267.1).bind fun bt271 => (if t252 = true then (if bt271.2.isNone = true then (if bt271.1.size + bt267.2.1.size ≤ 9223372036854775807 then (some ((bt271.1 ++ bt267.2.1).toList == a2.toList)) else (none)) else (some false)) else (some false))) else (if t252 = true then (if bt267.1.toList = ([] : List UInt8) then (some (bt267.2.1.toList == ([] : List UInt8))) else (some false)) else (some false))))))
theorem palinodelaw03_FrameBack.mono : ∀ a0 a1 a2 k, LeO (palinodelaw03_FrameBack.f k a0 a1 a2) (palinodelaw03_FrameBack.f (k + 1) a0 a1 a2) := by
 intro a0 a1 a2 k
 unfold palinodelaw03_FrameBack.f
 repeat' first
   | (with_reducible exact frame_Put.mono _ _)
   | (with_reducible exact palinodelaw03_examples.mono _)
   | (with_reducible exact LeO.refl _)
   | (with_reducible exact LeO.none _)
   | (with_reducible refine LeO.ite ?_ ?_)
   | (with_reducible refine LeO.bind ?_ (fun _ => ?_))
   | exact frame_Put.mono _ _
   | exact palinodelaw03_examples.mono _
   | exact LeO.none _
   | refine LeO.ite ?_ ?_
   | refine LeO.bind ?_ (fun _ => ?_)
set_option maxHeartbeats 8000000 in
set_option maxRecDepth 100000 in
theorem palinodelaw03_FrameBack.calls (k : Nat) (a0 : ByteArray) (a1 : ByteArray) (a2 : ByteArray) (r : Bool) (w : World) (h : palinodelaw03_FrameBack.f k a0 a1 a2 = some r) (HEX_ : Aside0 (∀ k_ r_, palinodelaw03_examples.f k_ = some r_ → r_ = true)) (HRT_ : Aside0 (r = true) := by first | exact ⟨rfl⟩ | assumption) :
  Calls Try.prog 4 #[.string a0, .string a1, .string a2] w fun e w' => e = .returned (.bool r) ∧ Below w.heap.size w w' := by
 have hu24 := Try.underlying24
 have hu50 := Try.underlying50
 have HB := Aside0.mk (Below.refl w.heap.size w)
 have H : ((palinodelaw03_examples.f k).bind fun t252 => ((frame_Put.f k a0).bind fun bt253 => (if bt253.2.isNone = true then (if bt253.1.size + a1.size ≤ 9223372036854775807 then ((frame_Take.f (bt253.1 ++ a1)).bind fun bt256 => (if bt256.1.toList = a0.toList then (if bt256.2.1.toList = a1.toList then (if bt256.2.2.isNone = true then ((frame_Take.f a2).bind fun bt260 => (if bt260.2.2.isNone = true then ((frame_Put.f k bt260.1).bind fun bt264 => (if t252 = true then (if bt264.2.isNone = true then (if bt264.1.size + bt260.2.1.size ≤ 9223372036854775807 then (some ((bt264.1 ++ bt260.2.1).toList == a2.toList)) else (none)) else (some false)) else (some false))) else (if t252 = true then (if bt260.1.toList = ([] : List UInt8) then (some (bt260.2.1.toList == ([] : List UInt8))) else (some false)) else (some false)))) else (some false)) else (some false)) else (some false))) else (none)) else ((frame_Take.f a2).bind fun bt267 => (if bt267.2.2.isNone = true then ((frame_Put.f k bt267.1).bind fun bt271 => (if t252 = true then (if bt271.2.isNone = true then (if bt271.1.size + bt267.2.1.size ≤ 9223372036854775807 then (some ((bt271.1 ++ bt267.2.1).toList == a2.toList)) else (none)) else (some false)) else (some false))) else (if t252 = true then (if bt267.1.toList = ([] : List UInt8) then (some (bt267.2.1.toList == ([] : List UInt8))) else (some false)) else (some false))))))) = some r := h
 clear h
 replace H := Option.bind_eq_some_iff.mp H
 obtain ⟨t252, A40, H⟩ := H
 replace H : ((frame_Put.f k a0).bind fun bt253 => (if bt253.2.isNone = true then (if bt253.1.size + a1.size ≤ 9223372036854775807 then ((frame_Take.f (bt253.1 ++ a1)).bind fun bt256 => (if bt256.1.toList = a0.toList then (if bt256.2.1.toList = a1.toList then (if bt256.2.2.isNone = true then ((frame_Take.f a2).bind fun bt260 => (if bt260.2.2.isNone = true then ((frame_Put.f k bt260.1).bind fun bt264 => (if t252 = true then (if bt264.2.isNone = true then (if bt264.1.size + bt260.2.1.size ≤ 9223372036854775807 then (some ((bt264.1 ++ bt260.2.1).toList == a2.toList)) else (none)) else (some false)) else (some false))) else (if t252 = true then (if bt260.1.toList = ([] : List UInt8) then (some (bt260.2.1.toList == ([] : List UInt8))) else (some false)) else (some false)))) else (some false)) else (some false)) else (some false))) else (none)) else ((frame_Take.f a2).bind fun bt267 => (if bt267.2.2.isNone = true then ((frame_Put.f k bt267.1).bind fun bt271 => (if t252 = true then (if bt271.2.isNone = true then (if bt271.1.size + bt267.2.1.size ≤ 9223372036854775807 then (some ((bt271.1 ++ bt267.2.1).toList == a2.toList)) else (none)) else (some false)) else (some false))) else (if t252 = true then (if bt267.1.toList = ([] : List UInt8) then (some (bt267.2.1.toList == ([] : List UInt8))) else (some false)) else (some false)))))) = some r := H
 have A4 := Aside0.mk A40
 have HTA4_ : Aside0 (t252 = true) := ⟨HEX_.out _ _ A40⟩
 clear A40
 replace H := Option.bind_eq_some_iff.mp H
 obtain ⟨⟨t253, t254⟩, A50, H⟩ := H
 replace H : (if t254.isNone = true then (if t253.size + a1.size ≤ 9223372036854775807 then ((frame_Take.f (t253 ++ a1)).bind fun bt256 => (if bt256.1.toList = a0.toList then (if bt256.2.1.toList = a1.toList then (if bt256.2.2.isNone = true then ((frame_Take.f a2).bind fun bt260 => (if bt260.2.2.isNone = true then ((frame_Put.f k bt260.1).bind fun bt264 => (if t252 = true then (if bt264.2.isNone = true then (if bt264.1.size + bt260.2.1.size ≤ 9223372036854775807 then (some ((bt264.1 ++ bt260.2.1).toList == a2.toList)) else (none)) else (some false)) else (some false))) else (if t252 = true then (if bt260.1.toList = ([] : List UInt8) then (some (bt260.2.1.toList == ([] : List UInt8))) else (some false)) else (some false)))) else (some false)) else (some false)) else (some false))) else (none)) else ((frame_Take.f a2).bind fun bt267 => (if bt267.2.2.isNone = true then ((frame_Put.f k bt267.1).bind fun bt271 => (if t252 = true then (if bt271.2.isNone = true then (if bt271.1.size + bt267.2.1.size ≤ 9223372036854775807 then (some ((bt271.1 ++ bt267.2.1).toList == a2.toList)) else (none)) else (some false)) else (some false))) else (if t252 = true then (if bt267.1.toList = ([] : List UInt8) then (some (bt267.2.1.toList == ([] : List UInt8))) else (some false)) else (some false))))) = some r := H
 have A5 := Aside0.mk A50
 clear A50
 rcases t254 with _ | q255
 ·
  have H1 : (if t253.size + a1.size ≤ 9223372036854775807 then ((frame_Take.f (t253 ++ a1)).bind fun bt256 => (if bt256.1.toList = a0.toList then (if bt256.2.1.toList = a1.toList then (if bt256.2.2.isNone = true then ((frame_Take.f a2).bind fun bt260 => (if bt260.2.2.isNone = true then ((frame_Put.f k bt260.1).bind fun bt264 => (if t252 = true then (if bt264.2.isNone = true then (if bt264.1.size + bt260.2.1.size ≤ 9223372036854775807 then (some ((bt264.1 ++ bt260.2.1).toList == a2.toList)) else (none)) else (some false)) else (some false))) else (if t252 = true then (if bt260.1.toList = ([] : List UInt8) then (some (bt260.2.1.toList == ([] : List UInt8))) else (some false)) else (some false)))) else (some false)) else (some false)) else (some false))) else (none)) = some r := by rw [if_pos (show (none : Option Int).isNone = true by rfl)] at H; exact H
  clear H
  have H := H1
  clear H1
  try simp only [errW_none, errW_some]
  by_cases c6 : t253.size + a1.size ≤ 9223372036854775807
  ·
   rw [if_pos c6] at H
   have c6b0 := eq_true c6
   have c6b1 : decide (t253.size + a1.size ≤ 9223372036854775807) = true := decide_eq_true c6
   try have c6b2 : (9223372036854775807 < t253.size + a1.size) = False := eq_false (Nat.not_lt.2 c6)
   replace H := Option.bind_eq_some_iff.mp H
   obtain ⟨⟨t256, t257, t258⟩, A70, H⟩ := H
   replace H : (if t256.toList = a0.toList then (if t257.toList = a1.toList then (if t258.isNone = true then ((frame_Take.f a2).bind fun bt260 => (if bt260.2.2.isNone = true then ((frame_Put.f k bt260.1).bind fun bt264 => (if t252 = true then (if bt264.2.isNone = true then (if bt264.1.size + bt260.2.1.size ≤ 9223372036854775807 then (some ((bt264.1 ++ bt260.2.1).toList == a2.toList)) else (none)) else (some false)) else (some false))) else (if t252 = true then (if bt260.1.toList = ([] : List UInt8) then (some (bt260.2.1.toList == ([] : List UInt8))) else (some false)) else (some false)))) else (some false)) else (some false)) else (some false)) = some r := H
   have A7 := Aside0.mk A70
   clear A70
   by_cases c8 : t256.toList = a0.toList
   ·
    rw [if_pos c8] at H
    have c8b0 : (t256.toList == a0.toList) = true := beq_iff_eq.mpr c8
    have c8b1 : (t256.toList != a0.toList) = false := bne_eq_false_iff_eq.mpr c8
    clear c8
    by_cases c9 : t257.toList = a1.toList
    ·
     rw [if_pos c9] at H
     have c9b0 : (t257.toList == a1.toList) = true := beq_iff_eq.mpr c9
     have c9b1 : (t257.toList != a1.toList) = false := bne_eq_false_iff_eq.mpr c9
     clear c9
     rcases t258 with _ | q259
     ·
      have H1 : ((frame_Take.f a2).bind fun bt260 => (if bt260.2.2.isNone = true then ((frame_Put.f k bt260.1).bind fun bt264 => (if t252 = true then (if bt264.2.isNone = true then (if bt264.1.size + bt260.2.1.size ≤ 9223372036854775807 then (some ((bt264.1 ++ bt260.2.1).toList == a2.toList)) else (none)) else (some false)) else (some false))) else (if t252 = true then (if bt260.1.toList = ([] : List UInt8) then (some (bt260.2.1.toList == ([] : List UInt8))) else (some false)) else (some false)))) = some r := by rw [if_pos (show (none : Option Int).isNone = true by rfl)] at H; exact H
      clear H
      have H := H1
      clear H1
      try simp only [errW_none, errW_some]
      replace H := Option.bind_eq_some_iff.mp H
      obtain ⟨⟨t260, t261, t262⟩, A100, H⟩ := H
      replace H : (if t262.isNone = true then ((frame_Put.f k t260).bind fun bt264 => (if t252 = true then (if bt264.2.isNone = true then (if bt264.1.size + t261.size ≤ 9223372036854775807 then (some ((bt264.1 ++ t261).toList == a2.toList)) else (none)) else (some false)) else (some false))) else (if t252 = true then (if t260.toList = ([] : List UInt8) then (some (t261.toList == ([] : List UInt8))) else (some false)) else (some false))) = some r := H
      have A10 := Aside0.mk A100
      clear A100
      rcases t262 with _ | q263
      ·
       have H1 : ((frame_Put.f k t260).bind fun bt264 => (if t252 = true then (if bt264.2.isNone = true then (if bt264.1.size + t261.size ≤ 9223372036854775807 then (some ((bt264.1 ++ t261).toList == a2.toList)) else (none)) else (some false)) else (some false))) = some r := by rw [if_pos (show (none : Option Int).isNone = true by rfl)] at H; exact H
       clear H
       have H := H1
       clear H1
       try simp only [errW_none, errW_some]
       replace H := Option.bind_eq_some_iff.mp H
       obtain ⟨⟨t264, t265⟩, A110, H⟩ := H
       replace H : (if t252 = true then (if t265.isNone = true then (if t264.size + t261.size ≤ 9223372036854775807 then (some ((t264 ++ t261).toList == a2.toList)) else (none)) else (some false)) else (some false)) = some r := H
       have A11 := Aside0.mk A110
       clear A110
       by_cases c12 : t252 = true
       ·
        subst c12
        have H1 : (if t265.isNone = true then (if t264.size + t261.size ≤ 9223372036854775807 then (some ((t264 ++ t261).toList == a2.toList)) else (none)) else (some false)) = some r := by rw [if_pos rfl] at H; exact H
        clear H
        have H := H1
        clear H1
        rcases t265 with _ | q266
        ·
         have H1 : (if t264.size + t261.size ≤ 9223372036854775807 then (some ((t264 ++ t261).toList == a2.toList)) else (none)) = some r := by rw [if_pos (show (none : Option Int).isNone = true by rfl)] at H; exact H
         clear H
         have H := H1
         clear H1
         try simp only [errW_none, errW_some]
         by_cases c13 : t264.size + t261.size ≤ 9223372036854775807
         ·
          rw [if_pos c13] at H
          have c13b0 := eq_true c13
          have c13b1 : decide (t264.size + t261.size ≤ 9223372036854775807) = true := decide_eq_true c13
          try have c13b2 : (9223372036854775807 < t264.size + t261.size) = False := eq_false (Nat.not_lt.2 c13)
          obtain rfl := Option.some.inj H
          go_enter Try.func4, Try.ntmps4
          go_wp2_with (first | ((with_reducible refine gate_callee (f := 9) rfl ?_); refine goesL_ (some 18) rfl rfl Try.func9 (by kernel_rfl) rfl #[] rfl (by (try simp only [List.map_toArray, List.map_cons, List.map_nil]); first | done | rfl | (simp only [List.length_drop, List.length_take]; rfl)) ?_; (with_reducible refine (palinodelaw03_examples.calls k  true _ A4.out).mono ?_); rintro e w14 ⟨rfl, hb⟩; refine ⟨_, rfl, ?_⟩; have n0_ := Aside0.mk (Yv HB hb); clear HB; have HB := n0_; clear n0_; (try clear hb); (try clear hb2); (try clear hk); (try clear hi)) | ((with_reducible refine gate_callee (f := 10) rfl ?_); refine goesL_ (some 21) rfl rfl Try.func10 (by kernel_rfl) rfl #[.string a0] rfl (by (try simp only [List.map_toArray, List.map_cons, List.map_nil]); first | done | rfl | (simp only [List.length_drop, List.length_take]; rfl)) ?_; (with_reducible refine (frame_Put.calls k a0 t253 none _ A5.out).mono ?_); rintro e w15 ⟨rfl, hb⟩; refine ⟨_, rfl, ?_⟩; have n0_ := Aside0.mk (Yv HB hb); clear HB; have HB := n0_; clear n0_; (try clear hb); (try clear hb2); (try clear hk); (try clear hi); (try simp only [errW_none, errW_some])) | ((with_reducible refine gate_callee (f := 15) rfl ?_); refine goesL_ (some 30) rfl rfl Try.func15 (by kernel_rfl) rfl #[.string (t253 ++ a1)] rfl (by (try simp only [List.map_toArray, List.map_cons, List.map_nil]); first | done | rfl | (simp only [List.length_drop, List.length_take]; rfl)) ?_; (with_reducible refine (frame_Take.calls (t253 ++ a1) t256 t257 none _ A7.out).mono ?_); rintro e w16 ⟨rfl, hb⟩; refine ⟨_, rfl, ?_⟩; have n0_ := Aside0.mk (Yv HB hb); clear HB; have HB := n0_; clear n0_; (try clear hb); (try clear hb2); (try clear hk); (try clear hi); (try simp only [errW_none, errW_some])) | ((with_reducible refine gate_callee (f := 15) rfl ?_); refine goesL_ (some 48) rfl rfl Try.func15 (by kernel_rfl) rfl #[.string a2] rfl (by (try simp only [List.map_toArray, List.map_cons, List.map_nil]); first | done | rfl | (simp only [List.length_drop, List.length_take]; rfl)) ?_; (with_reducible refine (frame_Take.calls a2 t260 t261 none _ A10.out).mono ?_); rintro e w17 ⟨rfl, hb⟩; refine ⟨_, rfl, ?_⟩; have n0_ := Aside0.mk (Yv HB hb); clear HB; have HB := n0_; clear n0_; (try clear hb); (try clear hb2); (try clear hk); (try clear hi); (try simp only [errW_none, errW_some])) | ((with_reducible refine gate_callee (f := 10) rfl ?_); refine goesL_ (some 65) rfl rfl Try.func10 (by kernel_rfl) rfl #[.string t260] rfl (by (try simp only [List.map_toArray, List.map_cons, List.map_nil]); first | done | rfl | (simp only [List.length_drop, List.length_take]; rfl)) ?_; (with_reducible refine (frame_Put.calls k t260 t264 none _ A11.out).mono ?_); rintro e w18 ⟨rfl, hb⟩; refine ⟨_, rfl, ?_⟩; have n0_ := Aside0.mk (Yv HB hb); clear HB; have HB := n0_; clear n0_; (try clear hb); (try clear hb2); (try clear hk); (try clear hi); (try simp only [errW_none, errW_some])))
          go_ret
          exact ⟨by first | rfl | (simp [errW_none, errW_some] <;> rfl) | (simp [*, errW_none, errW_some] <;> rfl), Yr HB⟩
         ·
          rw [if_neg c13] at H
          exact absurd H (by simp)
        ·
         have H1 : (some false) = some r := by rw [if_neg (show ¬ (some q266).isNone = true by simp)] at H; exact H
         clear H
         have H := H1
         clear H1
         try simp only [errW_none, errW_some]
         exact absurd ((Option.some.inj H).trans HRT_.out) (by decide)
       ·
        replace c12 := Bool.eq_false_iff.mpr c12
        subst c12
        have H1 : (some false) = some r := by rw [if_neg (show ¬ (false = true) by decide)] at H; exact H
        clear H
        have H := H1
        clear H1
        exact absurd ((Option.some.inj H).trans HRT_.out) (by decide)
      ·
       have H1 : (if t252 = true then (if t260.toList = ([] : List UInt8) then (some (t261.toList == ([] : List UInt8))) else (some false)) else (some false)) = some r := by rw [if_neg (show ¬ (some q263).isNone = true by simp)] at H; exact H
       clear H
       have H := H1
       clear H1
       try simp only [errW_none, errW_some]
       by_cases c19 : t252 = true
       ·
        subst c19
        have H1 : (if t260.toList = ([] : List UInt8) then (some (t261.toList == ([] : List UInt8))) else (some false)) = some r := by rw [if_pos rfl] at H; exact H
        clear H
        have H := H1
        clear H1
        by_cases c20 : t260.toList = ([] : List UInt8)
        ·
         rw [if_pos c20] at H
         have c20b0 : (t260.toList == ([] : List UInt8)) = true := beq_iff_eq.mpr c20
         have c20b1 : (t260.toList != ([] : List UInt8)) = false := bne_eq_false_iff_eq.mpr c20
         clear c20
         obtain rfl := Option.some.inj H
         go_enter Try.func4, Try.ntmps4
         go_wp2_with (first | ((with_reducible refine gate_callee (f := 9) rfl ?_); refine goesL_ (some 18) rfl rfl Try.func9 (by kernel_rfl) rfl #[] rfl (by (try simp only [List.map_toArray, List.map_cons, List.map_nil]); first | done | rfl | (simp only [List.length_drop, List.length_take]; rfl)) ?_; (with_reducible refine (palinodelaw03_examples.calls k  true _ A4.out).mono ?_); rintro e w21 ⟨rfl, hb⟩; refine ⟨_, rfl, ?_⟩; have n0_ := Aside0.mk (Yv HB hb); clear HB; have HB := n0_; clear n0_; (try clear hb); (try clear hb2); (try clear hk); (try clear hi)) | ((with_reducible refine gate_callee (f := 10) rfl ?_); refine goesL_ (some 21) rfl rfl Try.func10 (by kernel_rfl) rfl #[.string a0] rfl (by (try simp only [List.map_toArray, List.map_cons, List.map_nil]); first | done | rfl | (simp only [List.length_drop, List.length_take]; rfl)) ?_; (with_reducible refine (frame_Put.calls k a0 t253 none _ A5.out).mono ?_); rintro e w22 ⟨rfl, hb⟩; refine ⟨_, rfl, ?_⟩; have n0_ := Aside0.mk (Yv HB hb); clear HB; have HB := n0_; clear n0_; (try clear hb); (try clear hb2); (try clear hk); (try clear hi); (try simp only [errW_none, errW_some])) | ((with_reducible refine gate_callee (f := 15) rfl ?_); refine goesL_ (some 30) rfl rfl Try.func15 (by kernel_rfl) rfl #[.string (t253 ++ a1)] rfl (by (try simp only [List.map_toArray, List.map_cons, List.map_nil]); first | done | rfl | (simp only [List.length_drop, List.length_take]; rfl)) ?_; (with_reducible refine (frame_Take.calls (t253 ++ a1) t256 t257 none _ A7.out).mono ?_); rintro e w23 ⟨rfl, hb⟩; refine ⟨_, rfl, ?_⟩; have n0_ := Aside0.mk (Yv HB hb); clear HB; have HB := n0_; clear n0_; (try clear hb); (try clear hb2); (try clear hk); (try clear hi); (try simp only [errW_none, errW_some])) | ((with_reducible refine gate_callee (f := 15) rfl ?_); refine goesL_ (some 48) rfl rfl Try.func15 (by kernel_rfl) rfl #[.string a2] rfl (by (try simp only [List.map_toArray, List.map_cons, List.map_nil]); first | done | rfl | (simp only [List.length_drop, List.length_take]; rfl)) ?_; (with_reducible refine (frame_Take.calls a2 t260 t261 (some q263) _ A10.out).mono ?_); rintro e w24 ⟨rfl, hb⟩; refine ⟨_, rfl, ?_⟩; have n0_ := Aside0.mk (Yv HB hb); clear HB; have HB := n0_; clear n0_; (try clear hb); (try clear hb2); (try clear hk); (try clear hi); (try simp only [errW_none, errW_some])))
         go_ret
         first | (refine absurd c20b0 ?_; simp [*]; done) | exact ⟨by first | rfl | (simp [errW_none, errW_some] <;> rfl) | (simp [*, errW_none, errW_some] <;> rfl), Yr HB⟩
        ·
         rw [if_neg c20] at H
         have c20b0 : (t260.toList == ([] : List UInt8)) = false := beq_eq_false_iff_ne.mpr c20
         have c20b1 : (t260.toList != ([] : List UInt8)) = true := bne_iff_ne.mpr c20
         exact absurd ((Option.some.inj H).trans HRT_.out) (by decide)
       ·
        replace c19 := Bool.eq_false_iff.mpr c19
        subst c19
        have H1 : (some false) = some r := by rw [if_neg (show ¬ (false = true) by decide)] at H; exact H
        clear H
        have H := H1
        clear H1
        exact absurd ((Option.some.inj H).trans HRT_.out) (by decide)
     ·
      have H1 : (some false) = some r := by rw [if_neg (show ¬ (some q259).isNone = true by simp)] at H; exact H
      clear H
      have H := H1
      clear H1
      try simp only [errW_none, errW_some]
      exact absurd ((Option.some.inj H).trans HRT_.out) (by decide)
    ·
     rw [if_neg c9] at H
     have c9b0 : (t257.toList == a1.toList) = false := beq_eq_false_iff_ne.mpr c9
     have c9b1 : (t257.toList != a1.toList) = true := bne_iff_ne.mpr c9
     exact absurd ((Option.some.inj H).trans HRT_.out) (by decide)
   ·
    rw [if_neg c8] at H
    have c8b0 : (t256.toList == a0.toList) = false := beq_eq_false_iff_ne.mpr c8
    have c8b1 : (t256.toList != a0.toList) = true := bne_iff_ne.mpr c8
    exact absurd ((Option.some.inj H).trans HRT_.out) (by decide)
  ·
   rw [if_neg c6] at H
   exact absurd H (by simp)
 ·
  have H1 : ((frame_Take.f a2).bind fun bt267 => (if bt267.2.2.isNone = true then ((frame_Put.f k bt267.1).bind fun bt271 => (if t252 = true then (if bt271.2.isNone = true then (if bt271.1.size + bt267.2.1.size ≤ 9223372036854775807 then (some ((bt271.1 ++ bt267.2.1).toList == a2.toList)) else (none)) else (some false)) else (some false))) else (if t252 = true then (if bt267.1.toList = ([] : List UInt8) then (some (bt267.2.1.toList == ([] : List UInt8))) else (some false)) else (some false)))) = some r := by rw [if_neg (show ¬ (some q255).isNone = true by simp)] at H; exact H
  clear H
  have H := H1
  clear H1
  try simp only [errW_none, errW_some]
  replace H := Option.bind_eq_some_iff.mp H
  obtain ⟨⟨t267, t268, t269⟩, A250, H⟩ := H
  replace H : (if t269.isNone = true then ((frame_Put.f k t267).bind fun bt271 => (if t252 = true then (if bt271.2.isNone = true then (if bt271.1.size + t268.size ≤ 9223372036854775807 then (some ((bt271.1 ++ t268).toList == a2.toList)) else (none)) else (some false)) else (some false))) else (if t252 = true then (if t267.toList = ([] : List UInt8) then (some (t268.toList == ([] : List UInt8))) else (some false)) else (some false))) = some r := H
  have A25 := Aside0.mk A250
  clear A250
  rcases t269 with _ | q270
  ·
   have H1 : ((frame_Put.f k t267).bind fun bt271 => (if t252 = true then (if bt271.2.isNone = true then (if bt271.1.size + t268.size ≤ 9223372036854775807 then (some ((bt271.1 ++ t268).toList == a2.toList)) else (none)) else (some false)) else (some false))) = some r := by rw [if_pos (show (none : Option Int).isNone = true by rfl)] at H; exact H
   clear H
   have H := H1
   clear H1
   try simp only [errW_none, errW_some]
   replace H := Option.bind_eq_some_iff.mp H
   obtain ⟨⟨t271, t272⟩, A260, H⟩ := H
   replace H : (if t252 = true then (if t272.isNone = true then (if t271.size + t268.size ≤ 9223372036854775807 then (some ((t271 ++ t268).toList == a2.toList)) else (none)) else (some false)) else (some false)) = some r := H
   have A26 := Aside0.mk A260
   clear A260
   by_cases c27 : t252 = true
   ·
    subst c27
    have H1 : (if t272.isNone = true then (if t271.size + t268.size ≤ 9223372036854775807 then (some ((t271 ++ t268).toList == a2.toList)) else (none)) else (some false)) = some r := by rw [if_pos rfl] at H; exact H
    clear H
    have H := H1
    clear H1
    rcases t272 with _ | q273
    ·
     have H1 : (if t271.size + t268.size ≤ 9223372036854775807 then (some ((t271 ++ t268).toList == a2.toList)) else (none)) = some r := by rw [if_pos (show (none : Option Int).isNone = true by rfl)] at H; exact H
     clear H
     have H := H1
     clear H1
     try simp only [errW_none, errW_some]
     by_cases c28 : t271.size + t268.size ≤ 9223372036854775807
     ·
      rw [if_pos c28] at H
      have c28b0 := eq_true c28
      have c28b1 : decide (t271.size + t268.size ≤ 9223372036854775807) = true := decide_eq_true c28
      try have c28b2 : (9223372036854775807 < t271.size + t268.size) = False := eq_false (Nat.not_lt.2 c28)
      obtain rfl := Option.some.inj H
      go_enter Try.func4, Try.ntmps4
      go_wp2_with (first | ((with_reducible refine gate_callee (f := 9) rfl ?_); refine goesL_ (some 18) rfl rfl Try.func9 (by kernel_rfl) rfl #[] rfl (by (try simp only [List.map_toArray, List.map_cons, List.map_nil]); first | done | rfl | (simp only [List.length_drop, List.length_take]; rfl)) ?_; (with_reducible refine (palinodelaw03_examples.calls k  true _ A4.out).mono ?_); rintro e w29 ⟨rfl, hb⟩; refine ⟨_, rfl, ?_⟩; have n0_ := Aside0.mk (Yv HB hb); clear HB; have HB := n0_; clear n0_; (try clear hb); (try clear hb2); (try clear hk); (try clear hi)) | ((with_reducible refine gate_callee (f := 10) rfl ?_); refine goesL_ (some 21) rfl rfl Try.func10 (by kernel_rfl) rfl #[.string a0] rfl (by (try simp only [List.map_toArray, List.map_cons, List.map_nil]); first | done | rfl | (simp only [List.length_drop, List.length_take]; rfl)) ?_; (with_reducible refine (frame_Put.calls k a0 t253 (some q255) _ A5.out).mono ?_); rintro e w30 ⟨rfl, hb⟩; refine ⟨_, rfl, ?_⟩; have n0_ := Aside0.mk (Yv HB hb); clear HB; have HB := n0_; clear n0_; (try clear hb); (try clear hb2); (try clear hk); (try clear hi); (try simp only [errW_none, errW_some])) | ((with_reducible refine gate_callee (f := 15) rfl ?_); refine goesL_ (some 48) rfl rfl Try.func15 (by kernel_rfl) rfl #[.string a2] rfl (by (try simp only [List.map_toArray, List.map_cons, List.map_nil]); first | done | rfl | (simp only [List.length_drop, List.length_take]; rfl)) ?_; (with_reducible refine (frame_Take.calls a2 t267 t268 none _ A25.out).mono ?_); rintro e w31 ⟨rfl, hb⟩; refine ⟨_, rfl, ?_⟩; have n0_ := Aside0.mk (Yv HB hb); clear HB; have HB := n0_; clear n0_; (try clear hb); (try clear hb2); (try clear hk); (try clear hi); (try simp only [errW_none, errW_some])) | ((with_reducible refine gate_callee (f := 10) rfl ?_); refine goesL_ (some 65) rfl rfl Try.func10 (by kernel_rfl) rfl #[.string t267] rfl (by (try simp only [List.map_toArray, List.map_cons, List.map_nil]); first | done | rfl | (simp only [List.length_drop, List.length_take]; rfl)) ?_; (with_reducible refine (frame_Put.calls k t267 t271 none _ A26.out).mono ?_); rintro e w32 ⟨rfl, hb⟩; refine ⟨_, rfl, ?_⟩; have n0_ := Aside0.mk (Yv HB hb); clear HB; have HB := n0_; clear n0_; (try clear hb); (try clear hb2); (try clear hk); (try clear hi); (try simp only [errW_none, errW_some])))
      go_ret
      exact ⟨by first | rfl | (simp [errW_none, errW_some] <;> rfl) | (simp [*, errW_none, errW_some] <;> rfl), Yr HB⟩
     ·
      rw [if_neg c28] at H
      exact absurd H (by simp)
    ·
     have H1 : (some false) = some r := by rw [if_neg (show ¬ (some q273).isNone = true by simp)] at H; exact H
     clear H
     have H := H1
     clear H1
     try simp only [errW_none, errW_some]
     exact absurd ((Option.some.inj H).trans HRT_.out) (by decide)
   ·
    replace c27 := Bool.eq_false_iff.mpr c27
    subst c27
    have H1 : (some false) = some r := by rw [if_neg (show ¬ (false = true) by decide)] at H; exact H
    clear H
    have H := H1
    clear H1
    exact absurd ((Option.some.inj H).trans HRT_.out) (by decide)
  ·
   have H1 : (if t252 = true then (if t267.toList = ([] : List UInt8) then (some (t268.toList == ([] : List UInt8))) else (some false)) else (some false)) = some r := by rw [if_neg (show ¬ (some q270).isNone = true by simp)] at H; exact H
   clear H
   have H := H1
   clear H1
   try simp only [errW_none, errW_some]
   by_cases c33 : t252 = true
   ·
    subst c33
    have H1 : (if t267.toList = ([] : List UInt8) then (some (t268.toList == ([] : List UInt8))) else (some false)) = some r := by rw [if_pos rfl] at H; exact H
    clear H
    have H := H1
    clear H1
    by_cases c34 : t267.toList = ([] : List UInt8)
    ·
     rw [if_pos c34] at H
     have c34b0 : (t267.toList == ([] : List UInt8)) = true := beq_iff_eq.mpr c34
     have c34b1 : (t267.toList != ([] : List UInt8)) = false := bne_eq_false_iff_eq.mpr c34
     clear c34
     obtain rfl := Option.some.inj H
     go_enter Try.func4, Try.ntmps4
     go_wp2_with (first | ((with_reducible refine gate_callee (f := 9) rfl ?_); refine goesL_ (some 18) rfl rfl Try.func9 (by kernel_rfl) rfl #[] rfl (by (try simp only [List.map_toArray, List.map_cons, List.map_nil]); first | done | rfl | (simp only [List.length_drop, List.length_take]; rfl)) ?_; (with_reducible refine (palinodelaw03_examples.calls k  true _ A4.out).mono ?_); rintro e w35 ⟨rfl, hb⟩; refine ⟨_, rfl, ?_⟩; have n0_ := Aside0.mk (Yv HB hb); clear HB; have HB := n0_; clear n0_; (try clear hb); (try clear hb2); (try clear hk); (try clear hi)) | ((with_reducible refine gate_callee (f := 10) rfl ?_); refine goesL_ (some 21) rfl rfl Try.func10 (by kernel_rfl) rfl #[.string a0] rfl (by (try simp only [List.map_toArray, List.map_cons, List.map_nil]); first | done | rfl | (simp only [List.length_drop, List.length_take]; rfl)) ?_; (with_reducible refine (frame_Put.calls k a0 t253 (some q255) _ A5.out).mono ?_); rintro e w36 ⟨rfl, hb⟩; refine ⟨_, rfl, ?_⟩; have n0_ := Aside0.mk (Yv HB hb); clear HB; have HB := n0_; clear n0_; (try clear hb); (try clear hb2); (try clear hk); (try clear hi); (try simp only [errW_none, errW_some])) | ((with_reducible refine gate_callee (f := 15) rfl ?_); refine goesL_ (some 48) rfl rfl Try.func15 (by kernel_rfl) rfl #[.string a2] rfl (by (try simp only [List.map_toArray, List.map_cons, List.map_nil]); first | done | rfl | (simp only [List.length_drop, List.length_take]; rfl)) ?_; (with_reducible refine (frame_Take.calls a2 t267 t268 (some q270) _ A25.out).mono ?_); rintro e w37 ⟨rfl, hb⟩; refine ⟨_, rfl, ?_⟩; have n0_ := Aside0.mk (Yv HB hb); clear HB; have HB := n0_; clear n0_; (try clear hb); (try clear hb2); (try clear hk); (try clear hi); (try simp only [errW_none, errW_some])))
     go_ret
     first | (refine absurd c34b0 ?_; simp [*]; done) | exact ⟨by first | rfl | (simp [errW_none, errW_some] <;> rfl) | (simp [*, errW_none, errW_some] <;> rfl), Yr HB⟩
    ·
     rw [if_neg c34] at H
     have c34b0 : (t267.toList == ([] : List UInt8)) = false := beq_eq_false_iff_ne.mpr c34
     have c34b1 : (t267.toList != ([] : List UInt8)) = true := bne_iff_ne.mpr c34
     exact absurd ((Option.some.inj H).trans HRT_.out) (by decide)
   ·
    replace c33 := Bool.eq_false_iff.mpr c33
    subst c33
    have H1 : (some false) = some r := by rw [if_neg (show ¬ (false = true) by decide)] at H; exact H
    clear H
    have H := H1
    clear H1
    exact absurd ((Option.some.inj H).trans HRT_.out) (by decide)

/-- THE ONE PURE STATEMENT of palinodelaw03_FrameBack. -/
def palinodelaw03_FrameBack.Pure : Prop := (∀ k_ r_, palinodelaw03_examples.f k_ = some r_ → r_ = true) ∧ ∀ (a0 : ByteArray) (a1 : ByteArray) (a2 : ByteArray), a0.size ≤ 140737488351232 → a1.size ≤ 140737488351232 → a2.size ≤ 140737488351232 → ∃ k, palinodelaw03_FrameBack.f k a0 a1 a2 = some true
theorem palinodelaw03_FrameBack.walk (P : palinodelaw03_FrameBack.Pure) (a0 : ByteArray) (a1 : ByteArray) (a2 : ByteArray) (w : World) (v0 : a0.size ≤ 140737488351232) (v1 : a1.size ≤ 140737488351232) (v2 : a2.size ≤ 140737488351232) :
  Calls Try.prog 4 #[.string a0, .string a1, .string a2] w fun e w' => e = .returned (.bool true) ∧ Below w.heap.size w w' := by
 obtain ⟨k, h⟩ := P.2 a0 a1 a2 v0 v1 v2
 refine (palinodelaw03_FrameBack.calls k a0 a1 a2 true w  h ⟨P.1⟩).mono ?_
 rintro e w' ⟨rfl, hd⟩
 exact ⟨rfl, hd⟩

end Go.Proofs.Ytmmhdoaepdlmcaa.Print
