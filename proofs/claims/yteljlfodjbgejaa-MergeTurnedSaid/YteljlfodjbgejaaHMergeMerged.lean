/- Contracts proved by hand: see the theorems' own lines. -/
import Derived.BigQuiet
import Derived.Deep.LoopGhost
import Derived.Lib.QuietBelowIn
import Derived.LoopIn
import Derived.LoopNIn
import Derived.OwnWalkIn
import Derived.RangeFuncBound
import Derived.RangeFuncCalls
import Derived.RangeFuncLeaves
import Derived.RangeFuncNested
import Derived.RangeFuncRecord
import Derived.Scope
import Derived.Shelf.Abstract
import Derived.Shelf.RegionOpen
import Derived.Sort.BigQuietIn
import Derived.Sort.CutIn
import Derived.Sort.LoopGhostIn
import Derived.TacticsInMore
import Derived.Test.YteljlfodjbgejaaHMergeIndex
import Derived.Test.YteljlfodjbgejaaHMergeRange
import Derived.Test.YteljlfodjbgejaaPrint0
import Derived.Test.YteljlfodjbgejaaPrint3
import Derived.WalkKit
import Derived.WalkMore
namespace Go.Proofs.Yteljlfodjbgejaa.Print
open Go.Sort Go.RowKit Go.Shelf Go.Proofs.YteljlfodjbgejaaW.PrintWords Go.Proofs.YteljlfodjbgejaaW.PrintLast Go.Proofs.YteljlfodjbgejaaX
set_option linter.unusedVariables false
set_option linter.unusedSimpArgs false
attribute [local go_sem] Oper.semAt_some

/-- Is an entry ahead of another one? -/
def bfE (x y : S34) : Bool := (mem_Before.f x.f0 x.f1 x.f2 x.f3 y.f0 y.f1 y.f2 y.f3).getD false
theorem bfE_eq (x y : S34) : mem_Before.f x.f0 x.f1 x.f2 x.f3 y.f0 y.f1 y.f2 y.f3 = some (bfE x y) := by
  unfold bfE mem_Before.f strings_Compare.f
  rw [Option.bind_some]
  split
  · rfl
  · split <;> rfl
/-- The entry at which a list's reader stands. -/
def hdE (ls : List (List S34)) (ks : List Nat) (i : Nat) : S34 := rd_T34 (rd_L4 ls (i : Int)) ((ks.getD i 0 : Nat) : Int)
/-- Which list's entry comes next (-1: none is left), from list i on; m lists are still to be looked at. -/
def bestF (ls : List (List S34)) (ks : List Nat) : Nat → Nat → Int → Int
  | 0, _, b => b
  | m + 1, i, b => bestF ls ks m (i + 1) (if ks.getD i 0 = (rd_L4 ls (i : Int)).length then b else if b < 0 then (i : Int) else if bfE (hdE ls ks i) (hdE ls ks b.toNat) = true then (i : Int) else b)
/-- All lists' entries, one by one. -/
def mergedF (ls : List (List S34)) : Nat → List Nat → List S34
  | 0, _ => []
  | m + 1, ks => if bestF ls ks ls.length 0 (-1) < 0 then [] else hdE ls ks (bestF ls ks ls.length 0 (-1)).toNat :: mergedF ls m (ks.set (bestF ls ks ls.length 0 (-1)).toNat (ks.getD (bestF ls ks ls.length 0 (-1)).toNat 0 + 1))
def restF : List (List S34) → List Nat → Nat
  | l :: ls, k :: ks => (l.length - k) + restF ls ks
  | _, _ => 0
theorem rest_set : ∀ (ls : List (List S34)) (ks : List Nat) (i : Nat), i < ks.length → ks.length = ls.length → ks.getD i 0 < (rd_L4 ls (i : Int)).length → restF ls (ks.set i (ks.getD i 0 + 1)) + 1 = restF ls ks := by
  intro ls
  induction ls with
  | nil => intro ks i h1 h2; rw [h2] at h1; simp at h1
  | cons l ls ih =>
    intro ks i h1 h2 h3
    cases ks with
    | nil => simp at h1
    | cons k ks =>
      cases i with
      | zero =>
        have h3 : k < l.length := h3
        show (l.length - (k + 1)) + restF ls ks + 1 = (l.length - k) + restF ls ks
        omega
      | succ i =>
        have e : rd_L4 (l :: ls) ((i + 1 : Nat) : Int) = rd_L4 ls (i : Int) := by unfold rd_L4; rw [Int.toNat_natCast, Int.toNat_natCast]; rfl
        rw [e] at h3
        have := ih ks i (by simpa using h1) (by simpa using h2) h3
        show (l.length - k) + restF ls (ks.set i (ks.getD i 0 + 1)) + 1 = (l.length - k) + restF ls ks
        omega
/-- The readers' places, in their block. -/
def KRow (W : World) (ba : Nat) (ks : List Nat) : Prop := W.heap[ba]? = some (.cells (ks.map (fun k : Nat => Value.int .i64 (k : Int))).toArray 3 (0, 0))
theorem KRow.cell {W : World} {ba : Nat} {ks : List Nat} (h : KRow W ba ks) (i : Nat) (hi : i < ks.length) : W.cell? ⟨ba, i, none⟩ = some (.int .i64 ((ks.getD i 0 : Nat) : Int)) ∧ W.frozen? ⟨ba, i, none⟩ = false := by
  refine ⟨?_, blk_frozen h i⟩
  rw [cell_of_row W ba i _ _ _ h]
  simp [List.getD_eq_getElem?_getD, hi]
theorem KRow.set {W : World} {ba : Nat} {ks : List Nat} (h : KRow W ba ks) (i n : Nat) : KRow (W.setCell ⟨ba, i, none⟩ (.int .i64 (n : Int))) ba (ks.set i n) := by
  unfold KRow
  rw [setCell_eq_setRow W ba i _ _ _ _ h, setRow_heap W ba _ _ _ _ h]
  congr 2
  simp [List.map_set]
theorem KRow.below {W W1 : World} {ba : Nat} {ks : List Nat} (h : KRow W ba ks) (hb : Below W.heap.size W W1) : KRow W1 ba ks := (hb.block _ (Array.getElem?_eq_some_iff.1 h).1).trans h
def KpM (b1 b2 ba : Nat) (W W' : World) : Prop := W'.heap[b1]? = W.heap[b1]? ∧ W'.heap[b2]? = W.heap[b2]? ∧ W'.heap[ba]? = W.heap[ba]?
theorem made_rep (m : Nat) : madeCells (Value.int .i64 0).cells m = ((List.replicate m 0).map (fun k : Nat => Value.int .i64 (k : Int))).toArray := by
  have e : (Value.int .i64 0).cells = #[Value.int .i64 0] := rfl
  rw [e]
  apply Array.ext
  · simp [madeCells]
  · intro i h1 h2
    simp [madeCells, Nat.mod_one]
theorem three_alloc (w : World) (o1 o2 o3 : Obj) : (((w.alloc o1).alloc o2).alloc o3).heap[w.heap.size]? = some o1 ∧ (((w.alloc o1).alloc o2).alloc o3).heap[w.heap.size + 1]? = some o2 ∧ (((w.alloc o1).alloc o2).alloc o3).heap[w.heap.size + 1 + 1]? = some o3 ∧ Below w.heap.size w (((w.alloc o1).alloc o2).alloc o3) := by
  have h1 := heap_alloc_new w o1
  have h2 := heap_alloc_new (w.alloc o1) o2
  have h3 := heap_alloc_new ((w.alloc o1).alloc o2) o3
  rw [World.size_alloc] at h2
  rw [World.size_alloc, World.size_alloc] at h3
  exact ⟨(Below.heap_alloc _ _ _ (by rw [World.size_alloc, World.size_alloc]; omega)).trans ((Below.heap_alloc _ _ _ (by rw [World.size_alloc]; omega)).trans h1), (Below.heap_alloc _ _ _ (by rw [World.size_alloc, World.size_alloc]; omega)).trans h2, h3, (((Below.refl _ w).alloc (Nat.le_refl _) _).alloc (by simp) _).alloc (by simp; omega) _⟩
set_option maxHeartbeats 4000000 in
set_option maxRecDepth 100000 in
theorem merged_calls (A : Option Addr) (n c : Nat) (hn : n ≤ 1000000) (w : World) :
    Calls Try.prog 25 #[.slice A n c] w fun e w' => ∃ b1 b2 ba : Nat, e = .returned (.func (.func 35) #[] #[.pointer (some ⟨b1, 0, none⟩), .pointer (some ⟨b2, 0, none⟩)]) ∧ w.heap.size ≤ b1 ∧ w.heap.size ≤ b2 ∧ w.heap.size ≤ ba ∧ b1 ≠ b2 ∧ b1 ≠ ba ∧ b2 ≠ ba ∧
      w'.heap[b1]? = some (.cells #[.slice A n c] 22 (0, 0)) ∧ w'.heap[b2]? = some (.cells #[.slice (some ⟨ba, 0, none⟩) n n] 36 (0, 0)) ∧ KRow w' ba (List.replicate n 0) ∧ Below w.heap.size w w' := by
  have hmk : ∀ W : World, (Instr.makeSlice 36 (.int .i64 (n : Int)) (.int .i64 (n : Int))).run Try.prog W = .ok (.slice (some ⟨W.heap.size, 0, none⟩) n n) (W.alloc (.cells ((List.replicate n 0).map (fun k : Nat => Value.int .i64 (k : Int))).toArray 3)) := fun W => by
    have hin : (Go.Proofs.Try.prog.info? 3).map (fun i => (i.zero, i.size, i.bytes)) = some (some (.int .i64 0), 1, 8) := by kernel_rfl
    obtain ⟨i0, hi, hzz⟩ := Option.map_eq_some_iff.1 hin
    simp only [Prod.mk.injEq] at hzz
    obtain ⟨hz0, hz1, hz2⟩ := hzz
    have hr := run_make (P := Try.prog) W 36 3 i0 (.int .i64 0) Try.underlying36 hi hz0 .i64 .i64 (n : Int) (n : Int) (by omega) (by omega) (by rw [hz2]; omega) (by omega)
    rw [hz1, Nat.mul_one, Int.toNat_natCast, made_rep] at hr
    exact hr
  generalize hcs : ((List.replicate n 0).map (fun k : Nat => Value.int .i64 (k : Int))).toArray = cs at hmk
  unfold KRow
  go_enter Try.func25, Try.ntmps25
  go_wp2
  go_ret
  obtain ⟨f1, f2, f3, fb⟩ := three_alloc w (.cells #[.slice A n c] 22) (.cells cs 3) (.cells #[.slice (some ⟨w.heap.size + 1, 0, none⟩) n n] 36)
  exact ⟨w.heap.size, w.heap.size + 1 + 1, w.heap.size + 1, rfl, by omega, by omega, by omega, by omega, by omega, by omega, f1, f3, by rw [hcs]; exact f2, fb⟩
theorem regB {w w' : World} (h : ∃ p : Regrown, w' = grow (redrawn w p.d) p.os) : Below w.heap.size w w' := by
  obtain ⟨p, rfl⟩ := h
  exact below_regrown _ _ _
theorem sub_stepE {a i : Nat} (h : i < a) : a - i = (a - (i + 1)) + 1 := by omega
theorem wpIn_scope_plain {n : Nat} {P : Program} {c : Code} {Q : Exit → Act → World → Prop} {a : Act} {w : World} (h : c.wpIn Fence.wide n P (Exit.noGoto Q) a w) : (Code.scope c).wpIn Fence.wide n P Q a w := wpIn_wide.2 (wp_scope_straight ((wpIn_wide (n := n)).1 h))
theorem q_world {Q : Exit → Act → World → Prop} {e : Exit} {a : Act} {w : World} (R : World → Prop) (hw : R w) (h : ∀ W, R W → Q e a W) : Q e a w := h w hw
theorem turned_setM (bl i : Nat) (u : Value) (W : World) : Turned (fun k => k = bl) W (W.setCell ⟨bl, i, none⟩ u) := ⟨rfl, rfl, rfl, by rw [World.size_setCell]; exact Nat.le_refl _, fun k _ hk => Below.heap_setCell W ⟨bl, i, none⟩ u k hk⟩
theorem wpIn_world {F : Fence} {n : Nat} {P : Program} {c : Code} {Q : Exit → Act → World → Prop} {a : Act} {w : World} (R : World → Prop) (hw : R w) (h : ∀ W, R W → Code.wpIn F n P c Q a W) : Code.wpIn F n P c Q a w := h w hw
theorem sumTurn {T : Nat → Prop} {w W W' : World} (hb : Below w.heap.size w W) (h : Turned T W W') (hT : ∀ k, T k → w.heap.size ≤ k) : Below w.heap.size w W' := ⟨h.os.trans hb.os, h.tape.trans hb.tape, h.output.trans hb.output, Nat.le_trans hb.size h.size, fun k hk => (h.block k (Nat.lt_of_lt_of_le hk hb.size) (fun ht => by have := hT k ht; omega)).trans (hb.block k hk)⟩
set_option maxHeartbeats 4000000 in
set_option maxRecDepth 100000 in
theorem merged1_in (n : Nat) (hn : 1 ≤ n) (l b1 b2 ba : Nat) (w0 : World) (A0 : Option Addr) (c0 : Nat) (ls : List (List S34)) (hls : ls.length ≤ 1000000) (hle : ∀ i : Nat, i < ls.length → (rd_L4 ls (i : Int)).length ≤ 1000000) (hr0 : Kd.C (Kd.slice 34 k34) w0 A0 ls.length ls) (hc0 : ls.length ≤ c0) (J : List S34 → World → Prop) (W : World)
    (hJ : ∀ s X Y, Turned (fun k => k = ba) X Y → J s X → J s Y) (hJb : ∀ s X, J s X → Below w0.heap.size w0 X) (hba : w0.heap.size ≤ ba) (h12 : b1 ≠ ba) (h22 : b2 ≠ ba) (fuel : Nat) (hfuel : restF ls (List.replicate ls.length 0) < fuel)
    (hY : ∀ pre (x : S34) X, J pre X → (pre ++ [x] <+: mergedF ls fuel (List.replicate ls.length 0)) → YieldAt Fence.wide (n - 1) Try.prog l #[entV4 x] X fun e X' => e = .returned (.bool true) ∧ J (pre ++ [x]) X' ∧ KpM b1 b2 ba X X')
    (hb1 : W.heap[b1]? = some (.cells #[.slice A0 ls.length c0] 22 (0, 0))) (hb2 : W.heap[b2]? = some (.cells #[.slice (some ⟨ba, 0, none⟩) ls.length ls.length] 36 (0, 0))) (hbk : KRow W ba (List.replicate ls.length 0)) (h0 : J [] W) :
    CallsIn Fence.wide n Try.prog 35 #[.func (.yield l) #[] #[], .pointer (some ⟨b1, 0, none⟩), .pointer (some ⟨b2, 0, none⟩)] W fun e W' => (∃ v, e = .returned v) ∧ J (mergedF ls fuel (List.replicate ls.length 0)) W' := by
  have hu := Try.underlying34
  refine callsIn_of_wp Try.func35 rfl trivial ?_ rfl
  simp only [Try.ntmps35, List.size_toArray, List.length_cons, List.length_nil, Nat.reduceAdd, Nat.reduceSub, Array.replicate_succ, Array.replicate_zero, List.push_toArray, List.append_toArray, List.nil_append, List.cons_append]
  gi_wp2
  gi_loopg [] (restF ls (List.replicate ls.length 0)) (fun gg wr => ∃ (pre : List S34) (ks : List Nat) (m : Nat), ks.length = ls.length ∧ (∀ i : Nat, i < ls.length → ks.getD i 0 ≤ (rd_L4 ls (i : Int)).length) ∧ restF ls ks ≤ gg ∧ restF ls ks < m ∧ wr.heap[b1]? = some (.cells #[.slice A0 ls.length c0] 22 (0, 0)) ∧ wr.heap[b2]? = some (.cells #[.slice (some ⟨ba, 0, none⟩) ls.length ls.length] 36 (0, 0)) ∧ KRow wr ba ks ∧ J pre wr ∧ pre ++ mergedF ls m ks = mergedF ls fuel (List.replicate ls.length 0))
  case atStart => exact ⟨[], _, fuel, by simp, fun i hi => by simp [List.getD_eq_getElem?_getD, hi], Nat.le_refl _, hfuel, hb1, hb2, hbk, h0, rfl⟩
  case round =>
    obtain ⟨pre, ks, m, hkl, hkle, hgg, hm, g1, g2, gR, gJ, gm⟩ := hrel
    have hwb := hJb _ _ gJ
    obtain ⟨hc1, hf1⟩ := Zk1 (Aside0.mk g1)
    gi_wp2
    refine wpIn_scope_plain ?_
    gi_wp2
    refine wpIn_wide.2 (wp_label ?_)
    gi_wp2
    gi_loopg [4, 10] ls.length (fun gg v4 v10 wi => ∃ (i : Nat) (b : Int), i ≤ ls.length ∧ ls.length - i ≤ gg ∧ v10 = .int .i64 i ∧ v4 = .int .i64 b ∧ (b = -1 ∨ ∃ k : Nat, b = k ∧ k < ls.length ∧ ks.getD k 0 < (rd_L4 ls (k : Int)).length) ∧ bestF ls ks ls.length 0 (-1) = bestF ls ks (ls.length - i) i b ∧ Below wr.heap.size wr wi)
    case atStart => exact ⟨0, -1, Nat.zero_le _, by omega, rfl, rfl, .inl rfl, rfl, Below.refl _ _⟩
    case round =>
      obtain ⟨i, b, hi, hig, rfl, rfl, hb, hbe, hB⟩ := hrel
      obtain ⟨bb, hbest⟩ : ∃ bb, bestF ls ks (ls.length - i) i b = bb := ⟨_, rfl⟩
      rw [hbest] at hbe
      by_cases hlt : i < ls.length
      · have hltz : (i : Int) < (ls.length : Int) := by omega
        have hrw := Kd.C_below (Kd.C_below hr0 hwb) hB
        obtain ⟨ad, A1, c1, hA, hx0, hx1, hx2⟩ := at_L4 hrw (i : Int) (by omega) hltz
        subst hA
        rw [Int.toNat_natCast] at hx0
        obtain ⟨hc1', hf1'⟩ := Zk1 (Aside0.mk (blk_below g1 hB))
        obtain ⟨hc2', hf2'⟩ := Zk1 (Aside0.mk (blk_below g2 hB))
        obtain ⟨hc3', hf3'⟩ := (gR.below hB).cell i (by omega)
        have hbs := sub_stepE hlt
        rw [hbs] at hbest
        simp only [bestF] at hbest
        have hkl1 := hkle i hlt
        have hat1 : ks.getD i 0 < (rd_L4 ls (i : Int)).length → _ := fun h => at_T34 hx2 ((ks.getD i 0 : Nat) : Int) (by omega) (by omega)
        have hhd : hdE ls ks i = rd_T34 (rd_L4 ls (i : Int)) ((ks.getD i 0 : Nat) : Int) := rfl
        have hle1 := hle i hlt
        obtain ⟨p, hp⟩ : ∃ p, ks.getD i 0 = p := ⟨_, rfl⟩
        obtain ⟨L, hL⟩ : ∃ L, (rd_L4 ls (i : Int)).length = L := ⟨_, rfl⟩
        rw [hp] at hc3' hbest hkl1 hat1 hhd
        rw [hL] at hkl1 hle1 hx0 hx1 hat1 hbest
        by_cases he : p = L
        · rw [if_pos he] at hbest
          have hez : ((p : Int) == (L : Int)) = true := beq_iff_eq.2 (by omega)
          gi_wp2
          gi_roundg (ls.length - (i + 1))
          case measure => clear hbest hbe; omega
          case rel => exact ⟨i + 1, b, hlt, Nat.le_refl _, by go_num, rfl, hb, hbe.trans hbest.symm, hB⟩
        · rw [if_neg he] at hbest
          have hlt2 : p < L := by omega
          have hez : ((p : Int) == (L : Int)) = false := beq_eq_false_iff_ne.2 (by omega)
          gi_upto_region 5 with (fail)
          obtain ⟨ad1, hA1, hy0, hy1, hy2, hy3⟩ := hat1 hlt2
          subst hA1
          rw [Int.toNat_natCast] at hy0 hy1 hy2 hy3
          rcases hb with rfl | ⟨k, rfl, hkn, hkl2⟩
          · refine wpIn_wide.2 (wp_region_quiet_below (by kernel_rfl) (by kernel_rfl) ?_)
            repeat (go_big_quiet_step (fail))
            refine wpQuiet_nil ?_
            intro w5 hw5
            have hB5 := regB hw5
            clear hw5
            rw [if_pos (show (-1 : Int) < 0 by decide)] at hbest
            gi_wp2
            gi_roundg (ls.length - (i + 1))
            case measure => clear hbest hbe; omega
            case rel => exact ⟨i + 1, (i : Int), hlt, Nat.le_refl _, by go_num, rfl, .inr ⟨i, rfl, hlt, by rw [hp, hL]; exact hlt2⟩, hbe.trans hbest.symm, below_step hB hB5⟩
          · have hk0 : ¬ (k : Int) < 0 := by omega
            rw [if_neg hk0, Int.toNat_natCast] at hbest
            have hknz : (k : Int) < (ls.length : Int) := by omega
            obtain ⟨ad', A2, c2, hA', kx0, kx1, kx2⟩ := at_L4 hrw (k : Int) (by omega) hknz
            obtain rfl := Option.some.inj hA'
            rw [Int.toNat_natCast] at kx0
            obtain ⟨kc3, kf3⟩ := (gR.below hB).cell k (by omega)
            have hle2 := hle k hkn
            have hhk : hdE ls ks k = rd_T34 (rd_L4 ls (k : Int)) ((ks.getD k 0 : Nat) : Int) := rfl
            obtain ⟨q, hq⟩ : ∃ q, ks.getD k 0 = q := ⟨_, rfl⟩
            obtain ⟨M, hM⟩ : ∃ M, (rd_L4 ls (k : Int)).length = M := ⟨_, rfl⟩
            have hkl3 := hkl2
            rw [hq, hM] at hkl2
            rw [hq] at kc3 hhk
            obtain ⟨ad2, hA2, ky0, ky1, ky2, ky3⟩ := at_T34 kx2 (q : Int) (by omega) (by omega)
            subst hA2
            rw [Int.toNat_natCast] at ky0 ky1 ky2 ky3
            rw [hM] at kx0 kx1 hle2
            rw [hhd, hhk] at hbest
            have hbf := bfE_eq (rd_T34 (rd_L4 ls (i : Int)) (p : Int)) (rd_T34 (rd_L4 ls (k : Int)) (q : Int))
            generalize rd_T34 (rd_L4 ls (i : Int)) (p : Int) = x at hy0 hy1 hy2 hy3 hbest hbf
            generalize rd_T34 (rd_L4 ls (k : Int)) (q : Int) = y at ky0 ky1 ky2 ky3 hbest hbf
            obtain ⟨r, hr⟩ : ∃ r, bfE x y = r := ⟨_, rfl⟩
            rw [hr] at hbest hbf
            have hcall : ∀ d os, Calls Try.prog 31 #[.agg #[.string x.f0, .int .i64 x.f1, .bool x.f2, .string x.f3], .agg #[.string y.f0, .int .i64 y.f1, .bool y.f2, .string y.f3]] (grow (redrawn wr d) os) fun e w'' => e = .returned (.bool r) ∧ ∃ p : Regrown, w'' = grow (redrawn wr p.d) p.os := fun d os => Calls.regrown_of (mem_Before.calls x.f0 x.f1 x.f2 x.f3 y.f0 y.f1 y.f2 y.f3 r _ hbf)
            have rx0 := cell_regrown hx0
            have rk0 := cell_regrown kx0
            have rc1 := cell_regrown hc1'
            have rc2 := cell_regrown hc2'
            have rc3 := cell_regrown hc3'
            have rk3 := cell_regrown kc3
            have ry0 := cell_regrown hy0
            have ry1 := cell_regrown hy1
            have ry2 := cell_regrown hy2
            have ry3 := cell_regrown hy3
            have rz0 := cell_regrown ky0
            have rz1 := cell_regrown ky1
            have rz2 := cell_regrown ky2
            have rz3 := cell_regrown ky3
            refine wpIn_wide.2 (wp_region_quiet_below (by kernel_rfl) (by kernel_rfl) ?_)
            repeat (go_big_quiet_step (exact hcall _ _))
            refine wpQuiet_nil ?_
            intro w5 hw5
            have hB5 := regB hw5
            clear hw5
            cases r with
            | true =>
              rw [if_pos rfl] at hbest
              gi_wp2
              gi_roundg (ls.length - (i + 1))
              case measure => clear hbest hbe; omega
              case rel => exact ⟨i + 1, (i : Int), hlt, Nat.le_refl _, by go_num, rfl, .inr ⟨i, rfl, hlt, by rw [hp, hL]; exact hlt2⟩, hbe.trans hbest.symm, below_step hB hB5⟩
            | false =>
              rw [if_neg (by decide)] at hbest
              gi_wp2
              gi_roundg (ls.length - (i + 1))
              case measure => clear hbest hbe; omega
              case rel => exact ⟨i + 1, (k : Int), hlt, Nat.le_refl _, by go_num, rfl, .inr ⟨k, rfl, hkn, hkl3⟩, hbe.trans hbest.symm, below_step hB hB5⟩
      · have hltz : ¬ (i : Int) < (ls.length : Int) := by omega
        have hin : i = ls.length := by omega
        subst hin
        rw [Nat.sub_self] at hbest
        have hbb : b = bb := hbest
        subst hbb
        clear hbest
        obtain ⟨m, rfl⟩ : ∃ j, m = j + 1 := ⟨m - 1, by clear hbe; omega⟩
        rcases hb with rfl | ⟨k, rfl, hkn, hkl2⟩
        · have hmn : mergedF ls (m + 1) ks = [] := by simp only [mergedF]; rw [hbe, if_pos (by decide)]
          rw [hmn, List.append_nil] at gm
          gi_wp2
          refine bodyPost_ret (results_none rfl _ _ _) rfl ?_
          exact ⟨⟨_, rfl⟩, hJ _ _ _ (Turned.of_below hB) (gm ▸ gJ)⟩
        · have hk0 : ¬ (k : Int) < 0 := by omega
          have hmn : mergedF ls (m + 1) ks = hdE ls ks k :: mergedF ls m (ks.set k (ks.getD k 0 + 1)) := by simp only [mergedF]; rw [hbe, if_neg hk0, Int.toNat_natCast]
          rw [hmn] at gm
          have hrest := rest_set ls ks k (by omega) hkl hkl2
          have hle2 := hle k hkn
          have hknz : (k : Int) < (ls.length : Int) := by omega
          have hrw := Kd.C_below (Kd.C_below hr0 hwb) hB
          obtain ⟨ad, A2, c2, hA', kx0, kx1, kx2⟩ := at_L4 hrw (k : Int) (by omega) hknz
          subst hA'
          rw [Int.toNat_natCast] at kx0
          obtain ⟨hc1', hf1'⟩ := Zk1 (Aside0.mk (blk_below g1 hB))
          obtain ⟨hc2', hf2'⟩ := Zk1 (Aside0.mk (blk_below g2 hB))
          obtain ⟨kc3, kf3⟩ := (gR.below hB).cell k (by omega)
          have hhk : hdE ls ks k = rd_T34 (rd_L4 ls (k : Int)) ((ks.getD k 0 : Nat) : Int) := rfl
          obtain ⟨q, hq⟩ : ∃ q, ks.getD k 0 = q := ⟨_, rfl⟩
          rw [hq] at kc3 hhk gm hrest hkl2
          obtain ⟨ad2, hA2, ky0, ky1, ky2, ky3⟩ := at_T34 kx2 (q : Int) (by omega) (by omega)
          subst hA2
          rw [Int.toNat_natCast] at ky0 ky1 ky2 ky3
          obtain ⟨M, hM⟩ : ∃ M, (rd_L4 ls (k : Int)).length = M := ⟨_, rfl⟩
          rw [hM] at kx0 kx1 hle2 hkl2
          rw [hhk] at gm
          generalize rd_T34 (rd_L4 ls (k : Int)) (q : Int) = y at ky0 ky1 ky2 ky3 gm
          have rk0 := fun o : Obj => cell_allocE o kx0
          have rc1 := fun o : Obj => cell_allocE o hc1'
          have rc2 := fun o : Obj => cell_allocE o hc2'
          have rk3 := fun o : Obj => cell_allocE o kc3
          have rz0 := fun o : Obj => cell_allocE o ky0
          have rz1 := fun o : Obj => cell_allocE o ky1
          have rz2 := fun o : Obj => cell_allocE o ky2
          have rz3 := fun o : Obj => cell_allocE o ky3
          gi_upto_region 9 with (fail)
          refine wpIn_wide.2 ?_
          go_region
          clear rk0 rc1 rc2 rk3 rz0 rz1 rz2 rz3
          refine q_world (fun X => X.heap[wr.heap.size]? = some (.cells #[.string y.f0, .int .i64 y.f1, .bool y.f2, .string y.f3] 34 (0, 0)) ∧ Below wr.heap.size wr X) ⟨heap_alloc_new wr _, below_drew1 ((Below.refl _ wr).alloc (Nat.le_refl _) _)⟩ ?_
          rintro X ⟨he0, hBX⟩
          have hgb : wr.heap.size ≠ ba := by have := (Array.getElem?_eq_some_iff.1 (gR.below hB)).1; omega
          obtain ⟨g, hg⟩ : ∃ g, wr.heap.size = g := ⟨_, rfl⟩
          rw [hg] at he0 hgb
          rw [hg]
          obtain ⟨xc1, xf1⟩ := Zk1 (Aside0.mk (blk_below (blk_below g1 hB) hBX))
          have gb2 := blk_below (blk_below g2 hB) hBX
          have gb1 := blk_below (blk_below g1 hB) hBX
          obtain ⟨xc2, xf2⟩ := Zk1 (Aside0.mk gb2)
          have gRX := (gR.below hB).below hBX
          obtain ⟨xc3, xf3⟩ := gRX.cell k (by omega)
          rw [hq] at xc3
          gi_upto_region 11 with (fail)
          have gS := gRX.set k (q + 1)
          rw [Int.natCast_add] at gS
          refine wpIn_world (fun Y => Y.heap[g]? = some (.cells #[.string y.f0, .int .i64 y.f1, .bool y.f2, .string y.f3] 34 (0, 0)) ∧ Y.heap[b1]? = some (.cells #[.slice (some ad) ls.length c0] 22 (0, 0)) ∧ Y.heap[b2]? = some (.cells #[.slice (some ⟨ba, 0, none⟩) ls.length ls.length] 36 (0, 0)) ∧ KRow Y ba (ks.set k (q + 1)) ∧ J pre Y) ⟨(Below.heap_setCell X _ _ g hgb).trans he0, (Below.heap_setCell X _ _ b1 h12).trans gb1, (Below.heap_setCell X _ _ b2 h22).trans gb2, gS, hJ _ _ _ (turned_setM ba k _ X) (hJ _ _ _ (Turned.of_below hBX) (hJ _ _ _ (Turned.of_below hB) gJ))⟩ ?_
          rintro Y ⟨he1, hb1Y, hb2Y, hRY, hJY⟩
          obtain ⟨⟨yc0, yc1, yc2, yc3⟩, _⟩ := Zk4 (Aside0.mk he1)
          obtain ⟨fn, tmps, assign, body, hy, hR⟩ := hY pre y Y hJY ⟨mergedF ls m (ks.set k (q + 1)), by rw [← gm, List.append_assoc]; rfl⟩
          unfold entV4 at hy
          gi_wp2
          refine hR.mono ?_
          rintro e W3 ⟨rfl, hJ3, hk3⟩
          gi_wp2
          rw [Exit.noGoto_normal]
          gi_wp2
          gi_roundg (restF ls (ks.set k (q + 1)))
          case measure => clear hbe; omega
          case rel =>
            refine ⟨pre ++ [y], ks.set k (q + 1), m, by rw [List.length_set]; exact hkl, ?_, Nat.le_refl _, by clear hbe; omega, hk3.1.trans hb1Y, hk3.2.1.trans hb2Y, hk3.2.2.trans hRY, hJ3, by rw [List.append_assoc]; exact gm⟩
            intro j hj
            rw [List.getD_eq_getElem?_getD, List.getElem?_set]
            by_cases c : k = j
            · subst c
              rw [if_pos rfl, if_pos (by omega)]
              show q + 1 ≤ _
              rw [hM]; exact hkl2
            · rw [if_neg c, ← List.getD_eq_getElem?_getD]
              exact hkle j hj
end Go.Proofs.Yteljlfodjbgejaa.Print
