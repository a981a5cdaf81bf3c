/- Contracts proved by hand: see the theorems' own lines. -/
import Derived.LoopIn
import Derived.LoopNIn
import Derived.OwnWalkIn
import Derived.RangeFuncBound
import Derived.RangeFuncCalls
import Derived.RangeFuncLeaves
import Derived.RangeFuncNested
import Derived.RangeFuncRecord
import Derived.Shelf.Abstract
import Derived.Shelf.RegionOpen
import Derived.TacticsInMore
import Derived.Test.YteljlfodjbgejaaHMergeIndex
import Derived.Test.YteljlfodjbgejaaHMergeRange
import Derived.Test.YteljlfodjbgejaaPrint0
import Derived.WalkKit
namespace Go.Proofs.Yteljlfodjbgejaa.Print
open Go.RowKit Go.Shelf Go.Proofs.YteljlfodjbgejaaW.PrintWords Go.Proofs.YteljlfodjbgejaaW.PrintLast Go.Proofs.YteljlfodjbgejaaX
set_option linter.unusedVariables false
set_option linter.unusedSimpArgs false
attribute [local go_sem] Oper.semAt_some

/-- How many entries of a list are of the first one's key, at its head. -/
def grpN (l : List S34) : Nat := if idxF (keyNe (rd_T34 l 0).f0) l 0 < 0 then l.length else (idxF (keyNe (rd_T34 l 0).f0) l 0).toNat
/-- A list in parts, by keys. -/
def groupsF : Nat → List S34 → List (List S34)
  | 0, _ => []
  | m + 1, l => if l.length = 0 then [] else l.take (grpN l) :: groupsF m (l.drop (grpN l))
theorem idxF_range {α : Type} (p : α → Bool) : ∀ (l : List α) (i : Nat), idxF p l i = -1 ∨ ((i : Int) ≤ idxF p l i ∧ idxF p l i < (i : Int) + l.length) := by
  intro l
  induction l with
  | nil => intro i; exact .inl rfl
  | cons x l ih =>
    intro i
    by_cases h : p x = true
    · have e : idxF p (x :: l) i = (i : Int) := by simp only [idxF]; rw [if_pos h]
      rw [e, List.length_cons]; right; omega
    · have e : idxF p (x :: l) i = idxF p l (i + 1) := by simp only [idxF]; rw [if_neg h]
      rw [e, List.length_cons]
      rcases ih (i + 1) with h1 | h1
      · exact .inl h1
      · right; omega
theorem grpN_pos (l : List S34) (h : 0 < l.length) : 0 < grpN l ∧ grpN l ≤ l.length := by
  unfold grpN
  have hr := idxF_range (keyNe (rd_T34 l 0).f0) l 0
  by_cases c : idxF (keyNe (rd_T34 l 0).f0) l 0 < 0
  · rw [if_pos c]; omega
  · rw [if_neg c]
    have h0 : idxF (keyNe (rd_T34 l 0).f0) l 0 ≠ 0 := by
      cases l with
      | nil => simp at h
      | cons x l =>
        have e0 : rd_T34 (x :: l) 0 = x := rfl
        rw [e0]
        have hk : ¬ keyNe x.f0 x = true := by unfold keyNe; simp
        have e : idxF (keyNe x.f0) (x :: l) 0 = idxF (keyNe x.f0) l (0 + 1) := by simp only [idxF]; rw [if_neg hk]
        rw [e]
        rcases idxF_range (keyNe x.f0) l (0 + 1) with h1 | h1 <;> omega
    omega
/-- A part as a value: its row reads in the world w. -/
structure KG (w : World) where
  A : Option Addr
  c : Nat
  l : List S34
  hr : Kd.C k34 w A l.length l
  hc : l.length ≤ c
def KG.enc {w : World} (x : KG w) : Array Value := #[.slice x.A x.l.length x.c]
def KpB (bl : Nat) (W W' : World) : Prop := W'.heap[bl]? = W.heap[bl]?
/-- The length of the list that a box holds. -/
def boxLen (bl : Nat) (W : World) : Nat := match W.cell? ⟨bl, 0, none⟩ with
  | some (.slice _ n _) => n
  | _ => 0
theorem turned_set (bl i : Nat) (u : Value) (W : World) : Turned (fun k => k = bl) W (W.setCell ⟨bl, i, none⟩ u) := ⟨rfl, rfl, rfl, by rw [World.size_setCell]; exact Nat.le_refl _, fun k _ hk => Below.heap_setCell W ⟨bl, i, none⟩ u k hk⟩
theorem boxLen_of {bl : Nat} {W : World} {A : Option Addr} {n c : Nat} {t : TypeId} (h : W.heap[bl]? = some (.cells #[.slice A n c] t (0, 0))) : boxLen bl W = n := by
  unfold boxLen
  rw [(Zk1 (Aside0.mk h)).1]
theorem boxLen_set {bl : Nat} {W : World} {A B : Option Addr} {n c m d : Nat} {t : TypeId} (h : W.heap[bl]? = some (.cells #[.slice A n c] t (0, 0))) : boxLen bl (W.setCell ⟨bl, 0, none⟩ (.slice B m d)) = m := boxLen_of (Zp (cs := #[.slice A n c]) h 0 _ rfl)
set_option maxHeartbeats 4000000 in
set_option maxRecDepth 100000 in
theorem keys1_in (n : Nat) (hn : 1 ≤ n) (l bl : Nat) (w0 : World) (A0 : Option Addr) (c0 : Nat) (xs : List S34) (hxs : xs.length ≤ 4611686018427387904) (hr0 : Kd.C k34 w0 A0 xs.length xs) (hc0 : xs.length ≤ c0) (J : List (KG w0) → World → Prop) (W : World)
    (hJ : ∀ s X Y, Turned (fun k => k = bl) X Y → J s X → J s Y) (hJb : ∀ s X, J s X → Below w0.heap.size w0 X) (hbl : w0.heap.size ≤ bl)
    (hY : ∀ pre (x : KG w0) X, J pre X → (pre.map (·.l) ++ [x.l] <+: groupsF xs.length xs) → YieldAt Fence.wide (n - 1) Try.prog l x.enc X fun e X' => e = .returned (.bool true) ∧ J (pre ++ [x]) X' ∧ KpB bl X X')
    (hb : W.heap[bl]? = some (.cells #[.slice A0 xs.length c0] 24 (0, 0))) (h0 : J [] W) :
    CallsIn Fence.wide n Try.prog 36 #[.func (.yield l) #[] #[], .pointer (some ⟨bl, 0, none⟩)] W fun e W' => (∃ v, e = .returned v) ∧ ∃ ys : List (KG w0), ys.map (·.l) = groupsF xs.length xs ∧ J ys W' := by
  refine callsIn_of_wp Try.func36 rfl trivial ?_ rfl
  simp only [Try.ntmps36, List.size_toArray, List.length_cons, List.length_nil, Nat.reduceAdd, Nat.reduceSub, Array.replicate_succ, Array.replicate_zero, List.push_toArray, List.append_toArray, List.nil_append, List.cons_append]
  gi_wp2
  gi_loopw [3] (fun _ wr => ∃ (pre : List (KG w0)) (A : Option Addr) (c m : Nat) (r : List S34), Kd.C k34 w0 A r.length r ∧ r.length ≤ c ∧ r.length ≤ m ∧ r.length ≤ xs.length ∧ wr.heap[bl]? = some (.cells #[.slice A r.length c] 24 (0, 0)) ∧ J pre wr ∧ pre.map (·.l) ++ groupsF m r = groupsF xs.length xs) (fun _ wr => boxLen bl wr)
  case atStart => exact ⟨[], A0, c0, xs.length, xs, hr0, hc0, Nat.le_refl _, Nat.le_refl _, hb, h0, rfl⟩
  case round =>
    obtain ⟨pre, A, c, m, r, hr, hc, hm, hrx, hbr, hJr, hgr⟩ := hrel
    have hwb := hJb _ _ hJr
    obtain ⟨hcl, hfl⟩ := Zk1 (Aside0.mk hbr)
    by_cases hz : r.length = 0
    · have hz0 : (0 < r.length) = False := eq_false (by omega)
      have hg0 : groupsF m r = [] := by cases m with
        | zero => rfl
        | succ m => simp only [groupsF]; rw [if_pos hz]
      rw [hg0, List.append_nil] at hgr
      gi_wp2
      go_end0
      exact ⟨⟨_, rfl⟩, pre, hgr, hJr⟩
    · have hz0 : (0 < r.length) = True := eq_true (by omega)
      have hg := grpN_pos r (by omega)
      obtain ⟨m, rfl⟩ : ∃ j, m = j + 1 := ⟨m - 1, by omega⟩
      have hg0 : groupsF (m + 1) r = r.take (grpN r) :: groupsF m (r.drop (grpN r)) := by simp only [groupsF]; rw [if_neg hz]
      rw [hg0] at hgr
      have hix := indexEnt_calls A c r (keyNe (rd_T34 r 0).f0) 37 #[.pointer (some ⟨bl, 0, none⟩)] (enters_of Try.func37 (by kernel_rfl) rfl) wr (Kd.C_below hr hwb) (by omega)
        (fun X x hX => (keyNe_calls bl A c r (by omega) x X (blk_below hbr hX) (Kd.C_below (Kd.C_below hr hwb) hX)).mono (fun e w' h => ⟨h.1, below_step hX h.2⟩))
      have hlt : (r.take (grpN r)).length = grpN r := by rw [List.length_take]; omega
      have hpre : pre.map (·.l) ++ [r.take (grpN r)] <+: groupsF xs.length xs := ⟨groupsF m (r.drop (grpN r)), by rw [← hgr, List.append_assoc]; rfl⟩
      obtain ⟨i0, hi0, _, hsz0, _⟩ := info_parts info34
      have hct : ∀ j : Int, j = (grpN r : Int) → ∀ W : World, (Instr.slice 24 (.slice A r.length c) none (some (.int .i64 j)) none).run Try.prog W = .ok (.slice A (grpN r) c) W := fun j hj W => by
        subst hj
        have h := cut_to (P := Try.prog) 24 34 .i64 Try.underlying24 hi0 A r.length c (grpN r : Int) (by omega) (by omega) hc W
        rwa [Int.toNat_natCast] at h
      have hcf : ∀ j : Int, j = (grpN r : Int) → ∀ W : World, (Instr.slice 24 (.slice A r.length c) (some (.int .i64 j)) none none).run Try.prog W = .ok (.slice (if c = grpN r then A else A.map (·.add (grpN r * 4))) (r.length - grpN r) (c - grpN r)) W := fun j hj W => by
        subst hj
        have h := cut_from (P := Try.prog) 24 34 .i64 Try.underlying24 hi0 4 hsz0 A r.length c (grpN r : Int) (by omega) (by omega) W
        rwa [Int.toNat_natCast] at h
      have hYr : ∀ w1, Below wr.heap.size wr w1 → ∃ fn tmps assign body, (Instr.yield l #[.slice A (grpN r) c]).run Try.prog w1 = .ok (.round l fn tmps assign body) w1 ∧ RoundIn Fence.wide (n - 1) Try.prog l fn tmps assign body w1 fun e X' => e = .returned (.bool true) ∧ J (pre ++ [⟨A, c, r.take (grpN r), Kd.C_take hr hg.2, by rw [hlt]; omega⟩]) X' ∧ KpB bl w1 X' := fun w1 hb1 => by
        have h := hY pre ⟨A, c, r.take (grpN r), Kd.C_take hr hg.2, by rw [hlt]; omega⟩ w1 (hJ _ _ _ (Turned.of_below hb1) hJr) hpre
        unfold KG.enc at h
        simp only [hlt] at h
        exact h
      have hgn : idxF (keyNe (rd_T34 r 0).f0) r 0 < 0 ∧ (r.length : Int) = (grpN r : Int) ∨ ¬ idxF (keyNe (rd_T34 r 0).f0) r 0 < 0 ∧ idxF (keyNe (rd_T34 r 0).f0) r 0 = (grpN r : Int) := by
        unfold grpN
        by_cases c : idxF (keyNe (rd_T34 r 0).f0) r 0 < 0
        · rw [if_pos c]; exact .inl ⟨c, rfl⟩
        · rw [if_neg c]; exact .inr ⟨c, by omega⟩
      generalize idxF (keyNe (rd_T34 r 0).f0) r 0 = iz at hix hgn
      have hdl : (r.drop (grpN r)).length = r.length - grpN r := List.length_drop
      rcases hgn with ⟨hneg, hgl⟩ | ⟨hneg, hgl⟩
      · have hcut := hct _ hgl
        have hcuf := hcf _ hgl
        have hd1 : decide (iz < 0) = true := decide_eq_true hneg
        gi_wp2_with (first | (refine ⟨trivial, ?_⟩; gi_at_call 27; refine (callsIn_wide.2 hix).mono ?_; rintro e w1 ⟨rfl, hb1⟩; have hbr1 := blk_below hbr hb1; obtain ⟨hcl1, hfl1⟩ := Zk1 (Aside0.mk hbr1); obtain ⟨fn, tmps, assign, body, hy, hR⟩ := hYr w1 hb1))
        refine hR.mono ?_
        rintro e W3 ⟨rfl, hJ3, hk3⟩
        have hb3 := (show W3.heap[bl]? = w1.heap[bl]? from hk3).trans hbr1
        obtain ⟨hcl3, hfl3⟩ := Zk1 (Aside0.mk hb3)
        gi_wp2
        go_roundw
        case rel =>
          refine ⟨_, (if c = grpN r then A else A.map (·.add (grpN r * 4))), c - grpN r, m, r.drop (grpN r), Kd.C_drop hr hg.2 hc, by rw [hdl]; omega, by rw [hdl]; omega, by rw [hdl]; omega, ?_, hJ _ _ _ (turned_set bl 0 _ W3) hJ3, ?_⟩
          · rw [hdl]
            exact Zp (cs := #[.slice A r.length c]) hb3 0 _ rfl
          · rw [List.map_append, List.append_assoc]
            exact hgr
        case measure =>
          rw [boxLen_set hb3, boxLen_of hbr]
          omega
      · have hcut := hct _ hgl
        have hcuf := hcf _ hgl
        have hd1 : decide (iz < 0) = false := decide_eq_false hneg
        gi_wp2_with (first | (refine ⟨trivial, ?_⟩; gi_at_call 27; refine (callsIn_wide.2 hix).mono ?_; rintro e w1 ⟨rfl, hb1⟩; have hbr1 := blk_below hbr hb1; obtain ⟨hcl1, hfl1⟩ := Zk1 (Aside0.mk hbr1); obtain ⟨fn, tmps, assign, body, hy, hR⟩ := hYr w1 hb1))
        refine hR.mono ?_
        rintro e W3 ⟨rfl, hJ3, hk3⟩
        have hb3 := (show W3.heap[bl]? = w1.heap[bl]? from hk3).trans hbr1
        obtain ⟨hcl3, hfl3⟩ := Zk1 (Aside0.mk hb3)
        gi_wp2
        go_roundw
        case rel =>
          refine ⟨_, (if c = grpN r then A else A.map (·.add (grpN r * 4))), c - grpN r, m, r.drop (grpN r), Kd.C_drop hr hg.2 hc, by rw [hdl]; omega, by rw [hdl]; omega, by rw [hdl]; omega, ?_, hJ _ _ _ (turned_set bl 0 _ W3) hJ3, ?_⟩
          · rw [hdl]
            exact Zp (cs := #[.slice A r.length c]) hb3 0 _ rfl
          · rw [List.map_append, List.append_assoc]
            exact hgr
        case measure =>
          rw [boxLen_set hb3, boxLen_of hbr]
          omega
set_option maxHeartbeats 4000000 in
set_option maxRecDepth 100000 in
/-- keys: the list is boxed; the function value captures the box. -/
theorem keys_calls (A : Option Addr) (n c : Nat) (w : World) :
    Calls Try.prog 26 #[.slice A n c] w fun e w' => e = .returned (.func (.func 36) #[] #[.pointer (some ⟨w.heap.size, 0, none⟩)]) ∧ w' = w.alloc (.cells #[.slice A n c] 24) := by
  go_enter Try.func26, Try.ntmps26
  go_wp2
  go_ret
  exact ⟨rfl, rfl⟩
end Go.Proofs.Yteljlfodjbgejaa.Print
