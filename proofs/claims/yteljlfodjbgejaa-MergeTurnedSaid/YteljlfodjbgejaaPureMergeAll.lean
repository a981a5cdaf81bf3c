/- What is merged is sorted, and has each entry of each list, by key and number, once, and no other one (at most 8 lists of at most 40 entries): for all arguments that the row lets in. -/
import Derived.Test.YteljlfodjbgejaaMergeEnt
import Derived.Test.YteljlfodjbgejaaHMergeMerge
import Derived.Test.YteljlfodjbgejaaHMergeFold
import Derived.Test.YteljlfodjbgejaaPrint6
import Derived.Test.YteljlfodjbgejaaXRounds
import Derived.WalkKit
import Derived.Deep.LoopGhost
import Derived.Deep.QuietTactic
import Derived.BigQuiet
import Derived.Deep.CutBlock
namespace Go.Proofs.Yteljlfodjbgejaa.Pure
open Go.RowKit Go.Shelf Go.Proofs.Yteljlfodjbgejaa.Print Go.Proofs.YteljlfodjbgejaaX Go.Proofs.YteljlfodjbgejaaW.PrintWords Go.Proofs.YteljlfodjbgejaaW.PrintLast
set_option linter.unusedVariables false
set_option linter.unusedSimpArgs false

/-! ## A row of lists that came in -/
def sC {w : World} (x : KG w) : List Value := [.slice x.A x.l.length x.c]
def LRow {w : World} (W : World) (base : Nat) (v : Value) (xs : List (KG w)) : Prop := W.ownsRow base 24 1 v xs.length (xs.flatMap sC)
theorem reps_sC {w : World} (W : World) (hb : Below w.heap.size w W) : ∀ xs : List (KG w), Reps (Kd.K (Kd.slice 34 k34) W) 1 (xs.map (·.l)) (xs.flatMap sC) := by
  intro xs
  induction xs with
  | nil => exact Reps.none _ _
  | cons x xs ih => exact Kd.reps_append (ps := [x.l]) (cs := sC x) (Reps.snoc (Reps.none _ _) ⟨x.A, x.c, rfl, x.hc, Kd.C_below x.hr hb⟩ rfl) ih
theorem LRow.reads {w W : World} {base : Nat} {v : Value} {xs : List (KG w)} (h : LRow W base v xs) (hb : Below w.heap.size w W) : ∃ A c, v = .slice A xs.length c ∧ xs.length ≤ c ∧ Kd.C (Kd.slice 34 k34) W A xs.length (xs.map (·.l)) := by
  have ho : OwnRow (Kd.K (Kd.slice 34 k34) W) 24 1 W base v (xs.map (·.l)) := ⟨xs.flatMap sC, by rw [List.length_map]; exact h, reps_sC W hb xs⟩
  obtain ⟨A, c, h1, h2, h3⟩ := OwnRow.reads ho
  rw [List.length_map] at h1 h2 h3
  exact ⟨A, c, h1, h2, h3⟩
theorem LRow.below {w W W' : World} {base : Nat} {v : Value} {xs : List (KG w)} (h : LRow W base v xs) (hb : Below W.heap.size W W') : LRow W' base v xs := by
  refine own_move h (fun k hk => hb.block k ?_)
  rcases h.2 with ⟨rfl, _⟩ | ⟨g', cap, cur, rfl, _, hgb, _⟩
  · simp [Value.ownBlock] at hk
  · obtain rfl : g' = k := by simpa [Value.ownBlock] using hk
    exact (Array.getElem?_eq_some_iff.1 hgb).1
theorem LRow.base_le {w W : World} {base g : Nat} {v : Value} {xs : List (KG w)} (h : LRow W base v xs) (hg : v.ownBlock = some g) : base ≤ g := by
  rcases h.2 with ⟨rfl, _⟩ | ⟨g', cap, cur, rfl, hb, _⟩
  · simp [Value.ownBlock] at hg
  · obtain rfl : g' = g := by simpa [Value.ownBlock] using hg
    exact hb
theorem wpW {P : Program} {c : Code} {Q : Exit → Act → World → Prop} {a : Act} {w : World} (R : World → Prop) (hw : R w) (h : ∀ W, R W → Code.wp P c Q a W) : Code.wp P c Q a w := h w hw
theorem info24_ : (Try.prog.info? 24).map (fun i => (i.zero, i.size, i.bytes)) = some (some (.slice none 0 0), 1, 24) := by kernel_rfl
theorem rdL_getE {ls : List (List Ent)} {i : Nat} (h : i < ls.length) : rd_L4 ls (i : Int) = ls[i] := by
  unfold rd_L4
  rw [Int.toNat_natCast, List.getD_eq_getElem?_getD, List.getElem?_eq_getElem h]
  rfl
theorem value_append {P : Program} {ops : Array Oper} {Q : Exit → Act → World → Prop} {oi : Oper} {N : Option Tmp} {a : Act} {w w1 : World} {v : Value} {K : Act → World → Prop} (s x : Operand) (t : TypeId) (vs vx : Value) (hop : oi.op = .call { callee := .builtin .append, args := #[s, x], argTypes := #[t, t] })
    (hw : Region.wanted oi (yielded ops a.tmps) = true) (hN : oi.dst = N) (hs : a.eval s = vs) (hx : a.eval x = vx) (hrun : (Builtin.append_ #[t, t] oi.type #[vs, vx]).run P w = .ok v w1) (h : K (a.put N v) w1) : if Region.wanted oi (yielded ops a.tmps) = true then Oper.wp P oi a w K Q else K (a.put N undef) w :=
  value_ hw hN (by simp [execOp, hop, resolve, invoke, builtin, hs, hx, hrun, Result.andThen]) h
/-- What stands in the list that came is marked. -/
def Marked (L : List Ent) (bs : List Bool) (done : List Ent) : Prop := ∀ x ∈ done, ∀ j, j < L.length → Same (gt L j) x → bs.getD j false = true
/-- What the law's own lists are. -/
def ownL (l0 : List (List Ent)) (n m : Nat) : List (List Ent) := (l0.take n).map (fun l => l.take m)
set_option maxHeartbeats 4000000 in
set_option maxRecDepth 100000 in
theorem mergeAllWalk (A0 : Option Addr) (c0 : Nat) (l0 : List (List Ent)) (w : World) (hr0 : Kd.C (Kd.slice 34 k34) w A0 l0.length l0) (hc0 : l0.length ≤ c0) (hlen : l0.length ≤ 1000000000000000) :
    Calls Try.prog 5 #[.slice A0 l0.length c0] w fun e w' => e = .returned (.bool true) ∧ Below w.heap.size w w' := by
  have hu := Try.underlying34
  have hex := palinodelaw15_examples.calls true w examples_val
  go_enter Try.func5, Try.ntmps5
  go_upto_block 0 with (go_at_call 10; refine hex.mono ?_; rintro e w1 ⟨rfl, hb1⟩)
  go_cut [4] (fun v4 wc => ∃ xs : List (KG w), LRow wc w.heap.size v4 xs ∧ xs.map (·.l) = ownL l0 8 40 ∧ Below w.heap.size w wc)
  case first =>
    go_wp2
    go_loopg [4, 5] 8 (fun gg v4 v5 wr => ∃ (i : Nat) (xs : List (KG w)), i ≤ l0.length ∧ i ≤ 8 ∧ 8 - i ≤ gg ∧ v5 = .int .i64 i ∧ LRow wr w.heap.size v4 xs ∧ xs.map (·.l) = ownL l0 i 40 ∧ Below w.heap.size w wr)
    case atStart => exact ⟨0, [], Nat.zero_le _, by decide, Nat.le_refl _, rfl, World.ownsRow_nil _ _ _ _, rfl, hb1⟩
    case round =>
      obtain ⟨i, xs, hil, hi8, hig, rfl, hL, hxs, hB⟩ := hrel
      by_cases hlt : i < l0.length
      · have hltz : (i : Int) < (l0.length : Int) := by omega
        by_cases hlt8 : i < 8
        · have h8 : decide ((i : Int) < 8) = true := decide_eq_true (by omega)
          obtain ⟨ad, A1, c1, hA, hx0, hx1, hx2⟩ := at_L4 hr0 (i : Int) (by omega) hltz
          subst hA
          rw [Int.toNat_natCast] at hx0
          have hx0' := (hB.cell (World.block_lt_of_cell? _ _ hx0)).trans hx0
          obtain ⟨q, hql, hqe, m1, m2⟩ := mn_take (rd_L4 l0 (i : Int)) 40
          have hqm : (mn ((rd_L4 l0 (i : Int)).length : Int) 40).toNat = q.length := by
            rw [hqe, List.length_take]
            have e40 : ((40 : Nat) : Int) = 40 := rfl
            rw [e40] at m1 m2 ⊢
            omega
          have hqr : Kd.C k34 w A1 q.length q := by
            rw [hqe, List.length_take]
            have := Kd.C_take hx2 (m := (mn ((rd_L4 l0 (i : Int)).length : Int) ((40 : Nat) : Int)).toNat) (by have e40 : ((40 : Nat) : Int) = 40 := rfl; omega)
            rw [List.length_take] at this
            exact this
          have hqlen : q.length ≤ (rd_L4 l0 (i : Int)).length := by rw [hqe, List.length_take]; omega
          have hqmn : mn ((rd_L4 l0 (i : Int)).length : Int) 40 = (q.length : Int) := by
            have e40 : ((40 : Nat) : Int) = 40 := rfl
            rw [e40] at m1
            omega
          have hxl : xs.length ≤ 8 := by
            have := congrArg List.length hxs
            rw [List.length_map] at this
            rw [this]
            unfold ownL
            rw [List.length_map, List.length_take]; omega
          have hmin : min ((rd_L4 l0 (i : Int)).length : Int) 40 = (q.length : Int) := by rw [← hqmn]; unfold mn; omega
          have hqc : q.length ≤ c1 := by omega
          have hqc2 : (q.length : Int) ≤ (c1 : Int) := by omega
          have hq40 : Aside0 ((rd_L4 l0 (i : Int)).take 40 = q) := ⟨by
            rw [hqe]
            have e40 : ((40 : Nat) : Int) = 40 := rfl
            by_cases c : (rd_L4 l0 (i : Int)).length ≤ 40
            · rw [List.take_of_length_le c, List.take_of_length_le (by unfold mn; omega)]
            · congr 1; unfold mn; omega⟩
          clear hqe hqm m1 m2 hqmn
          obtain ⟨i24, hi24, jz0, jz1, jz2⟩ := info_parts info24_
          go_upto_region 6 with (fail)
          refine start_ (S := fun w' => w'.cell? (ad.add i) = some (.slice A1 (rd_L4 l0 (i : Int)).length c1)) (ds := []) #[false, false, false, false, false, false, false, false, false, false, false, false, false, false, false] (by kernel_rfl) rfl rfl hx0' ?_
          intro hHeld
          have hD : Below wr.heap.size wr wr.drew := below_drew1 (Below.refl _ _)
          have hLd := LRow.below hL hD
          have hBd := below_step hB hD
          have hcW : ∀ X, Below w.heap.size w X → X.cell? (ad.add i) = some (.slice A1 (rd_L4 l0 (i : Int)).length c1) := fun X hX => (hX.cell (World.block_lt_of_cell? _ _ hx0)).trans hx0
          generalize wr.drew = Wd at hD hLd hBd hHeld ⊢
          --REG
          refine pure_ (i := 0) (N := some 26) (v := ?_) (a' := ?_) #[true, false, false, false, false, false, false, false, false, false, false, false, false, false, false] rfl rfl (by kernel_rfl) (fun _ _ _ h => h) (Or.inl ⟨by rfl, ?_⟩) ?_ ?_
          rotate_left
          · intro w'
            go_simp
            with_reducible rfl
          rotate_left
          · simp only [Act.put, List.setIfInBounds_toArray, List.set_cons_zero, List.set_cons_succ, i64_w, i32_w]
            rfl
          refine pure_ (i := 1) (N := some 27) (v := ?_) (a' := ?_) #[true, true, false, false, false, false, false, false, false, false, false, false, false, false, false] rfl rfl (by kernel_rfl) (fun _ _ _ h => h) (Or.inl ⟨by rfl, ?_⟩) ?_ ?_
          rotate_left
          · intro w'
            go_simp
            with_reducible rfl
          rotate_left
          · simp only [Act.put, List.setIfInBounds_toArray, List.set_cons_zero, List.set_cons_succ, i64_w, i32_w]
            rfl
          refine pure_ (i := 2) (N := some 28) (v := ?_) (a' := ?_) #[true, true, true, false, false, false, false, false, false, false, false, false, false, false, false] rfl rfl (by kernel_rfl) (fun _ _ _ h => h) (Or.inl ⟨by rfl, ?_⟩) ?_ ?_
          rotate_left
          · intro w'
            go_simp
            with_reducible rfl
          rotate_left
          · simp only [Act.put, List.setIfInBounds_toArray, List.set_cons_zero, List.set_cons_succ, i64_w, i32_w]
            rfl
          refine pure_ (i := 3) (N := some 29) (v := ?_) (a' := ?_) #[true, true, true, true, false, false, false, false, false, false, false, false, false, false, false] rfl rfl (by kernel_rfl) (fun _ _ _ h => h) (Or.inl ⟨by rfl, ?_⟩) ?_ ?_
          rotate_left
          · intro w'
            go_simp
            with_reducible rfl
          rotate_left
          · simp only [Act.put, List.setIfInBounds_toArray, List.set_cons_zero, List.set_cons_succ, i64_w, i32_w]
            rfl
          refine take_ (i := 4) (N := some 30) (v := ?_) (a' := ?_) #[true, true, true, true, true, false, false, false, false, false, false, false, false, false, false] rfl rfl (by kernel_rfl) (fun _ _ _ h => h) (Or.inl ⟨by rfl, ?_⟩) hHeld ?_ ?_
          rotate_left
          · rintro w' s0
            go_simp
            with_reducible rfl
          rotate_left
          · simp only [Act.put, List.setIfInBounds_toArray, List.set_cons_zero, List.set_cons_succ, i64_w, i32_w]
            rfl
          refine pure_ (i := 5) (N := some 31) (v := ?_) (a' := ?_) #[true, true, true, true, true, true, false, false, false, false, false, false, false, false, false] rfl rfl (by kernel_rfl) (fun _ _ _ h => h) (Or.inl ⟨by rfl, ?_⟩) ?_ ?_
          rotate_left
          · intro w'
            go_simp
            with_reducible rfl
          rotate_left
          · simp only [Act.put, List.setIfInBounds_toArray, List.set_cons_zero, List.set_cons_succ, i64_w, i32_w]
            rfl
          refine pure_ (i := 6) (N := some 32) (v := ?_) (a' := ?_) #[true, true, true, true, true, true, true, false, false, false, false, false, false, false, false] rfl rfl (by kernel_rfl) (fun _ _ _ h => h) (Or.inl ⟨by rfl, ?_⟩) ?_ ?_
          rotate_left
          · intro w'
            go_simp
            with_reducible rfl
          rotate_left
          · simp only [Act.put, List.setIfInBounds_toArray, List.set_cons_zero, List.set_cons_succ, i64_w, i32_w]
            rfl
          refine pure_ (i := 7) (N := some 33) (v := ?_) (a' := ?_) #[true, true, true, true, true, true, true, true, false, false, false, false, false, false, false] rfl rfl (by kernel_rfl) (fun _ _ _ h => h) (Or.inl ⟨by rfl, ?_⟩) ?_ ?_
          rotate_left
          · intro w'
            go_simp
            with_reducible rfl
          rotate_left
          · simp only [Act.put, List.setIfInBounds_toArray, List.set_cons_zero, List.set_cons_succ, i64_w, i32_w]
            rfl
          refine take_ (i := 8) (N := some 34) (v := ?_) (a' := ?_) #[true, true, true, true, true, true, true, true, true, false, false, false, false, false, false] rfl rfl (by kernel_rfl) (fun _ _ _ h => h) (Or.inl ⟨by rfl, ?_⟩) hHeld ?_ ?_
          rotate_left
          · rintro w' s0
            go_simp
            with_reducible rfl
          rotate_left
          · simp only [Act.put, List.setIfInBounds_toArray, List.set_cons_zero, List.set_cons_succ, i64_w, i32_w]
            rfl
          refine pure_ (i := 9) (N := some 35) (v := ?_) (a' := ?_) #[true, true, true, true, true, true, true, true, true, true, false, false, false, false, false] rfl rfl (by kernel_rfl) (fun _ _ _ h => h) (Or.inl ⟨by rfl, ?_⟩) ?_ ?_
          rotate_left
          · intro w'
            go_simp
            with_reducible rfl
          rotate_left
          · simp only [Act.put, List.setIfInBounds_toArray, List.set_cons_zero, List.set_cons_succ, i64_w, i32_w]
            rfl
          refine pure_ (i := 10) (N := some 36) (v := ?_) (a' := ?_) #[true, true, true, true, true, true, true, true, true, true, true, false, false, false, false] rfl rfl (by kernel_rfl) (fun _ _ _ h => h) (Or.inl ⟨by rfl, ?_⟩) ?_ ?_
          rotate_left
          · intro w'
            go_simp
            with_reducible rfl
          rotate_left
          · simp only [Act.put, List.setIfInBounds_toArray, List.set_cons_zero, List.set_cons_succ, i64_w, i32_w]
            rfl
          refine pure_ (i := 11) (N := some 37) (v := ?_) (a' := ?_) #[true, true, true, true, true, true, true, true, true, true, true, true, false, false, false] rfl rfl (by kernel_rfl) (fun _ _ _ h => h) (Or.inl ⟨by rfl, ?_⟩) ?_ ?_
          rotate_left
          · intro w'
            go_simp
            with_reducible rfl
          rotate_left
          · simp only [Act.put, List.setIfInBounds_toArray, List.set_cons_zero, List.set_cons_succ, i64_w, i32_w]
            rfl
          refine one_ (i := 12) (N := some 38) #[true, true, true, true, true, true, true, true, true, true, true, true, true, false, false] rfl rfl (by kernel_rfl) (by decide) (fun K hK => ?_)
          refine value_ (w1 := ?_) (v := ?_) (by rfl) rfl ?_ ?_
          rotate_left 2
          · go_simp
            first | (constructor <;> rfl) | rfl
          have hBd8 := hBd.alloc hBd.size (.cells #[.slice A1 q.length c1] 24)
          refine hK.out _ _ (hcW _ hBd8) (fun hHeld => ?_)
          clear hK K
          refine norm_ (a' := ?_) ?_ ?_
          rotate_left
          · show Act.put _ (some 38) _ = _
            simp only [Act.put, List.setIfInBounds_toArray, List.set_cons_zero, List.set_cons_succ, i64_w, i32_w]
            rfl
          obtain ⟨v9, w9, hrun, ho9, hg9, _⟩ := run_append_own (P := Try.prog) (Wd.alloc (.cells #[.slice A1 q.length c1] 24)) w.heap.size 22 22 24 i24 _ 1 24 Try.underlying22 hi24 jz0 jz1 jz2 rfl (by decide) u4 xs.length (xs.flatMap sC) (LRow.below hLd (below_alloc (Below.refl _ _) _)) ⟨Wd.heap.size, 0, none⟩ 1 1 [.slice A1 q.length c1] rfl (cell_one_new _ _ _) (by simp [Value.oneCell']) (by unfold maxLen; omega) (by omega) (by rw [World.size_alloc]; exact Nat.le_trans hBd.size (Nat.le_succ _))
          refine one_ (i := 13) (N := some 39) #[true, true, true, true, true, true, true, true, true, true, true, true, true, true, false] rfl rfl (by kernel_rfl) (by decide) (fun K hK => ?_)
          refine value_append (.tmp 26) (.tmp 38) 22 u4 (.slice (some ⟨Wd.heap.size, 0, none⟩) 1 1) rfl (by rfl) rfl rfl rfl hrun ?_
          have hB9 : Below w.heap.size Wd w9 := ((Below.refl w.heap.size Wd).alloc hBd.size _).grown hg9 (by rw [World.size_alloc]; exact Nat.le_trans hBd.size (Nat.le_succ _)) (fun k hk => LRow.base_le hLd hk)
          refine hK.out _ _ (hcW _ (hBd.trans hB9)) (fun hHeld => ?_)
          clear hK K
          refine norm_ (a' := ?_) ?_ ?_
          rotate_left
          · show Act.put _ (some 39) _ = _
            simp only [Act.put, List.setIfInBounds_toArray, List.set_cons_zero, List.set_cons_succ, i64_w, i32_w]
            rfl
          refine pure_ (i := 14) (N := some 4) (v := ?_) (a' := ?_) #[true, true, true, true, true, true, true, true, true, true, true, true, true, true, true] rfl rfl (by kernel_rfl) (fun _ _ _ h => h) (Or.inl ⟨by rfl, ?_⟩) ?_ ?_
          rotate_left
          · intro w'
            go_simp
            with_reducible rfl
          rotate_left
          · simp only [Act.put, List.setIfInBounds_toArray, List.set_cons_zero, List.set_cons_succ, i64_w, i32_w]
            rfl
          refine done_ (by kernel_rfl) ?_
          --END
          have hL9 : LRow w9 w.heap.size v9 (xs ++ [(⟨A1, c1, q, hqr, hqc⟩ : KG w)]) := by
            unfold LRow
            rw [List.length_append, List.flatMap_append]
            simpa [sC] using ho9
          have hxs9 : (xs ++ [(⟨A1, c1, q, hqr, hqc⟩ : KG w)]).map (·.l) = ownL l0 (i + 1) 40 := by
            rw [List.map_append, hxs]
            unfold ownL
            rw [List.take_succ_eq_append_getElem hlt, List.map_append, List.map_singleton, List.map_singleton]
            show _ ++ [q] = _ ++ [List.take 40 l0[i]]
            rw [← hq40.out, rdL_getE hlt]
          have hB10 := hBd.trans hB9
          clear ho9 hrun hg9 hLd
          go_wp2
          go_roundg (8 - (i + 1))
          case measure => omega
          case rel => exact ⟨i + 1, _, hlt, by omega, Nat.le_refl _, by go_num, hL9, hxs9, hB10⟩
        · have h8 : decide ((i : Int) < 8) = false := decide_eq_false (by omega)
          go_wp2
          go_meet
          case rel => exact ⟨xs, hL, by rw [hxs]; unfold ownL; rw [show i = 8 by omega], hB⟩
      · have hltz : ¬ (i : Int) < (l0.length : Int) := by omega
        go_wp2
        go_meet
        case rel => exact ⟨xs, hL, by rw [hxs]; unfold ownL; rw [List.take_of_length_le (by omega), List.take_of_length_le (by omega)], hB⟩
  case rest =>
    obtain ⟨xs, hL, hxs, hB⟩ := hcut
    obtain ⟨Ao, co, rfl, hco, hCr⟩ := LRow.reads hL hB
    have hCl : xs.length = (ownL l0 8 40).length := by rw [← hxs, List.length_map]
    rw [hxs, hCl] at hCr
    rw [hCl] at hco
    rw [hCl]
    have hC8 : (ownL l0 8 40).length ≤ 8 := by unfold ownL; rw [List.length_map, List.length_take]; omega
    have hC40 : ∀ l ∈ ownL l0 8 40, l.length ≤ 40 := by
      intro l hl
      unfold ownL at hl
      obtain ⟨q, _, rfl⟩ := List.mem_map.1 hl
      rw [List.length_take]; omega
    clear hL hxs hCl
    generalize ownL l0 8 40 = C at hCr hco hC8 hC40 ⊢
    have hmv := merge_val C (by omega) (fun l hl => by have := hC40 l hl; omega)
    cases hs : C.all sortedB with
    | false =>
      rw [hs, if_neg (by decide)] at hmv
      have hmc := merge_Merge.calls Ao co C [] (some 1) wc hCr hco hmv
      simp only [errW_some] at hmc
      go_wp2_with (go_at_call 12; refine hmc.mono ?_; rintro e w2 ⟨v2, rfl, hR2, hb2⟩; obtain ⟨A2, c2, rfl⟩ := Kd.R_slice hR2)
      go_ret
      exact ⟨rfl, below_step hB hb2⟩
    | true =>
      rw [hs, if_pos rfl] at hmv
      have hmc := merge_Merge.calls Ao co C (mergeR C) none wc hCr hco hmv
      simp only [errW_none] at hmc
      go_upto_region 10 with (go_at_call 12; refine hmc.mono ?_; rintro e w2 ⟨v2, rfl, hR2, hb2⟩; obtain ⟨A2, c2, rfl, hc2, hCL⟩ := Kd.R_reads hR2)
      obtain ⟨hLs, hLm⟩ := mergeR_spec C (allSorted_of hs)
      have hCs := List.all_eq_true.1 hs
      have hLin : ∀ x ∈ mergeR C, x ∈ C.flatten := fun x hx => (List.mem_filter.1 (List.mem_of_mem_head? ((hLm x).1 hx))).1
      have hLr : sortedB (mergeR C) = true := by
        refine (sorted_iff _).2 ⟨fun x hx => ?_, hLs⟩
        obtain ⟨l, hl, hxl⟩ := List.mem_flatten.1 (hLin x hx)
        exact ((sorted_iff l).1 (hCs l hl)).1 x hxl
      have hLc : ∀ x ∈ C.flatten, ∃ j, j < (mergeR C).length ∧ Same (gt (mergeR C) j) x := by
        intro x hx
        cases hf : C.flatten.filter (sameB x) with
        | nil =>
          have : x ∈ C.flatten.filter (sameB x) := List.mem_filter.2 ⟨hx, same_iff.2 (Same.refl x)⟩
          rw [hf] at this; cases this
        | cons z zs =>
          have hz : z ∈ C.flatten.filter (sameB x) := by rw [hf]; exact List.mem_cons_self
          have hzs := same_iff.1 (List.mem_filter.1 hz).2
          have hfun : C.flatten.filter (sameB z) = C.flatten.filter (sameB x) := by
            apply List.filter_congr
            intro u _
            rw [Bool.eq_iff_iff, same_iff, same_iff]
            exact ⟨fun k => hzs.trans k, fun k => hzs.symm.trans k⟩
          have hzL : z ∈ mergeR C := (hLm z).2 (by rw [hfun, hf]; rfl)
          obtain ⟨j, hj, hjz⟩ := List.mem_iff_getElem.1 hzL
          exact ⟨j, hj, by rw [gt_get hj, hjz]; exact hzs.symm⟩
      have hLn : (mergeR C).length ≤ 1000000 := by
        have h1 := mergeStep_fold (mergedF C (restF C (List.replicate C.length 0) + 1) (List.replicate C.length 0)) []
        have h2 := merged_len C (restF C (List.replicate C.length 0) + 1) (List.replicate C.length 0)
        have h3 := rest_le C (List.replicate C.length 0) (fun l hl => by have := hC40 l hl; omega)
        unfold mergeR
        simp only [List.length_nil] at h1
        omega
      have hsk := sorted_k (mergeR C) hLn
      rw [hLr] at hsk
      clear hmv hmc hLs hLm hLr hr0 hc0 hex
      generalize mergeR C = L at hCL hc2 hLin hLc hLn hsk ⊢
      have hmk : ∀ W : World, (Instr.makeSlice 42 (.int .i64 (L.length : Int)) (.int .i64 (L.length : Int))).run Try.prog W = .ok (.slice (some ⟨W.heap.size, 0, none⟩) L.length L.length) (W.alloc (.cells ((List.replicate L.length false).map (fun b : Bool => Value.bool b)).toArray 4)) := fun W => by
        have hin : (Go.Proofs.Try.prog.info? 4).map (fun i => (i.zero, i.size, i.bytes)) = some (some (.bool false), 1, 1) := by kernel_rfl
        obtain ⟨i1, hi1, hzz⟩ := Option.map_eq_some_iff.1 hin
        simp only [Prod.mk.injEq] at hzz
        obtain ⟨jz0, jz1, jz2⟩ := hzz
        have hr := run_make (P := Try.prog) W 42 4 i1 (.bool false) Try.underlying42 hi1 jz0 .i64 .i64 (L.length : Int) (L.length : Int) (by omega) (by omega) (by rw [jz2]; omega) (by omega)
        rw [jz1, Nat.mul_one, Int.toNat_natCast, made_repB] at hr
        exact hr
      go_upto_region 11 with (fail)
      obtain ⟨mb, hmb⟩ : ∃ mb, w2.heap.size = mb := ⟨_, rfl⟩
      have hsz2 : wc.heap.size ≤ mb := by rw [← hmb]; exact hb2.size
      refine wpW (fun X => NRow X mb (List.replicate L.length false) ∧ Below mb w2 X) ⟨by rw [← hmb]; refine (heap_alloc_new w2 _).trans ?_; congr 2; simp, by rw [← hmb]; exact (Below.refl _ w2).alloc (Nat.le_refl _) _⟩ ?_
      rintro X ⟨hN0, hBX⟩
      rw [hmb]
      have hb0 : (List.replicate L.length false).length = L.length := List.length_replicate
      generalize List.replicate L.length false = bs0 at hN0 hb0
      have hBw : Below w.heap.size w w2 := below_step hB hb2
      clear hmk
      go_wp2
      go_loopg [9] C.length (fun gg v9 Wi => ∃ (i : Nat) (bs : List Bool), i ≤ C.length ∧ C.length - i ≤ gg ∧ v9 = .int .i64 i ∧ bs.length = L.length ∧ Marked L bs (C.take i).flatten ∧ NRow Wi mb bs ∧ Below mb w2 Wi)
      case atStart => exact ⟨0, bs0, Nat.zero_le _, Nat.le_refl _, rfl, hb0, (fun x hx => by simp at hx), hN0, hBX⟩
      case round =>
        clear hN0 hBX hb0
        obtain ⟨i, bs, hil, hig, rfl, hbl, hM, hNR, hBi⟩ := hrel
        by_cases hlt : i < C.length
        · have hltz : (i : Int) < (C.length : Int) := by omega
          obtain ⟨ad, A1, c1, hA, hx0, hx1, hx2⟩ := at_L4 hCr (i : Int) (by omega) hltz
          subst hA
          rw [Int.toNat_natCast] at hx0
          have hcW : ∀ Y, Below mb w2 Y → Y.cell? (ad.add i) = some (.slice A1 (rd_L4 C (i : Int)).length c1) := fun Y hY => (hY.cell (Nat.lt_of_lt_of_le (World.block_lt_of_cell? _ _ hx0) hsz2)).trans ((hb2.cell (World.block_lt_of_cell? _ _ hx0)).trans hx0)
          have hqW : ∀ Y, Below mb w2 Y → Kd.C k34 Y A1 (rd_L4 C (i : Int)).length (rd_L4 C (i : Int)) := fun Y hY => Kd.C_below (Kd.C_below hx2 hb2) (by rw [hmb]; exact hY)
          have hLW : ∀ Y, Below mb w2 Y → Kd.C k34 Y A2 L.length L := fun Y hY => Kd.C_below hCL (by rw [hmb]; exact hY)
          have hqe : rd_L4 C (i : Int) = C[i] := rdL_getE hlt
          generalize rd_L4 C (i : Int) = q at hx0 hx1 hx2 hcW hqW hqe
          have hqC : ∀ x ∈ q, x ∈ C.flatten := fun x hx => List.mem_flatten.2 ⟨C[i], List.getElem_mem _, by rw [← hqe]; exact hx⟩
          have hq40 : q.length ≤ 40 := by rw [hqe]; exact hC40 _ (List.getElem_mem _)
          have hqn : (C.take (i + 1)).flatten = (C.take i).flatten ++ q := by rw [List.take_succ_eq_append_getElem hlt, List.flatten_append, ← hqe]; simp
          clear hqe hx0 hx2
          go_wp2
          go_loopg [10] q.length (fun gg v10 Wi => ∃ (k : Nat) (bs : List Bool), k ≤ q.length ∧ q.length - k ≤ gg ∧ v10 = .int .i64 k ∧ bs.length = L.length ∧ Marked L bs ((C.take i).flatten ++ q.take k) ∧ NRow Wi mb bs ∧ Below mb w2 Wi)
          case atStart => exact ⟨0, bs, Nat.zero_le _, Nat.le_refl _, rfl, hbl, by simpa using hM, hNR, hBi⟩
          case round =>
            clear hNR hBi hM hbl
            obtain ⟨k, bs, hkl, hkg, rfl, hbl, hM, hNR, hBi⟩ := hrel
            have hc := hcW _ hBi
            by_cases hkt : k < q.length
            · have hkz : (k : Int) < (q.length : Int) := by omega
              obtain ⟨ad1, hA1, hy0, hy1, hy2, hy3⟩ := at_T34 (hqW _ hBi) (k : Int) (by omega) hkz
              subst hA1
              rw [Int.toNat_natCast] at hy0 hy1 hy2 hy3
              have hxe : rd_T34 q (k : Int) = q[k] := by unfold rd_T34; rw [Int.toNat_natCast, List.getD_eq_getElem?_getD, List.getElem?_eq_getElem hkt]; rfl
              have hqk : (C.take i).flatten ++ q.take (k + 1) = ((C.take i).flatten ++ q.take k) ++ [q[k]] := by rw [List.take_succ_eq_append_getElem hkt, List.append_assoc]
              rw [hxe] at hy0 hy1 hy2 hy3
              have hxC : q[k] ∈ C.flatten := hqC _ (List.getElem_mem _)
              generalize q[k] = x at hy0 hy1 hy2 hy3 hqk hxC
              clear hxe
              go_upto_region 18 with (fail)
              obtain ⟨g, hg⟩ : ∃ g, wr.heap.size = g := ⟨_, rfl⟩
              refine wpW (fun Y => Y.heap[g]? = some (.cells #[.string x.f0, .int .i64 x.f1, .bool x.f2, .string x.f3] 34 (0, 0)) ∧ Below mb w2 Y ∧ NRow Y mb bs) ⟨by rw [← hg]; exact heap_alloc_new wr _, hBi.alloc (by rw [← hmb]; exact hBi.size) _, NRow.below hNR ((Below.refl _ wr).alloc (Nat.le_refl _) _)⟩ ?_
              have hgm : mb < g := by rw [← hg]; exact (Array.getElem?_eq_some_iff.1 hNR).1
              clear hc hy0 hy1 hy2 hy3 hNR hBi
              rintro Y ⟨hgY, hBY, hNY⟩
              rw [hg]
              clear hg
              go_wp2
              go_loopg [12, 13] L.length (fun gg v12 v13 Wi => ∃ (n : Nat) (b : Bool) (bs : List Bool), n ≤ L.length ∧ L.length - n ≤ gg ∧ v12 = .bool b ∧ v13 = .int .i64 n ∧ bs.length = L.length ∧ Marked L bs ((C.take i).flatten ++ q.take k) ∧ (∀ j, j < n → Same (gt L j) x → bs.getD j false = true ∧ b = true) ∧ NRow Wi mb bs ∧ Below mb w2 Wi ∧ Wi.heap[g]? = some (.cells #[.string x.f0, .int .i64 x.f1, .bool x.f2, .string x.f3] 34 (0, 0)))
              case atStart => exact ⟨0, false, bs, Nat.zero_le _, Nat.le_refl _, rfl, rfl, hbl, hM, (fun j hj => absurd hj (Nat.not_lt_zero _)), hNY, hBY, hgY⟩
              case round =>
                clear hNY hBY hgY hM hbl
                obtain ⟨n, b, bs, hnl, hng, rfl, rfl, hbl, hM, hB1, hNR, hBi, hgi⟩ := hrel
                by_cases hnt : n < L.length
                · have hnz : (n : Int) < (L.length : Int) := by omega
                  obtain ⟨ad2, hA2, hz0, hz1, hz2, hz3⟩ := at_T34 (hLW _ hBi) (n : Int) (by omega) hnz
                  subst hA2
                  rw [Int.toNat_natCast] at hz0 hz1 hz2 hz3
                  have hye : rd_T34 L (n : Int) = gt L n := by unfold rd_T34 gt; rw [Int.toNat_natCast]
                  rw [hye] at hz0 hz1 hz2 hz3
                  have hstep : ∀ (b' : Bool) (bs' : List Bool), (Same (gt L n) x → bs'.getD n false = true ∧ b' = true) → (∀ j, j < n → bs.getD j false = true → bs'.getD j false = true) → (b = true → b' = true) → ∀ j, j < n + 1 → Same (gt L j) x → bs'.getD j false = true ∧ b' = true := by
                    intro b' bs' h1 h2 h3 j hj hs
                    by_cases e : j = n
                    · subst e; exact h1 hs
                    · have := hB1 j (by omega) hs
                      exact ⟨h2 j (by omega) this.1, h3 this.2⟩
                  generalize hyg : gt L n = y at hz0 hz1 hz2 hz3 hstep
                  obtain ⟨⟨ec0, ec1, ec2, ec3⟩, _⟩ := Zk4 (Aside0.mk hgi)
                  clear hye
                  go_upto_region 22 with (fail)
                  by_cases c1 : y.f0.toList = x.f0.toList
                  · have c1b : (y.f0.toList == x.f0.toList) = true := beq_iff_eq.mpr c1
                    by_cases c2 : y.f1 = x.f1
                    · have c2b : (y.f1 == x.f1) = true := beq_iff_eq.mpr c2
                      clear c1 c2
                      refine wp_region_quiet_lit (by kernel_rfl) (by kernel_rfl) ?_
                      repeat (go_big_quiet_step (fail))
                      refine wpQuiet_nil ?_
                      rintro w4 ⟨nq, hw4⟩
                      have hNR4 : NRow w4 mb bs := hw4 ▸ hNR
                      have hB4 : Below mb w2 w4 := hw4 ▸ pw_below_drewN hBi nq
                      have hgi4 : w4.heap[g]? = some (.cells #[.string x.f0, .int .i64 x.f1, .bool x.f2, .string x.f3] 34 (0, 0)) := by rw [hw4]; exact hgi
                      clear hw4 hNR hBi hgi ec0 ec1 ec2 ec3 hz0 hz1 hz2 hz3
                      obtain ⟨nc, nf⟩ := hNR4.cell n (by omega)
                      have hbl2 : (bs.set n true).length = L.length := by rw [List.length_set]; exact hbl
                      have hmono : ∀ j, bs.getD j false = true → (bs.set n true).getD j false = true := by
                        intro j hj
                        rw [List.getD_eq_getElem?_getD, List.getElem?_set]
                        split
                        · split
                          · rfl
                          · rw [List.getD_eq_getElem?_getD, List.getElem?_eq_none (by omega)] at hj; cases hj
                        · rw [← List.getD_eq_getElem?_getD]; exact hj
                      have hnset : (bs.set n true).getD n false = true := by rw [List.getD_eq_getElem?_getD, List.getElem?_set, if_pos rfl, if_pos (by omega)]; rfl
                      have hg5 : ∀ v, (w4.setCell ⟨mb, n, none⟩ v).heap[g]? = some (.cells #[.string x.f0, .int .i64 x.f1, .bool x.f2, .string x.f3] 34 (0, 0)) := fun v => (Below.heap_setCell w4 ⟨mb, n, none⟩ v g (by show g ≠ mb; omega)).trans hgi4
                      go_wp2
                      go_roundg (L.length - (n + 1))
                      case measure => omega
                      case rel => exact ⟨n + 1, true, bs.set n true, hnt, Nat.le_refl _, rfl, by go_num, hbl2, (fun z hz j hj hzj => hmono j (hM z hz j hj hzj)), hstep true (bs.set n true) (fun _ => ⟨hnset, rfl⟩) (fun j _ h => hmono j h) (fun _ => rfl), hNR4.set n true, hB4.setCell (p := ⟨mb, n, none⟩) (Nat.le_refl _) _, hg5 _⟩
                    · have c2b : (y.f1 == x.f1) = false := beq_eq_false_iff_ne.mpr c2
                      have hns : ¬ Same y x := fun h => c2 h.2
                      clear c1 c2
                      refine wp_region_quiet_lit (by kernel_rfl) (by kernel_rfl) ?_
                      repeat (go_big_quiet_step (fail))
                      refine wpQuiet_nil ?_
                      rintro w4 ⟨nq, hw4⟩
                      have hNR4 : NRow w4 mb bs := hw4 ▸ hNR
                      have hB4 : Below mb w2 w4 := hw4 ▸ pw_below_drewN hBi nq
                      have hgi4 : w4.heap[g]? = some (.cells #[.string x.f0, .int .i64 x.f1, .bool x.f2, .string x.f3] 34 (0, 0)) := by rw [hw4]; exact hgi
                      clear hw4 hNR hBi hgi ec0 ec1 ec2 ec3 hz0 hz1 hz2 hz3
                      go_wp2
                      go_roundg (L.length - (n + 1))
                      case measure => omega
                      case rel => exact ⟨n + 1, b, bs, hnt, Nat.le_refl _, rfl, by go_num, hbl, hM, hstep b bs (fun h => absurd h hns) (fun _ _ h => h) (fun h => h), hNR4, hB4, hgi4⟩
                  · have c1b : (y.f0.toList == x.f0.toList) = false := beq_eq_false_iff_ne.mpr c1
                    have hns : ¬ Same y x := fun h => c1 (by rw [h.1])
                    clear c1
                    refine wp_region_quiet_lit (by kernel_rfl) (by kernel_rfl) ?_
                    repeat (go_big_quiet_step (fail))
                    refine wpQuiet_nil ?_
                    rintro w4 ⟨nq, hw4⟩
                    have hNR4 : NRow w4 mb bs := hw4 ▸ hNR
                    have hB4 : Below mb w2 w4 := hw4 ▸ pw_below_drewN hBi nq
                    have hgi4 : w4.heap[g]? = some (.cells #[.string x.f0, .int .i64 x.f1, .bool x.f2, .string x.f3] 34 (0, 0)) := by rw [hw4]; exact hgi
                    clear hw4 hNR hBi hgi ec0 ec1 ec2 ec3 hz0 hz1 hz2 hz3
                    go_wp2
                    go_roundg (L.length - (n + 1))
                    case measure => omega
                    case rel => exact ⟨n + 1, b, bs, hnt, Nat.le_refl _, rfl, by go_num, hbl, hM, hstep b bs (fun h => absurd h hns) (fun _ _ h => h) (fun h => h), hNR4, hB4, hgi4⟩
                · have hnz : ¬ (n : Int) < (L.length : Int) := by omega
                  obtain ⟨j, hj, hjx⟩ := hLc x hxC
                  obtain ⟨_, rfl⟩ := hB1 j (by omega) hjx
                  go_wp2
                  go_roundg (q.length - (k + 1))
                  case measure => omega
                  case rel => exact ⟨k + 1, bs, hkt, Nat.le_refl _, by go_num, hbl, by rw [hqk]; intro z hz j hj hzj; rcases List.mem_append.1 hz with h | h; exact hM z h j hj hzj; obtain rfl := List.mem_singleton.1 h; exact (hB1 j (by omega) hzj).1, hNR, hBi⟩
            · have hkz : ¬ (k : Int) < (q.length : Int) := by omega
              have hqf : q.take k = q := List.take_of_length_le (by omega)
              go_wp2
              go_roundg (C.length - (i + 1))
              case measure => omega
              case rel => exact ⟨i + 1, bs, hlt, Nat.le_refl _, by go_num, hbl, by rw [hqn, ← hqf]; exact hM, hNR, hBi⟩
        · have hltz : ¬ (i : Int) < (C.length : Int) := by omega
          rw [List.take_of_length_le (by omega)] at hM
          go_wp2
          go_loopg [14] L.length (fun gg v14 Wi => ∃ (n : Nat), n ≤ L.length ∧ L.length - n ≤ gg ∧ v14 = .int .i64 n ∧ Wi = wr)
          case atStart => exact ⟨0, Nat.zero_le _, Nat.le_refl _, rfl, rfl⟩
          case round =>
            obtain ⟨n, hnl, hng, rfl, rfl⟩ := hrel
            by_cases hnt : n < L.length
            · have hnz : (n : Int) < (L.length : Int) := by omega
              obtain ⟨nc, nf⟩ := hNR.cell n (by omega)
              have hmn : bs.getD n false = true := hM (gt L n) (hLin _ (by rw [gt_get hnt]; exact List.getElem_mem _)) n hnt (Same.refl _)
              rw [hmn] at nc
              go_wp2
              go_roundg (L.length - (n + 1))
              case measure => omega
              case rel => exact ⟨n + 1, hnt, Nat.le_refl _, by go_num, rfl⟩
            · have hnz : ¬ (n : Int) < (L.length : Int) := by omega
              have hbS := block_Sorted.calls kBig A2 c2 L true wr (Kd.C_below hCL (by rw [hmb]; exact hBi)) hc2 hsk
              go_wp2_with (go_at_call 19; refine hbS.mono ?_; rintro e w6 ⟨rfl, hb6⟩)
              go_ret
              exact ⟨rfl, below_step (below_step hBw (by rw [hmb]; exact hBi)) hb6⟩
end Go.Proofs.Yteljlfodjbgejaa.Pure
