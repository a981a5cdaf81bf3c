/- Lists that share no key and number may be merged in any order, and one by one (at most 6 lists of at most 30 entries): for all arguments that the row lets in. -/
import Derived.Test.YteljlfodjbgejaaPureMergeAll
import Derived.Test.YteljlfodjbgejaaMergeTurn
import Derived.Test.YteljlfodjbgejaaPrint9
namespace Go.Proofs.Yteljlfodjbgejaa.Pure
open Go.RowKit Go.Shelf Go.Proofs.Yteljlfodjbgejaa.Print Go.Proofs.YteljlfodjbgejaaX Go.Proofs.YteljlfodjbgejaaW.PrintWords Go.Proofs.YteljlfodjbgejaaW.PrintLast
set_option linter.unusedVariables false
set_option linter.unusedSimpArgs false

/-- A literal of two lists. -/
theorem two_lists {W : World} {A B : Option Addr} {c q : List Ent} {ca cb : Nat} (hA : Kd.C k34 W A c.length c) (ha : c.length ≤ ca) (hB : Kd.C k34 W B q.length q) (hb : q.length ≤ cb) :
    Kd.C (Kd.slice 34 k34) (W.alloc (.cells #[.slice A c.length ca, .slice B q.length cb] 24)) (some ⟨W.heap.size, 0, none⟩) 2 [c, q] := by
  have hD : Below W.heap.size W (W.alloc (.cells #[.slice A c.length ca, .slice B q.length cb] 24)) := (Below.refl _ W).alloc (Nat.le_refl _) _
  have hg := heap_alloc_new W (.cells #[.slice A c.length ca, .slice B q.length cb] 24)
  refine ⟨rfl, by decide, fun _ => ⟨⟨W.heap.size, 0, none⟩, rfl, fun j p hp => ?_⟩⟩
  match j, hp with
  | 0, hp =>
    cases hp
    refine ⟨[.slice A c.length ca], rfl, ⟨A, ca, rfl, ha, Kd.C_below hA hD⟩, fun i u hu => ?_⟩
    match i, hu with
    | 0, hu => cases hu; rw [add_z, cell_of_row _ _ _ _ _ _ hg]; rfl
    | i + 1, hu => simp at hu
  | 1, hp =>
    cases hp
    refine ⟨[.slice B q.length cb], rfl, ⟨B, cb, rfl, hb, Kd.C_below hB hD⟩, fun i u hu => ?_⟩
    match i, hu with
    | 0, hu => cases hu; rw [add_z, cell_of_row _ _ _ _ _ _ hg]; rfl
    | i + 1, hu => simp at hu
  | j + 2, hp => simp at hp
theorem ownL_len (l0 : List (List Ent)) (n m : Nat) : (ownL l0 n m).flatten.length ≤ m * n := by
  unfold ownL
  induction n generalizing l0 with
  | zero => simp
  | succ n ih =>
    cases l0 with
    | nil => simp
    | cons l l0 =>
      rw [List.take_succ_cons, List.map_cons, List.flatten_cons, List.length_append, List.length_take, Nat.mul_succ]
      have := ih l0
      omega
set_option maxHeartbeats 4000000 in
set_option maxRecDepth 100000 in
theorem mergeTurnedWalk (A0 : Option Addr) (c0 : Nat) (l0 : List (List Ent)) (w : World) (hr0 : Kd.C (Kd.slice 34 k34) w A0 l0.length l0) (hc0 : l0.length ≤ c0) (hlen : l0.length ≤ 1000000000000000) :
    Calls Try.prog 9 #[.slice A0 l0.length c0] w fun e w' => e = .returned (.bool true) ∧ Below w.heap.size w w' := by
  have hu := Try.underlying34
  have hex := palinodelaw15_examples.calls true w examples_val
  go_enter Try.func9, Try.ntmps9
  go_upto_block 0 with (go_at_call 10; refine hex.mono ?_; rintro e w1 ⟨rfl, hb1⟩)
  go_cut [4, 6] (fun v4 v6 wc => ∃ (xs : List (KG w)) (m : Nat), LRow wc w.heap.size v4 xs ∧ xs.map (·.l) = ownL l0 6 30 ∧ v6 = .int .i64 m ∧ m = (ownL l0 6 30).flatten.length ∧ Below w.heap.size w wc)
  case first =>
    go_wp2
    go_loopg [4, 6, 7] 6 (fun gg v4 v6 v7 wr => ∃ (i : Nat) (xs : List (KG w)) (m : Nat), i ≤ l0.length ∧ i ≤ 6 ∧ 6 - i ≤ gg ∧ v7 = .int .i64 i ∧ v6 = .int .i64 m ∧ m = (ownL l0 i 30).flatten.length ∧ LRow wr w.heap.size v4 xs ∧ xs.map (·.l) = ownL l0 i 30 ∧ Below w.heap.size w wr)
    case atStart => exact ⟨0, [], 0, Nat.zero_le _, by decide, Nat.le_refl _, rfl, rfl, by simp [ownL], World.ownsRow_nil _ _ _ _, rfl, hb1⟩
    case round =>
      obtain ⟨i, xs, m, hil, hi8, hig, rfl, rfl, hmE0, hL, hxs, hB⟩ := hrel
      have hmE := Aside0.mk hmE0
      clear hmE0
      by_cases hlt : i < l0.length
      · have hltz : (i : Int) < (l0.length : Int) := by omega
        by_cases hlt8 : i < 6
        · have h8 : decide ((i : Int) < 6) = true := decide_eq_true (by omega)
          obtain ⟨ad, A1, c1, hA, hx0, hx1, hx2⟩ := at_L4 hr0 (i : Int) (by omega) hltz
          subst hA
          rw [Int.toNat_natCast] at hx0
          have hx0' := (hB.cell (World.block_lt_of_cell? _ _ hx0)).trans hx0
          obtain ⟨q, hql, hqe, m1, m2⟩ := mn_take (rd_L4 l0 (i : Int)) 30
          have hqm : (mn ((rd_L4 l0 (i : Int)).length : Int) 30).toNat = q.length := by
            rw [hqe, List.length_take]
            have e30 : ((30 : Nat) : Int) = 30 := rfl
            rw [e30] at m1 m2 ⊢
            omega
          have hqr : Kd.C k34 w A1 q.length q := by
            rw [hqe, List.length_take]
            have := Kd.C_take hx2 (m := (mn ((rd_L4 l0 (i : Int)).length : Int) ((30 : Nat) : Int)).toNat) (by have e30 : ((30 : Nat) : Int) = 30 := rfl; omega)
            rw [List.length_take] at this
            exact this
          have hqlen : q.length ≤ (rd_L4 l0 (i : Int)).length := by rw [hqe, List.length_take]; omega
          have hqmn : mn ((rd_L4 l0 (i : Int)).length : Int) 30 = (q.length : Int) := by
            have e30 : ((30 : Nat) : Int) = 30 := rfl
            rw [e30] at m1
            omega
          have hxl : xs.length ≤ 6 := by
            have := congrArg List.length hxs
            rw [List.length_map] at this
            rw [this]
            unfold ownL
            rw [List.length_map, List.length_take]; omega
          have hmin : min ((rd_L4 l0 (i : Int)).length : Int) 30 = (q.length : Int) := by rw [← hqmn]; unfold mn; omega
          have hqc : q.length ≤ c1 := by omega
          have hqc2 : (q.length : Int) ≤ (c1 : Int) := by omega
          have hq30 : Aside0 ((rd_L4 l0 (i : Int)).take 30 = q) := ⟨by
            rw [hqe]
            have e30 : ((30 : Nat) : Int) = 30 := rfl
            by_cases c : (rd_L4 l0 (i : Int)).length ≤ 30
            · rw [List.take_of_length_le c, List.take_of_length_le (by unfold mn; omega)]
            · congr 1; unfold mn; omega⟩
          clear hqe hqm m1 m2 hqmn
          obtain ⟨i24, hi24, jz0, jz1, jz2⟩ := info_parts info24_
          go_upto_region 8 with (fail)
          refine start_ (S := fun w' => w'.cell? (ad.add i) = some (.slice A1 (rd_L4 l0 (i : Int)).length c1)) (ds := []) #[false, false, false, false, false, false, false, false, false, false, false, false, false, false, false] (by kernel_rfl) rfl rfl hx0' ?_
          intro hHeld
          have hD : Below wr.heap.size wr wr.drew := below_drew1 (Below.refl _ _)
          have hLd := LRow.below hL hD
          have hBd := below_step hB hD
          have hcW : ∀ X, Below w.heap.size w X → X.cell? (ad.add i) = some (.slice A1 (rd_L4 l0 (i : Int)).length c1) := fun X hX => (hX.cell (World.block_lt_of_cell? _ _ hx0)).trans hx0
          generalize wr.drew = Wd at hD hLd hBd hHeld ⊢
          --REG
          refine pure_ (i := 0) (N := some 30) (v := ?_) (a' := ?_) #[true, false, false, false, false, false, false, false, false, false, false, false, false, false, false] rfl rfl (by kernel_rfl) (fun _ _ _ h => h) (Or.inl ⟨by rfl, ?_⟩) ?_ ?_
          rotate_left
          · intro w'
            go_simp
            with_reducible rfl
          rotate_left
          · simp only [Act.put, List.setIfInBounds_toArray, List.set_cons_zero, List.set_cons_succ, i64_w, i32_w]
            rfl
          refine pure_ (i := 1) (N := some 31) (v := ?_) (a' := ?_) #[true, true, false, false, false, false, false, false, false, false, false, false, false, false, false] rfl rfl (by kernel_rfl) (fun _ _ _ h => h) (Or.inl ⟨by rfl, ?_⟩) ?_ ?_
          rotate_left
          · intro w'
            go_simp
            with_reducible rfl
          rotate_left
          · simp only [Act.put, List.setIfInBounds_toArray, List.set_cons_zero, List.set_cons_succ, i64_w, i32_w]
            rfl
          refine pure_ (i := 2) (N := some 32) (v := ?_) (a' := ?_) #[true, true, true, false, false, false, false, false, false, false, false, false, false, false, false] rfl rfl (by kernel_rfl) (fun _ _ _ h => h) (Or.inl ⟨by rfl, ?_⟩) ?_ ?_
          rotate_left
          · intro w'
            go_simp
            with_reducible rfl
          rotate_left
          · simp only [Act.put, List.setIfInBounds_toArray, List.set_cons_zero, List.set_cons_succ, i64_w, i32_w]
            rfl
          refine pure_ (i := 3) (N := some 33) (v := ?_) (a' := ?_) #[true, true, true, true, false, false, false, false, false, false, false, false, false, false, false] rfl rfl (by kernel_rfl) (fun _ _ _ h => h) (Or.inl ⟨by rfl, ?_⟩) ?_ ?_
          rotate_left
          · intro w'
            go_simp
            with_reducible rfl
          rotate_left
          · simp only [Act.put, List.setIfInBounds_toArray, List.set_cons_zero, List.set_cons_succ, i64_w, i32_w]
            rfl
          refine take_ (i := 4) (N := some 34) (v := ?_) (a' := ?_) #[true, true, true, true, true, false, false, false, false, false, false, false, false, false, false] rfl rfl (by kernel_rfl) (fun _ _ _ h => h) (Or.inl ⟨by rfl, ?_⟩) hHeld ?_ ?_
          rotate_left
          · rintro w' s0
            go_simp
            with_reducible rfl
          rotate_left
          · simp only [Act.put, List.setIfInBounds_toArray, List.set_cons_zero, List.set_cons_succ, i64_w, i32_w]
            rfl
          refine pure_ (i := 5) (N := some 35) (v := ?_) (a' := ?_) #[true, true, true, true, true, true, false, false, false, false, false, false, false, false, false] rfl rfl (by kernel_rfl) (fun _ _ _ h => h) (Or.inl ⟨by rfl, ?_⟩) ?_ ?_
          rotate_left
          · intro w'
            go_simp
            with_reducible rfl
          rotate_left
          · simp only [Act.put, List.setIfInBounds_toArray, List.set_cons_zero, List.set_cons_succ, i64_w, i32_w]
            rfl
          refine pure_ (i := 6) (N := some 36) (v := ?_) (a' := ?_) #[true, true, true, true, true, true, true, false, false, false, false, false, false, false, false] rfl rfl (by kernel_rfl) (fun _ _ _ h => h) (Or.inl ⟨by rfl, ?_⟩) ?_ ?_
          rotate_left
          · intro w'
            go_simp
            with_reducible rfl
          rotate_left
          · simp only [Act.put, List.setIfInBounds_toArray, List.set_cons_zero, List.set_cons_succ, i64_w, i32_w]
            rfl
          refine pure_ (i := 7) (N := some 37) (v := ?_) (a' := ?_) #[true, true, true, true, true, true, true, true, false, false, false, false, false, false, false] rfl rfl (by kernel_rfl) (fun _ _ _ h => h) (Or.inl ⟨by rfl, ?_⟩) ?_ ?_
          rotate_left
          · intro w'
            go_simp
            with_reducible rfl
          rotate_left
          · simp only [Act.put, List.setIfInBounds_toArray, List.set_cons_zero, List.set_cons_succ, i64_w, i32_w]
            rfl
          refine take_ (i := 8) (N := some 38) (v := ?_) (a' := ?_) #[true, true, true, true, true, true, true, true, true, false, false, false, false, false, false] rfl rfl (by kernel_rfl) (fun _ _ _ h => h) (Or.inl ⟨by rfl, ?_⟩) hHeld ?_ ?_
          rotate_left
          · rintro w' s0
            go_simp
            with_reducible rfl
          rotate_left
          · simp only [Act.put, List.setIfInBounds_toArray, List.set_cons_zero, List.set_cons_succ, i64_w, i32_w]
            rfl
          refine pure_ (i := 9) (N := some 39) (v := ?_) (a' := ?_) #[true, true, true, true, true, true, true, true, true, true, false, false, false, false, false] rfl rfl (by kernel_rfl) (fun _ _ _ h => h) (Or.inl ⟨by rfl, ?_⟩) ?_ ?_
          rotate_left
          · intro w'
            go_simp
            with_reducible rfl
          rotate_left
          · simp only [Act.put, List.setIfInBounds_toArray, List.set_cons_zero, List.set_cons_succ, i64_w, i32_w]
            rfl
          refine pure_ (i := 10) (N := some 40) (v := ?_) (a' := ?_) #[true, true, true, true, true, true, true, true, true, true, true, false, false, false, false] rfl rfl (by kernel_rfl) (fun _ _ _ h => h) (Or.inl ⟨by rfl, ?_⟩) ?_ ?_
          rotate_left
          · intro w'
            go_simp
            with_reducible rfl
          rotate_left
          · simp only [Act.put, List.setIfInBounds_toArray, List.set_cons_zero, List.set_cons_succ, i64_w, i32_w]
            rfl
          refine pure_ (i := 11) (N := some 41) (v := ?_) (a' := ?_) #[true, true, true, true, true, true, true, true, true, true, true, true, false, false, false] rfl rfl (by kernel_rfl) (fun _ _ _ h => h) (Or.inl ⟨by rfl, ?_⟩) ?_ ?_
          rotate_left
          · intro w'
            go_simp
            with_reducible rfl
          rotate_left
          · simp only [Act.put, List.setIfInBounds_toArray, List.set_cons_zero, List.set_cons_succ, i64_w, i32_w]
            rfl
          refine one_ (i := 12) (N := some 42) #[true, true, true, true, true, true, true, true, true, true, true, true, true, false, false] rfl rfl (by kernel_rfl) (by decide) (fun K hK => ?_)
          refine value_ (w1 := ?_) (v := ?_) (by rfl) rfl ?_ ?_
          rotate_left 2
          · go_simp
            first | (constructor <;> rfl) | rfl
          have hBd8 := hBd.alloc hBd.size (.cells #[.slice A1 q.length c1] 24)
          refine hK.out _ _ (hcW _ hBd8) (fun hHeld => ?_)
          clear hK K
          refine norm_ (a' := ?_) ?_ ?_
          rotate_left
          · show Act.put _ (some 42) _ = _
            simp only [Act.put, List.setIfInBounds_toArray, List.set_cons_zero, List.set_cons_succ, i64_w, i32_w]
            rfl
          obtain ⟨v9, w9, hrun, ho9, hg9, _⟩ := run_append_own (P := Try.prog) (Wd.alloc (.cells #[.slice A1 q.length c1] 24)) w.heap.size 22 22 24 i24 _ 1 24 Try.underlying22 hi24 jz0 jz1 jz2 rfl (by decide) u4 xs.length (xs.flatMap sC) (LRow.below hLd (below_alloc (Below.refl _ _) _)) ⟨Wd.heap.size, 0, none⟩ 1 1 [.slice A1 q.length c1] rfl (cell_one_new _ _ _) (by simp [Value.oneCell']) (by unfold maxLen; omega) (by omega) (by rw [World.size_alloc]; exact Nat.le_trans hBd.size (Nat.le_succ _))
          refine one_ (i := 13) (N := some 43) #[true, true, true, true, true, true, true, true, true, true, true, true, true, true, false] rfl rfl (by kernel_rfl) (by decide) (fun K hK => ?_)
          refine value_append (.tmp 30) (.tmp 42) 22 u4 (.slice (some ⟨Wd.heap.size, 0, none⟩) 1 1) rfl (by rfl) rfl rfl rfl hrun ?_
          have hB9 : Below w.heap.size Wd w9 := ((Below.refl w.heap.size Wd).alloc hBd.size _).grown hg9 (by rw [World.size_alloc]; exact Nat.le_trans hBd.size (Nat.le_succ _)) (fun k hk => LRow.base_le hLd hk)
          refine hK.out _ _ (hcW _ (hBd.trans hB9)) (fun hHeld => ?_)
          clear hK K
          refine norm_ (a' := ?_) ?_ ?_
          rotate_left
          · show Act.put _ (some 43) _ = _
            simp only [Act.put, List.setIfInBounds_toArray, List.set_cons_zero, List.set_cons_succ, i64_w, i32_w]
            rfl
          refine pure_ (i := 14) (N := some 4) (v := ?_) (a' := ?_) #[true, true, true, true, true, true, true, true, true, true, true, true, true, true, true] rfl rfl (by kernel_rfl) (fun _ _ _ h => h) (Or.inl ⟨by rfl, ?_⟩) ?_ ?_
          rotate_left
          · intro w'
            go_simp
            with_reducible rfl
          rotate_left
          · simp only [Act.put, List.setIfInBounds_toArray, List.set_cons_zero, List.set_cons_succ, i64_w, i32_w]
            rfl
          refine done_ (by kernel_rfl) ?_
          --END
          have hL9 : LRow w9 w.heap.size v9 (xs ++ [(⟨A1, c1, q, hqr, hqc⟩ : KG w)]) := by
            unfold LRow
            rw [List.length_append, List.flatMap_append]
            simpa [sC] using ho9
          have hxs9 : (xs ++ [(⟨A1, c1, q, hqr, hqc⟩ : KG w)]).map (·.l) = ownL l0 (i + 1) 30 := by
            rw [List.map_append, hxs]
            unfold ownL
            rw [List.take_succ_eq_append_getElem hlt, List.map_append, List.map_singleton, List.map_singleton]
            show _ ++ [q] = _ ++ [List.take 30 l0[i]]
            rw [← hq30.out, rdL_getE hlt]
          have hB10 := hBd.trans hB9
          clear ho9 hrun hg9 hLd
          obtain ⟨A9, c9, rfl, hc9, hC9⟩ := LRow.reads hL9 hB10
          have hn9 : (xs ++ [(⟨A1, c1, q, hqr, hqc⟩ : KG w)]).length = i + 1 := by
            have := congrArg List.length hxs9
            rw [List.length_map] at this
            rw [this]; unfold ownL; rw [List.length_map, List.length_take]; omega
          rw [hxs9] at hC9
          rw [hn9] at hL9 hc9 hC9 ⊢
          have hEq : ownL l0 (i + 1) 30 = ownL l0 i 30 ++ [q] := by
            unfold ownL
            rw [List.take_succ_eq_append_getElem hlt, List.map_append, List.map_singleton, ← hq30.out, rdL_getE hlt]
          obtain ⟨ad9, A19, c19, rfl, hz0, hz1, hz2⟩ := at_L4 hC9 (i : Int) (by omega) (by omega)
          have hrq : rd_L4 (ownL l0 (i + 1) 30) (i : Int) = q := by
            have hl : (ownL l0 i 30).length = i := by unfold ownL; rw [List.length_map, List.length_take]; omega
            rw [hEq]
            unfold rd_L4
            rw [Int.toNat_natCast, List.getD_eq_getElem?_getD, List.getElem?_append_right (by omega), hl, Nat.sub_self]
            rfl
          rw [hrq, Int.toNat_natCast] at hz0
          have hmB : m ≤ 30 * i := by rw [hmE.out]; exact ownL_len l0 i 30
          have hqb : q.length ≤ 30 := hql
          have hmN0 : m + q.length = (ownL l0 (i + 1) 30).flatten.length := by rw [hEq, List.flatten_append, List.length_append, ← hmE.out]; simp
          clear hz1 hz2 hrq hEq hmE hC9
          have hmN := Aside0.mk hmN0
          clear hmN0
          go_wp2
          go_roundg (6 - (i + 1))
          case measure => omega
          case rel => exact ⟨i + 1, _, m + q.length, hlt, by omega, Nat.le_refl _, by go_num, by go_num, hmN.out, hL9, hxs9, hB10⟩
        · have h8 : decide ((i : Int) < 6) = false := decide_eq_false (by omega)
          go_wp2
          go_meet
          case rel => exact ⟨xs, m, hL, by rw [hxs]; unfold ownL; rw [show i = 6 by omega], rfl, by rw [hmE.out]; unfold ownL; rw [show i = 6 by omega], hB⟩
      · have hltz : ¬ (i : Int) < (l0.length : Int) := by omega
        go_wp2
        go_meet
        case rel => exact ⟨xs, m, hL, by rw [hxs]; unfold ownL; rw [List.take_of_length_le (by omega), List.take_of_length_le (by omega)], rfl, by rw [hmE.out]; unfold ownL; rw [List.take_of_length_le (by omega), List.take_of_length_le (by omega)], hB⟩
  case rest =>
    obtain ⟨xs, m, hL, hxs, rfl, hmE0, hB⟩ := hcut
    obtain ⟨Ao, co, rfl, hco, hCr⟩ := LRow.reads hL hB
    have hCl : xs.length = (ownL l0 6 30).length := by rw [← hxs, List.length_map]
    rw [hxs, hCl] at hCr
    rw [hCl] at hco
    rw [hCl]
    have hC8 : (ownL l0 6 30).length ≤ 6 := by unfold ownL; rw [List.length_map, List.length_take]; omega
    have hC40 : ∀ l ∈ ownL l0 6 30, l.length ≤ 30 := by
      intro l hl
      unfold ownL at hl
      obtain ⟨q, _, rfl⟩ := List.mem_map.1 hl
      rw [List.length_take]; omega
    have hmB : m ≤ 180 := by rw [hmE0]; exact ownL_len l0 6 30
    have hmE := Aside0.mk hmE0
    clear hL hxs hCl hmE0 hr0 hc0 hex
    generalize ownL l0 6 30 = C at hCr hco hC8 hC40 hmE ⊢
    obtain ⟨i24, hi24, jz0, jz1, jz2⟩ := info_parts info24_
    obtain ⟨wo, rfl⟩ : ∃ x : World, x = wc := ⟨_, rfl⟩
    go_upto_block 2 with (fail)
    go_cut [5] (fun v5 Wi => ∃ ys : List (KG wo), LRow Wi wo.heap.size v5 ys ∧ ys.map (·.l) = C.reverse ∧ Below wo.heap.size wo Wi)
    case first =>
      go_wp2
      go_loopg [5, 8] (C.length + 1) (fun gg v5 v8 Wi => ∃ (j : Nat) (p : Int) (ys : List (KG wo)), j ≤ C.length ∧ C.length - j < gg ∧ p = (C.length : Int) - 1 - j ∧ v8 = .int .i64 p ∧ LRow Wi wo.heap.size v5 ys ∧ ys.map (·.l) = C.reverse.take j ∧ Below wo.heap.size wo Wi)
      case atStart => exact ⟨0, _, [], Nat.zero_le _, by omega, rfl, by go_num, World.ownsRow_nil _ _ _ _, rfl, Below.refl _ _⟩
      case round =>
        obtain ⟨j, p, ys, hjl, hjg, hpj0, rfl, hL5, hys, hBi⟩ := hrel
        have hpj := Aside0.mk hpj0
        clear hpj0
        by_cases hjt : j < C.length
        · obtain ⟨n, rfl⟩ : ∃ n : Nat, p = (n : Int) := ⟨p.toNat, by have := hpj.out; omega⟩
          have hnC : n < C.length := by have := hpj.out; omega
          have hnz : (n : Int) < (C.length : Int) := by omega
          have hn0 : decide ((n : Int) ≥ 0) = true := decide_eq_true (by omega)
          have hyl : ys.length = j := by
            have := congrArg List.length hys
            rw [List.length_map, List.length_take, List.length_reverse] at this
            omega
          obtain ⟨ad, A1, c1, hA, hx0, hx1, hx2⟩ := at_L4 hCr (n : Int) (by omega) hnz
          subst hA
          rw [Int.toNat_natCast] at hx0
          have hx0' := (hBi.cell (World.block_lt_of_cell? _ _ hx0)).trans hx0
          have hqe : rd_L4 C (n : Int) = C[n] := rdL_getE hnC
          have hys20 : (ys ++ [(⟨A1, c1, rd_L4 C (n : Int), hx2, hx1⟩ : KG wo)]).map (·.l) = C.reverse.take (j + 1) := by
            rw [List.take_succ_eq_append_getElem (by rw [List.length_reverse]; exact hjt), List.map_append, hys, List.map_singleton]
            congr 2
            show rd_L4 C (n : Int) = _
            rw [hqe, List.getElem_reverse]
            congr 1
            have := hpj.out
            omega
          have hys2 := Aside0.mk hys20
          clear hqe hx0 hys20
          go_wp2_with (at_builtin; refine wpList_append_own _ rfl _ _ 22 rfl wo.heap.size 24 i24 _ 1 24 Try.underlying22 hi24 jz0 jz1 jz2 rfl (by decide) u5 ys.length (ys.flatMap sC) rfl (LRow.below hL5 (below_alloc (Below.refl _ _) _)) ⟨wr.heap.size, 0, none⟩ 1 1 [.slice A1 (rd_L4 C (n : Int)).length c1] rfl rfl (cell_one_new _ _ _) (by simp [Value.oneCell']) (by unfold maxLen; omega) (by omega) (by rw [World.size_alloc]; exact Nat.le_trans hBi.size (Nat.le_succ _)) ?_; intro v9 w9 ho9 hg9 _)
          have hB9 : Below wo.heap.size wr w9 := ((Below.refl wo.heap.size wr).alloc hBi.size _).grown hg9 (by rw [World.size_alloc]; exact Nat.le_trans hBi.size (Nat.le_succ _)) (fun k hk => LRow.base_le hL5 hk)
          have hL9 : LRow w9 wo.heap.size v9 (ys ++ [(⟨A1, c1, rd_L4 C (n : Int), hx2, hx1⟩ : KG wo)]) := by
            unfold LRow
            rw [List.length_append, List.flatMap_append]
            simpa [sC] using ho9
          go_roundg (C.length - j)
          case measure => omega
          case rel => exact ⟨j + 1, (n : Int) - 1, _, hjt, by omega, by have := hpj.out; omega, rfl, hL9, hys2.out, hBi.trans hB9⟩
        · obtain rfl : j = C.length := by omega
          have hpz : decide (p ≥ 0) = false := decide_eq_false (by have := hpj.out; omega)
          have hys3 : ys.map (·.l) = C.reverse := by rw [hys, List.take_of_length_le (by rw [List.length_reverse]; omega)]
          clear hys
          go_wp2
          go_meet
          case rel => exact ⟨ys, hL5, hys3, hBi⟩
    case rest =>
      obtain ⟨ys, hL5, hys, hB5⟩ := hcut
      obtain ⟨A5, c5, rfl, hc5, hC5⟩ := LRow.reads hL5 hB5
      have hy5 : ys.length = C.reverse.length := by rw [← hys, List.length_map]
      rw [hys, hy5] at hC5
      rw [hy5] at hc5
      rw [hy5]
      clear hL5 hys hy5
      have hCrW := Kd.C_below hCr hB5
      have hBw := below_step hB hB5
      have hmv := merge_val C (by omega) (fun l hl => by have := hC40 l hl; omega)
      have hmv2 := merge_val C.reverse (by rw [List.length_reverse]; omega) (fun l hl => by have := hC40 l (List.mem_reverse.1 hl); omega)
      have hRp := rev_perm C
      have hRs := @rev_sorted C
      have hRl : Aside0 (C.reverse.length = C.length) := ⟨List.length_reverse⟩
      have hR40 : ∀ l ∈ C.reverse, l.length ≤ 30 := fun l hl => hC40 l (List.mem_reverse.1 hl)
      have hR8 : C.reverse.length ≤ 6 := by rw [List.length_reverse]; exact hC8
      generalize C.reverse = R at hC5 hc5 hmv2 hRp hRs hRl hR40 hR8 ⊢
      cases hs : C.all sortedB with
      | false =>
        rw [hs] at hRs
        rw [hs, if_neg (by decide)] at hmv
        rw [hRs, if_neg (by decide)] at hmv2
        have hmc := merge_Merge.calls Ao co C [] (some 1) wc hCrW hco hmv
        simp only [errW_some] at hmc
        go_upto_region 15 with (go_at_call 12; refine hmc.mono ?_; rintro e w2 ⟨v2, rfl, hR2, hb2⟩; obtain ⟨A2, c2, rfl⟩ := Kd.R_slice hR2)
        have hmc2 := merge_Merge.calls A5 c5 R [] (some 1) w2 (Kd.C_below hC5 hb2) hc5 hmv2
        simp only [errW_some] at hmc2
        go_upto_region 16 with (go_at_call 12; refine hmc2.mono ?_; rintro e w3 ⟨v3, rfl, hR3, hb3⟩; obtain ⟨A3, c3, rfl⟩ := Kd.R_slice hR3)
        have his : ∀ W, Calls Try.prog 14 #[errW (some 1), .int .i64 1] W fun e w' => e = .returned (.bool true) ∧ Drawn0 W w' := fun W => palinodelaw15_is.calls (some 1) 1 true W rfl
        simp only [errW_some] at his
        have hB3 := below_step (below_step hBw hb2) hb3
        have HB := Aside0.mk hB3
        clear hB3
        go_wp2_with (go_at_call 14; refine (his _).mono ?_; rintro e w4 ⟨rfl, hd4⟩; have n_ := Aside0.mk (below_step HB.out (Drawn0.below hd4)); clear HB hd4; have HB := n_; clear n_)
        go_ret
        exact ⟨rfl, HB.out⟩
      | true =>
        rw [hs] at hRs
        rw [hs, if_pos rfl] at hmv
        rw [hRs, if_pos rfl] at hmv2
        have hmc := merge_Merge.calls Ao co C (mergeR C) none wc hCrW hco hmv
        simp only [errW_none] at hmc
        go_upto_region 15 with (go_at_call 12; refine hmc.mono ?_; rintro e w2 ⟨v2, rfl, hR2, hb2⟩; obtain ⟨A2, c2, rfl, hc2, hCL⟩ := Kd.R_reads hR2)
        have hmc2 := merge_Merge.calls A5 c5 R (mergeR R) none w2 (Kd.C_below hC5 hb2) hc5 hmv2
        simp only [errW_none] at hmc2
        go_upto_region 16 with (go_at_call 12; refine hmc2.mono ?_; rintro e w3 ⟨v3, rfl, hR3, hb3⟩; obtain ⟨A3, c3, rfl, hc3, hCR⟩ := Kd.R_reads hR3)
        have hB3 := below_step (below_step hBw hb2) hb3
        have hCL3 := Kd.C_below hCL hb3
        have hCr3 := Kd.C_below (Kd.C_below hCrW hb2) hb3
        have hR3 := Aside0.mk (mergeR_perm_len hs hRs (fun x => hRp.mem_iff))
        have hPm := fun h => mergeR_perm hs hRs hRp h
        have hLl : (mergeR C).length ≤ 180 := by
          have h1 := mergeR_le hs
          have h2 := flat_len 30 C hC40
          omega
        go_wp2
        go_loopg [13, 14] C.length (fun gg v13 v14 Wi => ∃ (i : Nat) (A : Option Addr) (c : Nat) (cl : List Ent), i ≤ C.length ∧ C.length - i ≤ gg ∧ v14 = .int .i64 i ∧ v13 = .slice A cl.length c ∧ cl.length ≤ c ∧ Kd.C k34 Wi A cl.length cl ∧ cl = mergeR (C.take i) ∧ Below w3.heap.size w3 Wi)
        case atStart => exact ⟨0, none, 0, [], Nat.zero_le _, Nat.le_refl _, rfl, rfl, Nat.le_refl _, ⟨rfl, by decide, fun h => absurd h (by decide)⟩, mergeR_nil.symm, Below.refl _ _⟩
        case round =>
          obtain ⟨i, A, c, cl, hil, hig, rfl, rfl, hcc, hcl, hcE0, hBi⟩ := hrel
          have hcE := Aside0.mk hcE0
          clear hcE0
          by_cases hlt : i < C.length
          · have hltz : (i : Int) < (C.length : Int) := by omega
            obtain ⟨ad, A1, c1, hA, hx0, hx1, hx2⟩ := at_L4 (Kd.C_below hCr3 hBi) (i : Int) (by omega) hltz
            subst hA
            rw [Int.toNat_natCast] at hx0
            have hqe : rd_L4 C (i : Int) = C[i] := rdL_getE hlt
            have hqs : sortedB (rd_L4 C (i : Int)) = true := by rw [hqe]; exact List.all_eq_true.1 hs _ (List.getElem_mem _)
            have hq30 : (rd_L4 C (i : Int)).length ≤ 30 := by rw [hqe]; exact hC40 _ (List.getElem_mem _)
            have hts : (C.take i).all sortedB = true := List.all_eq_true.2 (fun l hl => List.all_eq_true.1 hs l (List.mem_of_mem_take hl))
            have hst := mergeR_step hts hqs
            have htk : C.take i ++ [rd_L4 C (i : Int)] = C.take (i + 1) := by rw [hqe]; exact (List.take_succ_eq_append_getElem hlt).symm
            rw [htk, ← hcE.out] at hst
            have hcs : sortedB cl = true := by rw [hcE.out]; exact mergeR_sorted hts
            have hcn : cl.length ≤ 180 := by
              have h1 := mergeR_le hts
              have h2 := flat_len 30 (C.take i) (fun l hl => hC40 l (List.mem_of_mem_take hl))
              rw [List.length_take] at h2
              rw [hcE.out]; omega
            clear hqe htk
            generalize rd_L4 C (i : Int) = q at hx0 hx1 hx2 hqs hq30 hst
            have hmv4 := merge_val [cl, q] (by simp) (fun l hl => by rcases List.mem_cons.1 hl with rfl | hl; omega; rw [List.mem_singleton.1 hl]; omega)
            rw [if_pos (by simp [hcs, hqs]), hst] at hmv4
            have hmc4 := merge_Merge.calls _ 2 [cl, q] (mergeR (C.take (i + 1))) none _ (two_lists hcl hcc hx2 hx1) (Nat.le_refl _) hmv4
            simp only [errW_none, List.length_cons, List.length_nil] at hmc4
            have hD : Below wr.heap.size wr (wr.alloc (.cells #[.slice A cl.length c, .slice A1 q.length c1] 24)) := (Below.refl _ wr).alloc (Nat.le_refl _) _
            clear hmv4 hst hcE
            go_wp2_with (go_at_call 12; refine hmc4.mono ?_; rintro e w6 ⟨v6, rfl, hR6, hb6⟩; obtain ⟨A6, c6, rfl, hc6, hC6⟩ := Kd.R_reads hR6)
            go_roundg (C.length - (i + 1))
            case measure => omega
            case rel => exact ⟨i + 1, A6, c6, _, hlt, Nat.le_refl _, by go_num, rfl, hc6, hC6, rfl, below_step (below_step hBi hD) hb6⟩
          · have hltz : ¬ (i : Int) < (C.length : Int) := by omega
            have hce := hcE.out
            rw [List.take_of_length_le (by omega)] at hce
            subst hce
            clear hcE
            have he1 := palinodelaw15_entries.calls 100000 A2 c2 (mergeR C) A c (mergeR C) true wr (Kd.C_below hCL3 hBi) hc2 hcl hcc (entries_self _ (by omega) _ (by omega))
            go_upto_region 27 with (go_at_call 13; refine he1.mono ?_; rintro e w7 ⟨rfl, hd7⟩)
            have hBW7 := below_step hBi (Drawn0.below hd7)
            obtain ⟨r2, hr2, hr3⟩ := entries_any (mergeR C) (mergeR R) (by omega) 100000 (by omega)
            have he2 := palinodelaw15_entries.calls 100000 A2 c2 (mergeR C) A3 c3 (mergeR R) r2 w7 (Kd.C_below hCL3 hBW7) hc2 (Kd.C_below hCR hBW7) hc3 hr2
            go_upto_region 28 with (go_at_call 13; refine he2.mono ?_; rintro e w8 ⟨rfl, hd8⟩)
            have hBW8 := below_step hB3 (below_step hBW7 (Drawn0.below hd8))
            have hne : (((mergeR C).length : Int) == ((mergeR R).length : Int)) = true := beq_iff_eq.2 (by rw [hR3.out])
            have hsm : r2 = false → (mergeR C).length < m := by
              intro h
              apply Classical.byContradiction
              intro hn
              have := hr3 (hPm (by rw [← hmE.out]; omega))
              rw [h] at this; cases this
            cases r2 with
            | true =>
              go_wp2
              go_ret
              exact ⟨rfl, hBW8⟩
            | false =>
              have hlm : ((mergeR C).length : Int) < (m : Int) := by have := hsm rfl; omega
              go_wp2
              go_ret
              exact ⟨rfl, hBW8⟩
end Go.Proofs.Yteljlfodjbgejaa.Pure
