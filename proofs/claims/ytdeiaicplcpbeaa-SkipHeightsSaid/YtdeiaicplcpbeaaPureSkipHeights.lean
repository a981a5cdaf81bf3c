/- Heights change no answer of Get, Seek and Len (at most 100 puts, with other heights in a second list): for all arguments that the row lets in. -/
import Derived.Test.YtdeiaicplcpbeaaSkipSame
namespace Go.Proofs.Ytdeiaicplcpbeaa.Pure
open Go.RowKit Go.Proofs.Ytdeiaicplcpbeaa.Print Go.Proofs.YtdeiaicplcpbeaaX Go.Proofs.YtdeiaicplcpbeaaW.PrintWords Go.Proofs.YtdeiaicplcpbeaaW.PrintLast Go.Proofs.YtdeiaicplcpbeaaW.PrintMore
set_option linter.unusedVariables false
set_option linter.unusedSimpArgs false

abbrev Pt := S31
set_option maxHeartbeats 4000000 in
set_option maxRecDepth 100000 in
theorem skipHeightsWalk (A0 : Option Addr) (c0 : Nat) (l0 : List Pt) (A1 : Option Addr) (c1 : Nat) (l1 : List Int) (a2 : ByteArray) (w : World) (hr0 : Kd.C k31 w A0 l0.length l0) (hc0 : l0.length ≤ c0)
    (v0 : l0.length ≤ maxLen ∧ l0.length * 40 ≤ 140737488351232 ∧ ∀ x ∈ l0, V31 x) (hr1 : Kd.C (Kd.int .i64) w A1 l1.length l1) (hc1 : l1.length ≤ c1) (v1 : l1.length ≤ maxLen ∧ l1.length * 8 ≤ 140737488351232 ∧ ∀ x ∈ l1, (Lit.int .i64 x).wf = true) (v2 : a2.size ≤ 140737488351232) :
    Calls Try.prog 5 #[.slice A0 l0.length c0, .slice A1 l1.length c1, .string a2] w fun e w' => e = .returned (.bool true) ∧ Below w.heap.size w w' := by
  have hex := examples_calls w
  have hlen : l0.length ≤ 1000000000000000 := by have := v0.2.1; omega
  have hlen1 : l1.length ≤ 1000000000000000000 := by have := v1.2.1; omega
  go_enter Try.func5, Try.ntmps5
  go_upto_block 0 with (first
    | (go_at_call 7; refine hex.mono ?_; clear hex; rintro e w1 ⟨he, hB1⟩; subst he; have hn1 := new_as w1)
    | (go_at_call 8; refine hn1.mono ?_; clear hn1; rintro e w2 ⟨la, he, hS2, hB2⟩; subst he; have hn2 := new_as2 hS2)
    | (go_at_call 8; refine hn2.mono ?_; clear hn2; rintro e w3 ⟨lb, he, hS3, hB3⟩; subst he))
  have hBw3 := below_step (below_step hB1 hB2) hB3
  have hS3w : LS2 w.heap.size w3 la lb [] [] := by obtain ⟨L, M, h1, h2, h3, h4, h5, h6, h7⟩ := hS3; exact ⟨L, M, h1, h2, fun b hb => Nat.le_trans hB1.size (h3 b hb), fun b hb => Nat.le_trans hB1.size (h4 b hb), h5, h6, h7⟩
  clear hS2 hS3 hB1 hB2 hB3
  go_cut [10] (fun v10 wc => ∃ (l m : List One), l.length ≤ 100 ∧ strip l = strip m ∧ LS2 w.heap.size wc la lb l m ∧ Below w.heap.size w wc)
  case first =>
    go_wp2
    go_loopg [10, 11] 100 (fun gg v10 v11 wr => ∃ (i : Nat) (l m : List One), i ≤ l0.length ∧ i ≤ 100 ∧ 100 - i ≤ gg ∧ l.length ≤ i ∧ v10 = .int .i64 i ∧ strip l = strip m ∧ LS2 w.heap.size wr la lb l m ∧ Below w.heap.size w wr)
    case atStart => exact ⟨0, [], [], Nat.zero_le _, by decide, Nat.le_refl _, Nat.le_refl _, rfl, rfl, hS3w, hBw3⟩
    case round =>
      clear hS3w hBw3
      obtain ⟨i, l, m, hil, hi1, hig, hli, rfl, hsm0, hS, hB⟩ := hrel
      have hsm := Aside0.mk hsm0
      clear hsm0
      by_cases hlt : i < l0.length
      · have hltz : (i : Int) < (l0.length : Int) := by omega
        by_cases hlt8 : i < 100
        · have h8 : decide ((i : Int) < 100) = true := decide_eq_true (by omega)
          obtain ⟨ad, hA, hx0, hx1, hx2⟩ := at_T31 hr0 (i : Int) (by omega) hltz
          subst hA
          rw [Int.toNat_natCast] at hx0 hx1 hx2
          have hrd : rd_T31 l0 (i : Int) = l0[i] := by unfold rd_T31; rw [Int.toNat_natCast, List.getD_eq_getElem?_getD, List.getElem?_eq_getElem hlt]; rfl
          rw [hrd] at hx0 hx1 hx2
          generalize l0[i] = p at hx0 hx1 hx2
          clear hrd
          go_upto_if 45 with (fail)
          go_cut [11] (fun v11 wd => ∃ h : Int, v11 = .int .i64 h ∧ wd = wr)
          case first =>
            by_cases hh : i < l1.length
            · have hhz : (i : Int) < (l1.length : Int) := by omega
              obtain ⟨ad1, hA1, hy⟩ := Kd.at_int (Kd.C_below hr1 hB) (i : Int) (by omega) hhz
              subst hA1
              rw [Int.toNat_natCast] at hy
              go_wp2
              go_meet
              case rel => exact ⟨_, rfl, rfl⟩
            · have hhz : ¬ (i : Int) < (l1.length : Int) := by omega
              go_wp2
              go_meet
              case rel => exact ⟨_, rfl, rfl⟩
          case rest =>
          obtain ⟨h, rfl, hwd⟩ := hcut


          subst hwd
          go_upto_region 12 with (fail)
          have hD : Below wc.heap.size wc wc.drew := below_drew1 (Below.refl _ _)
          have hSd := hS.below hD
          have hBd := below_step hB hD
          have hC : ∀ X, Below w.heap.size w X → X.cell? (ad.add (i * 3)) = some (.string p.f0) ∧ X.cell? ⟨(ad.add (i * 3)).block, (ad.add (i * 3)).off + 1, none⟩ = some (.string p.f1) ∧ X.cell? ⟨(ad.add (i * 3)).block, (ad.add (i * 3)).off + 2, none⟩ = some (.int .i64 p.f2) := fun X hX => ⟨(hX.cell (World.block_lt_of_cell? _ _ hx0)).trans hx0, (hX.cell (World.block_lt_of_cell? _ _ hx1)).trans hx1, (hX.cell (World.block_lt_of_cell? _ _ hx2)).trans hx2⟩
          refine start_ (S := fun w' => w'.cell? (ad.add (i * 3)) = some (.string p.f0) ∧ w'.cell? ⟨(ad.add (i * 3)).block, (ad.add (i * 3)).off + 1, none⟩ = some (.string p.f1) ∧ w'.cell? ⟨(ad.add (i * 3)).block, (ad.add (i * 3)).off + 2, none⟩ = some (.int .i64 p.f2)) (ds := [29]) #[false, false, false, false, false, false, false, false, false, false, false, false, false, false, false, false, false, false, false, false, false, false, false, false, false, false, false, false, false, false, false] (by kernel_rfl) rfl rfl (hC _ hBd) ?_
          intro hHeld
          have hsm9 := same_put hsm.out p.f0 p.f1 p.f2 h
          have hnn := same_none hsm.out p.f0
          have hml := same_len hsm.out
          have hnl := putO_len p.f0 p.f1 p.f2 l
          clear hsm
          generalize wc.drew = Wd at hSd hBd hHeld hC ⊢
          refine pure_ (i := 0) (N := some 50) (v := ?_) (a' := ?_) #[true, false, false, false, false, false, false, false, false, false, false, false, false, false, false, false, false, false, false, false, false, false, false, false, false, false, false, false, false, false, false] rfl rfl (by kernel_rfl) (fun _ _ _ h => h) (Or.inl ⟨by rfl, ?_⟩) ?_ ?_
          rotate_left
          · intro w'
            go_simp
            with_reducible rfl
          rotate_left
          · simp only [Act.put, List.setIfInBounds_toArray, List.set_cons_zero, List.set_cons_succ, i64_w, i32_w]
            rfl
          refine pure_ (i := 1) (N := some 51) (v := ?_) (a' := ?_) #[true, true, false, false, false, false, false, false, false, false, false, false, false, false, false, false, false, false, false, false, false, false, false, false, false, false, false, false, false, false, false] rfl rfl (by kernel_rfl) (fun _ _ _ h => h) (Or.inl ⟨by rfl, ?_⟩) ?_ ?_
          rotate_left
          · intro w'
            go_simp
            with_reducible rfl
          rotate_left
          · simp only [Act.put, List.setIfInBounds_toArray, List.set_cons_zero, List.set_cons_succ, i64_w, i32_w]
            rfl
          refine pure_ (i := 2) (N := some 52) (v := ?_) (a' := ?_) #[true, true, true, false, false, false, false, false, false, false, false, false, false, false, false, false, false, false, false, false, false, false, false, false, false, false, false, false, false, false, false] rfl rfl (by kernel_rfl) (fun _ _ _ h => h) (Or.inl ⟨by rfl, ?_⟩) ?_ ?_
          rotate_left
          · intro w'
            go_simp
            with_reducible rfl
          rotate_left
          · simp only [Act.put, List.setIfInBounds_toArray, List.set_cons_zero, List.set_cons_succ, i64_w, i32_w]
            rfl
          refine pure_ (i := 3) (N := some 53) (v := ?_) (a' := ?_) #[true, true, true, true, false, false, false, false, false, false, false, false, false, false, false, false, false, false, false, false, false, false, false, false, false, false, false, false, false, false, false] rfl rfl (by kernel_rfl) (fun _ _ _ h => h) (Or.inl ⟨by rfl, ?_⟩) ?_ ?_
          rotate_left
          · intro w'
            go_simp
            with_reducible rfl
          rotate_left
          · simp only [Act.put, List.setIfInBounds_toArray, List.set_cons_zero, List.set_cons_succ, i64_w, i32_w]
            rfl
          refine pure_ (i := 4) (N := some 54) (v := ?_) (a' := ?_) #[true, true, true, true, true, false, false, false, false, false, false, false, false, false, false, false, false, false, false, false, false, false, false, false, false, false, false, false, false, false, false] rfl rfl (by kernel_rfl) (fun _ _ _ h => h) (Or.inl ⟨by rfl, ?_⟩) ?_ ?_
          rotate_left
          · intro w'
            go_simp
            with_reducible rfl
          rotate_left
          · simp only [Act.put, List.setIfInBounds_toArray, List.set_cons_zero, List.set_cons_succ, i64_w, i32_w]
            rfl
          refine take_ (i := 5) (N := some 55) (v := ?_) (a' := ?_) #[true, true, true, true, true, true, false, false, false, false, false, false, false, false, false, false, false, false, false, false, false, false, false, false, false, false, false, false, false, false, false] rfl rfl (by kernel_rfl) (fun _ _ _ h => h) (Or.inl ⟨by rfl, ?_⟩) hHeld ?_ ?_
          rotate_left
          · rintro w' ⟨s0, s1, s2⟩
            go_simp
            with_reducible rfl
          rotate_left
          · simp only [Act.put, List.setIfInBounds_toArray, List.set_cons_zero, List.set_cons_succ, i64_w, i32_w]
            rfl
          refine pure_ (i := 6) (N := some 56) (v := ?_) (a' := ?_) #[true, true, true, true, true, true, true, false, false, false, false, false, false, false, false, false, false, false, false, false, false, false, false, false, false, false, false, false, false, false, false] rfl rfl (by kernel_rfl) (fun _ _ _ h => h) (Or.inl ⟨by rfl, ?_⟩) ?_ ?_
          rotate_left
          · intro w'
            go_simp
            with_reducible rfl
          rotate_left
          · simp only [Act.put, List.setIfInBounds_toArray, List.set_cons_zero, List.set_cons_succ, i64_w, i32_w]
            rfl
          refine pure_ (i := 7) (N := some 57) (v := ?_) (a' := ?_) #[true, true, true, true, true, true, true, true, false, false, false, false, false, false, false, false, false, false, false, false, false, false, false, false, false, false, false, false, false, false, false] rfl rfl (by kernel_rfl) (fun _ _ _ h => h) (Or.inl ⟨by rfl, ?_⟩) ?_ ?_
          rotate_left
          · intro w'
            go_simp
            with_reducible rfl
          rotate_left
          · simp only [Act.put, List.setIfInBounds_toArray, List.set_cons_zero, List.set_cons_succ, i64_w, i32_w]
            rfl
          refine pure_ (i := 8) (N := some 58) (v := ?_) (a' := ?_) #[true, true, true, true, true, true, true, true, true, false, false, false, false, false, false, false, false, false, false, false, false, false, false, false, false, false, false, false, false, false, false] rfl rfl (by kernel_rfl) (fun _ _ _ h => h) (Or.inl ⟨by rfl, ?_⟩) ?_ ?_
          rotate_left
          · intro w'
            go_simp
            with_reducible rfl
          rotate_left
          · simp only [Act.put, List.setIfInBounds_toArray, List.set_cons_zero, List.set_cons_succ, i64_w, i32_w]
            rfl
          refine pure_ (i := 9) (N := some 59) (v := ?_) (a' := ?_) #[true, true, true, true, true, true, true, true, true, true, false, false, false, false, false, false, false, false, false, false, false, false, false, false, false, false, false, false, false, false, false] rfl rfl (by kernel_rfl) (fun _ _ _ h => h) (Or.inl ⟨by rfl, ?_⟩) ?_ ?_
          rotate_left
          · intro w'
            go_simp
            with_reducible rfl
          rotate_left
          · simp only [Act.put, List.setIfInBounds_toArray, List.set_cons_zero, List.set_cons_succ, i64_w, i32_w]
            rfl
          refine take_ (i := 10) (N := some 60) (v := ?_) (a' := ?_) #[true, true, true, true, true, true, true, true, true, true, true, false, false, false, false, false, false, false, false, false, false, false, false, false, false, false, false, false, false, false, false] rfl rfl (by kernel_rfl) (fun _ _ _ h => h) (Or.inl ⟨by rfl, ?_⟩) hHeld ?_ ?_
          rotate_left
          · rintro w' ⟨s0, s1, s2⟩
            go_simp
            with_reducible rfl
          rotate_left
          · simp only [Act.put, List.setIfInBounds_toArray, List.set_cons_zero, List.set_cons_succ, i64_w, i32_w]
            rfl
          refine pure_ (i := 11) (N := some 61) (v := ?_) (a' := ?_) #[true, true, true, true, true, true, true, true, true, true, true, true, false, false, false, false, false, false, false, false, false, false, false, false, false, false, false, false, false, false, false] rfl rfl (by kernel_rfl) (fun _ _ _ h => h) (Or.inl ⟨by rfl, ?_⟩) ?_ ?_
          rotate_left
          · intro w'
            go_simp
            with_reducible rfl
          rotate_left
          · simp only [Act.put, List.setIfInBounds_toArray, List.set_cons_zero, List.set_cons_succ, i64_w, i32_w]
            rfl
          refine pure_ (i := 12) (N := some 62) (v := ?_) (a' := ?_) #[true, true, true, true, true, true, true, true, true, true, true, true, true, false, false, false, false, false, false, false, false, false, false, false, false, false, false, false, false, false, false] rfl rfl (by kernel_rfl) (fun _ _ _ h => h) (Or.inl ⟨by rfl, ?_⟩) ?_ ?_
          rotate_left
          · intro w'
            go_simp
            with_reducible rfl
          rotate_left
          · simp only [Act.put, List.setIfInBounds_toArray, List.set_cons_zero, List.set_cons_succ, i64_w, i32_w]
            rfl
          refine pure_ (i := 13) (N := some 63) (v := ?_) (a' := ?_) #[true, true, true, true, true, true, true, true, true, true, true, true, true, true, false, false, false, false, false, false, false, false, false, false, false, false, false, false, false, false, false] rfl rfl (by kernel_rfl) (fun _ _ _ h => h) (Or.inl ⟨by rfl, ?_⟩) ?_ ?_
          rotate_left
          · intro w'
            go_simp
            with_reducible rfl
          rotate_left
          · simp only [Act.put, List.setIfInBounds_toArray, List.set_cons_zero, List.set_cons_succ, i64_w, i32_w]
            rfl
          refine pure_ (i := 14) (N := some 64) (v := ?_) (a' := ?_) #[true, true, true, true, true, true, true, true, true, true, true, true, true, true, true, false, false, false, false, false, false, false, false, false, false, false, false, false, false, false, false] rfl rfl (by kernel_rfl) (fun _ _ _ h => h) (Or.inl ⟨by rfl, ?_⟩) ?_ ?_
          rotate_left
          · intro w'
            go_simp
            with_reducible rfl
          rotate_left
          · simp only [Act.put, List.setIfInBounds_toArray, List.set_cons_zero, List.set_cons_succ, i64_w, i32_w]
            rfl
          refine take_ (i := 15) (N := some 65) (v := ?_) (a' := ?_) #[true, true, true, true, true, true, true, true, true, true, true, true, true, true, true, true, false, false, false, false, false, false, false, false, false, false, false, false, false, false, false] rfl rfl (by kernel_rfl) (fun _ _ _ h => h) (Or.inl ⟨by rfl, ?_⟩) hHeld ?_ ?_
          rotate_left
          · rintro w' ⟨s0, s1, s2⟩
            go_simp
            with_reducible rfl
          rotate_left
          · simp only [Act.put, List.setIfInBounds_toArray, List.set_cons_zero, List.set_cons_succ, i64_w, i32_w]
            rfl
          refine pure_ (i := 17) (N := some 67) (v := ?_) (a' := ?_) #[true, true, true, true, true, true, true, true, true, true, true, true, true, true, true, true, false, true, false, false, false, false, false, false, false, false, false, false, false, false, false] rfl rfl (by kernel_rfl) (fun _ _ _ h => h) (Or.inl ⟨by rfl, ?_⟩) ?_ ?_
          rotate_left
          · intro w'
            go_simp
            with_reducible rfl
          rotate_left
          · simp only [Act.put, List.setIfInBounds_toArray, List.set_cons_zero, List.set_cons_succ, i64_w, i32_w]
            rfl
          refine pure_ (i := 18) (N := some 68) (v := ?_) (a' := ?_) #[true, true, true, true, true, true, true, true, true, true, true, true, true, true, true, true, false, true, true, false, false, false, false, false, false, false, false, false, false, false, false] rfl rfl (by kernel_rfl) (fun _ _ _ h => h) (Or.inl ⟨by rfl, ?_⟩) ?_ ?_
          rotate_left
          · intro w'
            go_simp
            with_reducible rfl
          rotate_left
          · simp only [Act.put, List.setIfInBounds_toArray, List.set_cons_zero, List.set_cons_succ, i64_w, i32_w]
            rfl
          refine pure_ (i := 19) (N := some 69) (v := ?_) (a' := ?_) #[true, true, true, true, true, true, true, true, true, true, true, true, true, true, true, true, false, true, true, true, false, false, false, false, false, false, false, false, false, false, false] rfl rfl (by kernel_rfl) (fun _ _ _ h => h) (Or.inl ⟨by rfl, ?_⟩) ?_ ?_
          rotate_left
          · intro w'
            go_simp
            with_reducible rfl
          rotate_left
          · simp only [Act.put, List.setIfInBounds_toArray, List.set_cons_zero, List.set_cons_succ, i64_w, i32_w]
            rfl
          refine pure_ (i := 20) (N := some 70) (v := ?_) (a' := ?_) #[true, true, true, true, true, true, true, true, true, true, true, true, true, true, true, true, false, true, true, true, true, false, false, false, false, false, false, false, false, false, false] rfl rfl (by kernel_rfl) (fun _ _ _ h => h) (Or.inl ⟨by rfl, ?_⟩) ?_ ?_
          rotate_left
          · intro w'
            go_simp
            with_reducible rfl
          rotate_left
          · simp only [Act.put, List.setIfInBounds_toArray, List.set_cons_zero, List.set_cons_succ, i64_w, i32_w]
            rfl
          refine pure_ (i := 21) (N := some 71) (v := ?_) (a' := ?_) #[true, true, true, true, true, true, true, true, true, true, true, true, true, true, true, true, false, true, true, true, true, true, false, false, false, false, false, false, false, false, false] rfl rfl (by kernel_rfl) (fun _ _ _ h => h) (Or.inl ⟨by rfl, ?_⟩) ?_ ?_
          rotate_left
          · intro w'
            go_simp
            with_reducible rfl
          rotate_left
          · simp only [Act.put, List.setIfInBounds_toArray, List.set_cons_zero, List.set_cons_succ, i64_w, i32_w]
            rfl
          refine take_ (i := 22) (N := some 72) (v := ?_) (a' := ?_) #[true, true, true, true, true, true, true, true, true, true, true, true, true, true, true, true, false, true, true, true, true, true, true, false, false, false, false, false, false, false, false] rfl rfl (by kernel_rfl) (fun _ _ _ h => h) (Or.inl ⟨by rfl, ?_⟩) hHeld ?_ ?_
          rotate_left
          · rintro w' ⟨s0, s1, s2⟩
            go_simp
            with_reducible rfl
          rotate_left
          · simp only [Act.put, List.setIfInBounds_toArray, List.set_cons_zero, List.set_cons_succ, i64_w, i32_w]
            rfl
          refine pure_ (i := 23) (N := some 73) (v := ?_) (a' := ?_) #[true, true, true, true, true, true, true, true, true, true, true, true, true, true, true, true, false, true, true, true, true, true, true, true, false, false, false, false, false, false, false] rfl rfl (by kernel_rfl) (fun _ _ _ h => h) (Or.inl ⟨by rfl, ?_⟩) ?_ ?_
          rotate_left
          · intro w'
            go_simp
            with_reducible rfl
          rotate_left
          · simp only [Act.put, List.setIfInBounds_toArray, List.set_cons_zero, List.set_cons_succ, i64_w, i32_w]
            rfl
          refine pure_ (i := 24) (N := some 74) (v := ?_) (a' := ?_) #[true, true, true, true, true, true, true, true, true, true, true, true, true, true, true, true, false, true, true, true, true, true, true, true, true, false, false, false, false, false, false] rfl rfl (by kernel_rfl) (fun _ _ _ h => h) (Or.inl ⟨by rfl, ?_⟩) ?_ ?_
          rotate_left
          · intro w'
            go_simp
            with_reducible rfl
          rotate_left
          · simp only [Act.put, List.setIfInBounds_toArray, List.set_cons_zero, List.set_cons_succ, i64_w, i32_w]
            rfl
          refine pure_ (i := 25) (N := some 75) (v := ?_) (a' := ?_) #[true, true, true, true, true, true, true, true, true, true, true, true, true, true, true, true, false, true, true, true, true, true, true, true, true, true, false, false, false, false, false] rfl rfl (by kernel_rfl) (fun _ _ _ h => h) (Or.inl ⟨by rfl, ?_⟩) ?_ ?_
          rotate_left
          · intro w'
            go_simp
            with_reducible rfl
          rotate_left
          · simp only [Act.put, List.setIfInBounds_toArray, List.set_cons_zero, List.set_cons_succ, i64_w, i32_w]
            rfl
          refine pure_ (i := 26) (N := some 76) (v := ?_) (a' := ?_) #[true, true, true, true, true, true, true, true, true, true, true, true, true, true, true, true, false, true, true, true, true, true, true, true, true, true, true, false, false, false, false] rfl rfl (by kernel_rfl) (fun _ _ _ h => h) (Or.inl ⟨by rfl, ?_⟩) ?_ ?_
          rotate_left
          · intro w'
            go_simp
            with_reducible rfl
          rotate_left
          · simp only [Act.put, List.setIfInBounds_toArray, List.set_cons_zero, List.set_cons_succ, i64_w, i32_w]
            rfl
          refine take_ (i := 27) (N := some 77) (v := ?_) (a' := ?_) #[true, true, true, true, true, true, true, true, true, true, true, true, true, true, true, true, false, true, true, true, true, true, true, true, true, true, true, true, false, false, false] rfl rfl (by kernel_rfl) (fun _ _ _ h => h) (Or.inl ⟨by rfl, ?_⟩) hHeld ?_ ?_
          rotate_left
          · rintro w' ⟨s0, s1, s2⟩
            go_simp
            with_reducible rfl
          rotate_left
          · simp only [Act.put, List.setIfInBounds_toArray, List.set_cons_zero, List.set_cons_succ, i64_w, i32_w]
            rfl
          refine pure_ (i := 28) (N := some 78) (v := ?_) (a' := ?_) #[true, true, true, true, true, true, true, true, true, true, true, true, true, true, true, true, false, true, true, true, true, true, true, true, true, true, true, true, true, false, false] rfl rfl (by kernel_rfl) (fun _ _ _ h => h) (Or.inl ⟨by rfl, ?_⟩) ?_ ?_
          rotate_left
          · intro w'
            go_simp
            with_reducible rfl
          rotate_left
          · simp only [Act.put, List.setIfInBounds_toArray, List.set_cons_zero, List.set_cons_succ, i64_w, i32_w]
            rfl
          refine one_ (i := 16) (N := some 66) #[true, true, true, true, true, true, true, true, true, true, true, true, true, true, true, true, true, true, true, true, true, true, true, true, true, true, true, true, true, false, false] rfl rfl (by kernel_rfl) (by decide) (fun K hK => ?_)
          refine goes_ Try.func9 (by kernel_rfl) rfl #[.pointer (some ⟨la, 0, none⟩), .string p.f0, .string p.f1, .int .i64 p.f2] (by rfl) rfl rfl (by (try simp only [List.map_toArray, List.map_cons, List.map_nil]); first | done | rfl) ?_
          refine (put_as2 w.heap.size la lb l m p.f0 p.f1 p.f2 Wd hSd (by omega)).mono ?_
          rintro e w9 ⟨he, hS9, hB9⟩
          subst he
          refine ⟨_, rfl, ?_⟩
          refine hK.out _ _ (hC _ (hBd.trans hB9)) (fun hHeld => ?_)
          clear hK K
          refine norm_ (a' := ?_) ?_ ?_
          rotate_left
          · show Act.put _ (some 66) _ = _
            simp only [Act.put, List.setIfInBounds_toArray, List.set_cons_zero, List.set_cons_succ, i64_w, i32_w]
            rfl
          refine last_ (i := 29) (N := some 79) #[true, true, true, true, true, true, true, true, true, true, true, true, true, true, true, true, true, true, true, true, true, true, true, true, true, true, true, true, true, true, false] rfl rfl (by kernel_rfl) (by decide) (fun K hK => ?_)
          refine goes_ Try.func9 (by kernel_rfl) rfl #[.pointer (some ⟨lb, 0, none⟩), .string p.f0, .string p.f1, .int .i64 h] (by rfl) rfl rfl (by (try simp only [List.map_toArray, List.map_cons, List.map_nil]); first | done | rfl) ?_
          refine (put_as2 w.heap.size lb la m (putO p.f0 p.f1 p.f2 l) p.f0 p.f1 h w9 hS9.swap (by omega)).mono ?_
          rintro e w10 ⟨he, hS10, hB10⟩
          subst he
          rw [← hnn]
          refine ⟨_, rfl, ?_⟩
          refine hK.out _ _ ?_
          clear hK K
          refine norm_ (a' := ?_) ?_ ?_
          rotate_left
          · show Act.put _ (some 79) _ = _
            simp only [Act.put, List.setIfInBounds_toArray, List.set_cons_zero, List.set_cons_succ, i64_w, i32_w]
            rfl
          refine pure_ (i := 30) (N := some 80) (v := ?_) (a' := ?_) #[true, true, true, true, true, true, true, true, true, true, true, true, true, true, true, true, true, true, true, true, true, true, true, true, true, true, true, true, true, true, true] rfl rfl (by kernel_rfl) (fun _ _ _ h => h) (Or.inl ⟨by rfl, ?_⟩) ?_ ?_
          rotate_left
          · intro w'
            go_simp
            with_reducible rfl
          rotate_left
          · simp only [Act.put, List.setIfInBounds_toArray, List.set_cons_zero, List.set_cons_succ, i64_w, i32_w]
            rfl
          refine done_ (by kernel_rfl) ?_
          have hbb : ((findO p.f0 l).isNone != (findO p.f0 l).isNone) = false := by simp
          have hbb2 : ((findO p.f0 l).isNone == (findO p.f0 l).isNone) = true := by simp
          go_wp2
          go_roundg (100 - (i + 1))
          case measure => omega
          case rel => exact ⟨i + 1, _, _, by omega, by omega, Nat.le_refl _, by omega, by go_num, hsm9, hS10.swap, (hBd.trans hB9).trans hB10⟩
        · have h8 : decide ((i : Int) < 100) = false := decide_eq_false (by omega)
          go_wp2
          go_meet
          case rel => exact ⟨l, m, by omega, hsm.out, hS, hB⟩
      · have hltz : ¬ (i : Int) < (l0.length : Int) := by omega
        go_wp2
        go_meet
        case rel => exact ⟨l, m, by omega, hsm.out, hS, hB⟩
  case rest =>
    obtain ⟨l, m, hl, hsm, hS, hB⟩ := hcut
    have hG := hS.fst.good
    have hGm := hS.snd.good
    have hml := same_len hsm
    have e1 := same_get hsm a2
    have e2 := same_seek hsm a2
    have e3 := same_keys hsm
    have hg1 := get_as (key := a2) hS.fst
    have hg2 := fun (X : World) (hX : LS w.heap.size X lb m) => get_as (key := a2) hX
    have hk1 := fun (X : World) (hX : LS w.heap.size X la l) => seek_as (key := a2) hX
    have hk2 := fun (X : World) (hX : LS w.heap.size X lb m) => seek_as (key := a2) hX
    have hl1 := fun (X : World) (hX : LS w.heap.size X la l) => lane_as (h := 0) hX (by omega)
    have hl2 := fun (X : World) (hX : LS w.heap.size X lb m) => lane_as (h := 0) hX (by omega)
    have hn1 := fun (X : World) (hX : LS w.heap.size X la l) => len_as hX
    have hn2 := fun (X : World) (hX : LS w.heap.size X lb m) => len_as hX
    rw [← e1] at hg2
    rw [← e2] at hk2
    simp only [lane0 hG] at hl1
    simp only [lane0 hGm, ← e3] at hl2
    rw [hml] at hn2
    clear e1 e2 e3 hsm hS3w hBw3 hr0 hr1 hc0 hc1 v0 v1 v2 hlen hlen1 hml
    generalize getO a2 l = g at hg1 hg2
    generalize seekO a2 l = s at hk1 hk2
    obtain ⟨g1, g2⟩ := g
    obtain ⟨s1, s2, s3⟩ := s
    dsimp only at hg1 hg2 hk1 hk2
    have b1 : (g1.toList == g1.toList) = true := by simp
    have b2 : (g2 == g2) = true := by simp
    have b3 : (s1.toList == s1.toList) = true := by simp
    have b4 : (s2.toList == s2.toList) = true := by simp
    have b5 : (s3 == s3) = true := by simp
    go_upto_region 18 with (first
      | (go_at_call 11; refine hg1.mono ?_; clear hg1; rintro e w4 ⟨he, hB4⟩; subst he; have hS4 := hS.below hB4; have hg3 := hg2 _ hS4.snd; clear hg2)
      | (go_at_call 11; refine hg3.mono ?_; clear hg3; rintro e w5 ⟨he, hB5⟩; subst he; have hS5 := hS4.below hB5; have hk3 := hk1 _ hS5.fst; clear hk1)
      | (go_at_call 13; refine hk3.mono ?_; clear hk3; rintro e w6 ⟨he, hB6⟩; subst he; have hS6 := hS5.below hB6; have hk4 := hk2 _ hS6.snd; clear hk2)
      | (go_at_call 13; refine hk4.mono ?_; clear hk4; rintro e w7 ⟨he, hB7⟩; subst he; have hS7 := hS6.below hB7; have hl3 := hl1 _ hS7.fst; clear hl1))
    have hB7' := below_step (below_step (below_step (below_step hB hB4) hB5) hB6) hB7
    clear hB4 hB5 hB6 hB7 hB hS hS4 hS5 hS6
    go_wp2_with (first
      | (go_at_call 17; refine hl3.mono ?_; clear hl3; rintro e w8 ⟨v8, he, hR8, hB8⟩; subst he; have hS8 := hS7.below hB8; obtain ⟨A8, c8, he, hc8, hC8⟩ := hR8.reads; subst he; rw [List.length_map] at hc8 hC8 ⊢; have hl4 := hl2 _ hS8.snd; clear hl2 hR8 hS7)
      | (go_at_call 17; refine hl4.mono ?_; clear hl4; rintro e w9 ⟨v9, he, hR9, hB9⟩; subst he; have hS9 := hS8.below hB9; obtain ⟨A9, c9, he, hc9, hC9⟩ := hR9.reads; subst he; rw [List.length_map] at hc9 hC9 ⊢; have hC8' := Kd.C_below hC8 hB9; clear hR9 hS8)
      | (go_at_call 18; have ht := palinodelaw09_texts.calls _ A8 c8 (l.map (·.1)) A9 c9 (l.map (·.1)) true w9 (by rw [List.length_map]; exact hC8') (by rw [List.length_map]; exact hc8) (by rw [List.length_map]; exact hC9) (by rw [List.length_map]; exact hc9) (texts_same _ (by rw [List.length_map]; omega)); rw [List.length_map] at ht; refine ht.mono ?_; clear ht; rintro e w10 ⟨he, hD10⟩; subst he; have hB10 := hD10.below; have hS10 := hS9.below hB10; have hn3 := hn1 _ hS10.fst; clear hn1)
      | (go_at_call 20; refine hn3.mono ?_; clear hn3; rintro e w11 ⟨he, hB11⟩; subst he; have hS11 := hS10.below hB11; have hn4 := hn2 _ hS11.snd; clear hn2)
      | (go_at_call 20; refine hn4.mono ?_; clear hn4; rintro e w12 ⟨he, hB12⟩; subst he))
    go_ret
    exact ⟨rfl, below_step (below_step (below_step (below_step (below_step hB7' hB8) hB9) hB10) hB11) hB12⟩
end Go.Proofs.Ytdeiaicplcpbeaa.Pure
