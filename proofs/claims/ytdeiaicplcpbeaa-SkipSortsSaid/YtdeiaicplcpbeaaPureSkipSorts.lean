/- All keys stand in their order, each once, with the value that was put last; each lane is a part of the one below (at most 150 puts): for all arguments that the row lets in. -/
import Derived.Test.YtdeiaicplcpbeaaSkipLanes
import Derived.Laws.Cover1
namespace Go.Proofs.Ytdeiaicplcpbeaa.Pure
open Go.RowKit Go.Proofs.Ytdeiaicplcpbeaa.Print Go.Proofs.YtdeiaicplcpbeaaX Go.Proofs.YtdeiaicplcpbeaaW.PrintWords Go.Proofs.YtdeiaicplcpbeaaW.PrintLast Go.Proofs.YtdeiaicplcpbeaaW.PrintMore
set_option linter.unusedVariables false
set_option linter.unusedSimpArgs false

abbrev Pt := S31
set_option maxHeartbeats 4000000 in
set_option maxRecDepth 100000 in
theorem skipSortsWalk (A0 : Option Addr) (c0 : Nat) (l0 : List Pt) (w : World) (hr0 : Kd.C k31 w A0 l0.length l0) (hc0 : l0.length ≤ c0)
    (v0 : l0.length ≤ maxLen ∧ l0.length * 40 ≤ 140737488351232 ∧ ∀ x ∈ l0, V31 x) :
    Calls Try.prog 4 #[.slice A0 l0.length c0] w fun e w' => e = .returned (.bool true) ∧ Below w.heap.size w w' := by
  have hex := examples_calls w
  have hlen : l0.length ≤ 1000000000000000 := by have := v0.2.1; omega
  obtain ⟨n, hn⟩ : ∃ n : Nat, (if (150 : Int) < (l0.length : Int) then 150 else (l0.length : Int)) = (n : Int) := ⟨(if (150 : Int) < (l0.length : Int) then 150 else (l0.length : Int)).toNat, by omega⟩
  have hnl : n ≤ l0.length := by omega
  have hn150 : n ≤ 150 := by omega
  have hncz : (n : Int) ≤ (c0 : Int) := by omega
  have hpn : (l0.take n).length = n := by rw [List.length_take]; omega
  have hr1 : Kd.C k31 w A0 n (l0.take n) := by have := Kd.C_take hr0 hnl; rwa [hpn] at this
  generalize l0.take n = ps at hr1 hpn
  go_enter Try.func4, Try.ntmps4
  go_upto_block 0 with (first
    | (go_at_call 7; refine hex.mono ?_; clear hex; rintro e w1 ⟨he, hB1⟩; subst he; have hn1 := new_as w1)
    | (go_at_call 8; refine hn1.mono ?_; clear hn1; rintro e w2 ⟨lb, he, hS2, hB2⟩; subst he))
  have hBw2 := below_step hB1 hB2
  have hS2w : LS w.heap.size w2 lb [] := by obtain ⟨L, h1, h2, h3⟩ := hS2; exact ⟨L, h1, fun b hb => Nat.le_trans hB1.size (h2 b hb), h3⟩
  clear hS2 hB1 hB2
  clear hn hncz hnl hr0
  go_cut [5] (fun v5 wc => LS w.heap.size wc lb (playO ps) ∧ Below w.heap.size w wc)
  case first =>
    go_wp2
    go_loopg [5] n (fun gg v5 wr => ∃ (i : Nat), i ≤ n ∧ n - i ≤ gg ∧ v5 = .int .i64 i ∧ LS w.heap.size wr lb (playO (ps.take i)) ∧ Below w.heap.size w wr)
    case atStart => exact ⟨0, Nat.zero_le _, Nat.le_refl _, rfl, hS2w, hBw2⟩
    case round =>
      clear hS2w hBw2
      obtain ⟨i, hil, hig, rfl, hS, hB⟩ := hrel
      by_cases hlt : i < n
      · have hltz : (i : Int) < (n : Int) := by omega
        have hlt0 : i < ps.length := by omega
        obtain ⟨ad, hA, hx0, hx1, hx2⟩ := at_T31 (Kd.C_below hr1 hB) (i : Int) (by omega) hltz
        subst hA
        rw [Int.toNat_natCast] at hx0 hx1 hx2
        have hrd : rd_T31 ps (i : Int) = ps[i] := by unfold rd_T31; rw [Int.toNat_natCast, List.getD_eq_getElem?_getD, List.getElem?_eq_getElem hlt0]; rfl
        have hpl : (playO (ps.take i)).length ≤ 1000000 := Nat.le_trans (playO_len _) (by rw [List.length_take]; omega)
        have hnx := playO_take ps i hlt0
        rw [hrd] at hx0 hx1 hx2
        generalize ps[i] = p at hx0 hx1 hx2 hnx
        go_upto_region 9 with (fail)
        have hD : Below wr.heap.size wr wr.drew := below_drew1 (Below.refl _ _)
        have hSd := hS.below hD
        have hBd := below_step hB hD
        refine start_ (S := fun w' => w'.cell? (ad.add (i * 3)) = some (.string p.f0) ∧ w'.cell? ⟨(ad.add (i * 3)).block, (ad.add (i * 3)).off + 1, none⟩ = some (.string p.f1) ∧ w'.cell? ⟨(ad.add (i * 3)).block, (ad.add (i * 3)).off + 2, none⟩ = some (.int .i64 p.f2)) (ds := [16]) #[false, false, false, false, false, false, false, false, false, false, false, false, false, false, false, false, false] (by kernel_rfl) rfl rfl ⟨hx0, hx1, hx2⟩ ?_
        intro hHeld
        generalize wr.drew = Wd at hSd hBd hHeld ⊢
        refine pure_ (i := 0) (N := some 32) (v := ?_) (a' := ?_) #[true, false, false, false, false, false, false, false, false, false, false, false, false, false, false, false, false] rfl rfl (by kernel_rfl) (fun _ _ _ h => h) (Or.inl ⟨by rfl, ?_⟩) ?_ ?_
        rotate_left
        · intro w'
          go_simp
          with_reducible rfl
        rotate_left
        · simp only [Act.put, List.setIfInBounds_toArray, List.set_cons_zero, List.set_cons_succ, i64_w, i32_w]
          rfl
        refine pure_ (i := 1) (N := some 33) (v := ?_) (a' := ?_) #[true, true, false, false, false, false, false, false, false, false, false, false, false, false, false, false, false] rfl rfl (by kernel_rfl) (fun _ _ _ h => h) (Or.inl ⟨by rfl, ?_⟩) ?_ ?_
        rotate_left
        · intro w'
          go_simp
          with_reducible rfl
        rotate_left
        · simp only [Act.put, List.setIfInBounds_toArray, List.set_cons_zero, List.set_cons_succ, i64_w, i32_w]
          rfl
        refine pure_ (i := 2) (N := some 34) (v := ?_) (a' := ?_) #[true, true, true, false, false, false, false, false, false, false, false, false, false, false, false, false, false] rfl rfl (by kernel_rfl) (fun _ _ _ h => h) (Or.inl ⟨by rfl, ?_⟩) ?_ ?_
        rotate_left
        · intro w'
          go_simp
          with_reducible rfl
        rotate_left
        · simp only [Act.put, List.setIfInBounds_toArray, List.set_cons_zero, List.set_cons_succ, i64_w, i32_w]
          rfl
        refine pure_ (i := 3) (N := some 35) (v := ?_) (a' := ?_) #[true, true, true, true, false, false, false, false, false, false, false, false, false, false, false, false, false] rfl rfl (by kernel_rfl) (fun _ _ _ h => h) (Or.inl ⟨by rfl, ?_⟩) ?_ ?_
        rotate_left
        · intro w'
          go_simp
          with_reducible rfl
        rotate_left
        · simp only [Act.put, List.setIfInBounds_toArray, List.set_cons_zero, List.set_cons_succ, i64_w, i32_w]
          rfl
        refine pure_ (i := 4) (N := some 36) (v := ?_) (a' := ?_) #[true, true, true, true, true, false, false, false, false, false, false, false, false, false, false, false, false] rfl rfl (by kernel_rfl) (fun _ _ _ h => h) (Or.inl ⟨by rfl, ?_⟩) ?_ ?_
        rotate_left
        · intro w'
          go_simp
          with_reducible rfl
        rotate_left
        · simp only [Act.put, List.setIfInBounds_toArray, List.set_cons_zero, List.set_cons_succ, i64_w, i32_w]
          rfl
        refine take_ (i := 5) (N := some 37) (v := ?_) (a' := ?_) #[true, true, true, true, true, true, false, false, false, false, false, false, false, false, false, false, false] rfl rfl (by kernel_rfl) (fun _ _ _ h => h) (Or.inl ⟨by rfl, ?_⟩) hHeld ?_ ?_
        rotate_left
        · rintro w' ⟨s0, s1, s2⟩
          go_simp
          with_reducible rfl
        rotate_left
        · simp only [Act.put, List.setIfInBounds_toArray, List.set_cons_zero, List.set_cons_succ, i64_w, i32_w]
          rfl
        refine pure_ (i := 6) (N := some 38) (v := ?_) (a' := ?_) #[true, true, true, true, true, true, true, false, false, false, false, false, false, false, false, false, false] rfl rfl (by kernel_rfl) (fun _ _ _ h => h) (Or.inl ⟨by rfl, ?_⟩) ?_ ?_
        rotate_left
        · intro w'
          go_simp
          with_reducible rfl
        rotate_left
        · simp only [Act.put, List.setIfInBounds_toArray, List.set_cons_zero, List.set_cons_succ, i64_w, i32_w]
          rfl
        refine pure_ (i := 7) (N := some 39) (v := ?_) (a' := ?_) #[true, true, true, true, true, true, true, true, false, false, false, false, false, false, false, false, false] rfl rfl (by kernel_rfl) (fun _ _ _ h => h) (Or.inl ⟨by rfl, ?_⟩) ?_ ?_
        rotate_left
        · intro w'
          go_simp
          with_reducible rfl
        rotate_left
        · simp only [Act.put, List.setIfInBounds_toArray, List.set_cons_zero, List.set_cons_succ, i64_w, i32_w]
          rfl
        refine pure_ (i := 8) (N := some 40) (v := ?_) (a' := ?_) #[true, true, true, true, true, true, true, true, true, false, false, false, false, false, false, false, false] rfl rfl (by kernel_rfl) (fun _ _ _ h => h) (Or.inl ⟨by rfl, ?_⟩) ?_ ?_
        rotate_left
        · intro w'
          go_simp
          with_reducible rfl
        rotate_left
        · simp only [Act.put, List.setIfInBounds_toArray, List.set_cons_zero, List.set_cons_succ, i64_w, i32_w]
          rfl
        refine pure_ (i := 9) (N := some 41) (v := ?_) (a' := ?_) #[true, true, true, true, true, true, true, true, true, true, false, false, false, false, false, false, false] rfl rfl (by kernel_rfl) (fun _ _ _ h => h) (Or.inl ⟨by rfl, ?_⟩) ?_ ?_
        rotate_left
        · intro w'
          go_simp
          with_reducible rfl
        rotate_left
        · simp only [Act.put, List.setIfInBounds_toArray, List.set_cons_zero, List.set_cons_succ, i64_w, i32_w]
          rfl
        refine take_ (i := 10) (N := some 42) (v := ?_) (a' := ?_) #[true, true, true, true, true, true, true, true, true, true, true, false, false, false, false, false, false] rfl rfl (by kernel_rfl) (fun _ _ _ h => h) (Or.inl ⟨by rfl, ?_⟩) hHeld ?_ ?_
        rotate_left
        · rintro w' ⟨s0, s1, s2⟩
          go_simp
          with_reducible rfl
        rotate_left
        · simp only [Act.put, List.setIfInBounds_toArray, List.set_cons_zero, List.set_cons_succ, i64_w, i32_w]
          rfl
        refine pure_ (i := 11) (N := some 43) (v := ?_) (a' := ?_) #[true, true, true, true, true, true, true, true, true, true, true, true, false, false, false, false, false] rfl rfl (by kernel_rfl) (fun _ _ _ h => h) (Or.inl ⟨by rfl, ?_⟩) ?_ ?_
        rotate_left
        · intro w'
          go_simp
          with_reducible rfl
        rotate_left
        · simp only [Act.put, List.setIfInBounds_toArray, List.set_cons_zero, List.set_cons_succ, i64_w, i32_w]
          rfl
        refine pure_ (i := 12) (N := some 44) (v := ?_) (a' := ?_) #[true, true, true, true, true, true, true, true, true, true, true, true, true, false, false, false, false] rfl rfl (by kernel_rfl) (fun _ _ _ h => h) (Or.inl ⟨by rfl, ?_⟩) ?_ ?_
        rotate_left
        · intro w'
          go_simp
          with_reducible rfl
        rotate_left
        · simp only [Act.put, List.setIfInBounds_toArray, List.set_cons_zero, List.set_cons_succ, i64_w, i32_w]
          rfl
        refine pure_ (i := 13) (N := some 45) (v := ?_) (a' := ?_) #[true, true, true, true, true, true, true, true, true, true, true, true, true, true, false, false, false] rfl rfl (by kernel_rfl) (fun _ _ _ h => h) (Or.inl ⟨by rfl, ?_⟩) ?_ ?_
        rotate_left
        · intro w'
          go_simp
          with_reducible rfl
        rotate_left
        · simp only [Act.put, List.setIfInBounds_toArray, List.set_cons_zero, List.set_cons_succ, i64_w, i32_w]
          rfl
        refine pure_ (i := 14) (N := some 46) (v := ?_) (a' := ?_) #[true, true, true, true, true, true, true, true, true, true, true, true, true, true, true, false, false] rfl rfl (by kernel_rfl) (fun _ _ _ h => h) (Or.inl ⟨by rfl, ?_⟩) ?_ ?_
        rotate_left
        · intro w'
          go_simp
          with_reducible rfl
        rotate_left
        · simp only [Act.put, List.setIfInBounds_toArray, List.set_cons_zero, List.set_cons_succ, i64_w, i32_w]
          rfl
        refine take_ (i := 15) (N := some 47) (v := ?_) (a' := ?_) #[true, true, true, true, true, true, true, true, true, true, true, true, true, true, true, true, false] rfl rfl (by kernel_rfl) (fun _ _ _ h => h) (Or.inl ⟨by rfl, ?_⟩) hHeld ?_ ?_
        rotate_left
        · rintro w' ⟨s0, s1, s2⟩
          go_simp
          with_reducible rfl
        rotate_left
        · simp only [Act.put, List.setIfInBounds_toArray, List.set_cons_zero, List.set_cons_succ, i64_w, i32_w]
          rfl
        refine last_ (i := 16) (N := some 48) #[true, true, true, true, true, true, true, true, true, true, true, true, true, true, true, true, true] rfl rfl (by kernel_rfl) (by decide) (fun K hK => ?_)
        refine goes_ Try.func9 (by kernel_rfl) rfl #[.pointer (some ⟨lb, 0, none⟩), .string p.f0, .string p.f1, .int .i64 p.f2] (by rfl) rfl rfl (by (try simp only [List.map_toArray, List.map_cons, List.map_nil]); first | done | rfl) ?_
        refine (put_as w.heap.size lb _ p.f0 p.f1 p.f2 Wd hSd hpl).mono ?_
        rintro e w9 ⟨he, hS9, hB9⟩
        subst he
        refine ⟨_, rfl, ?_⟩
        refine hK.out _ _ ?_
        clear hK K
        refine norm_ (a' := ?_) ?_ ?_
        rotate_left
        · show Act.put _ (some 48) _ = _
          simp only [Act.put, List.setIfInBounds_toArray, List.set_cons_zero, List.set_cons_succ, i64_w, i32_w]
          rfl
        refine done_ (by kernel_rfl) ?_
        rw [← hnx] at hS9
        go_wp2
        go_roundg (n - (i + 1))
        case measure => omega
        case rel => exact ⟨i + 1, by omega, Nat.le_refl _, by go_num, hS9, hBd.trans hB9⟩
      · have hltz : ¬ (i : Int) < (n : Int) := by omega
        obtain rfl : i = n := by omega
        rw [List.take_of_length_le (by omega)] at hS
        go_wp2
        go_meet
        case rel => exact ⟨hS, hB⟩
  case rest =>
    clear hS2w hBw2
    obtain ⟨hS, hB⟩ := hcut
    have hG := hS.good
    have hPl := Nat.le_trans (playO_len ps) (Nat.le_of_eq hpn)
    obtain ⟨l, hl0⟩ : ∃ l, l = playO ps := ⟨_, rfl⟩
    have hlp := Aside0.mk hl0
    rw [← hl0] at hS hG hPl
    clear hl0
    have hla := lane_as (h := 0) hS (by omega)
    rw [lane0 hG] at hla
    go_upto_block 2 with (go_at_call 17; refine hla.mono ?_; rintro e w3 ⟨v6, he, hR3, hB3⟩; subst he)
    obtain ⟨A, c, rfl, hc, hC⟩ := hR3.reads
    rw [List.length_map] at hc hC ⊢
    have hS3 := hS.below hB3
    have hB3w := below_step hB hB3
    clear hR3 hla hS hB hB3
    go_cut [7] (fun v7 wd => Below w3.heap.size w3 wd)
    case first =>
      go_wp2
      go_loopg [7] l.length (fun gg v7 wr => ∃ (i : Nat), i ≤ l.length ∧ l.length - i ≤ gg ∧ v7 = .int .i64 i ∧ Below w3.heap.size w3 wr)
      case atStart => exact ⟨0, Nat.zero_le _, Nat.le_refl _, rfl, Below.refl _ _⟩
      case round =>
        obtain ⟨i, hil, hig, rfl, hB⟩ := hrel
        by_cases hlt : i < l.length
        · have hltz : (i : Int) < (l.length : Int) := by omega
          obtain ⟨ad, hA, hx⟩ := Kd.at_string hC (i : Int) (by omega) hltz
          subst hA
          rw [Int.toNat_natCast] at hx
          have hrd : ∀ j (h : j < l.length), rdOf ByteArray.empty (l.map (·.1)) (j : Int) = l[j].1 := fun j h => by
            unfold rdOf; rw [Int.toNat_natCast, List.getD_eq_getElem?_getD, List.getElem?_map, List.getElem?_eq_getElem h]; rfl
          rw [hrd i hlt] at hx
          have hlast : Aside0 (lastP l[i].1 ps = (l[i].2.1, true)) := ⟨by
            have := lastP_get (ps := ps) (by rw [← hlp.out]; exact hG) i (by rw [← hlp.out]; exact hlt)
            simp only [← hlp.out] at this
            exact this⟩
          obtain ⟨x, hxe⟩ : ∃ x, x = l[i] := ⟨_, rfl⟩
          have hxe' := Aside0.mk hxe
          rw [← hxe] at hlast hx
          clear hxe
          go_upto_block 4 with (fail)
          go_cut [8, 9] (fun v8 v9 wd => v8 = .string x.2.1 ∧ v9 = .bool true ∧ Below w3.heap.size w3 wd)
          case first =>
            go_wp2
            go_loopg [8, 9, 10] n (fun gg v8 v9 v10 wq => ∃ (k : Nat) (z1 : ByteArray) (z2 : Bool), k ≤ n ∧ n - k ≤ gg ∧ v10 = .int .i64 k ∧ v8 = .string z1 ∧ v9 = .bool z2 ∧ Aside0 (lastP x.1 (ps.take k) = (z1, z2)) ∧ Below w3.heap.size w3 wq)
            case atStart => exact ⟨0, _, _, Nat.zero_le _, Nat.le_refl _, rfl, rfl, rfl, ⟨rfl⟩, hB⟩
            case round =>
              clear hB
              obtain ⟨k, z1, z2, hkn, hkg, rfl, rfl, rfl, hz, hB⟩ := hrel
              by_cases hkt : k < n
              · have hktz : (k : Int) < (n : Int) := by omega
                have hk0 : k < ps.length := by omega
                obtain ⟨ad2, hA2, hy0, hy1, hy2⟩ := at_T31 (Kd.C_below hr1 (below_step hB3w (hB.mono (Nat.le_refl _)))) (k : Int) (by omega) hktz
                subst hA2
                rw [Int.toNat_natCast] at hy0 hy1 hy2
                have hrd2 : rd_T31 ps (k : Int) = ps[k] := by unfold rd_T31; rw [Int.toNat_natCast, List.getD_eq_getElem?_getD, List.getElem?_eq_getElem hk0]; rfl
                rw [hrd2] at hy0 hy1 hy2
                clear hrd2 hy2
                have hlt2 := lastP_take x.1 ps k hk0
                rw [hz.out] at hlt2
                generalize ps[k] = p at hy0 hy1 hlt2
                have hxk := (hB.cell (World.block_lt_of_cell? _ _ hx)).trans hx
                clear hz
                by_cases c : p.f0.toList = x.1.toList
                · rw [if_pos c] at hlt2
                  have cb : (p.f0.toList == x.1.toList) = true := beq_iff_eq.2 c
                  have hl9 := Aside0.mk hlt2
                  clear c hlt2
                  go_wp2
                  repeat (go_quiet (fail); try go_wp2)
                  go_roundg (n - (k + 1))
                  case measure => omega
                  case rel => exact ⟨k + 1, _, _, by omega, Nat.le_refl _, by go_num, rfl, rfl, hl9, pw_below_drewN hB _⟩
                · rw [if_neg c] at hlt2
                  have cb : (p.f0.toList == x.1.toList) = false := beq_eq_false_iff_ne.2 c
                  have hl9 := Aside0.mk hlt2
                  clear c hlt2
                  go_wp2
                  repeat (go_quiet (fail); try go_wp2)
                  go_roundg (n - (k + 1))
                  case measure => omega
                  case rel => exact ⟨k + 1, _, _, by omega, Nat.le_refl _, by go_num, rfl, rfl, hl9, pw_below_drewN hB _⟩
              · have hktz : ¬ (k : Int) < (n : Int) := by omega
                obtain rfl : k = n := by omega
                have hz0 := hz.out
                rw [List.take_of_length_le (by omega), hlast.out] at hz0
                obtain ⟨rfl, rfl⟩ := Prod.mk.inj hz0
                clear hz0
                go_wp2
                go_meet
                case rel => exact ⟨rfl, rfl, hB⟩
          case rest =>
            clear hB
            obtain ⟨rfl, rfl, hB⟩ := hcut
            have hxk := (hB.cell (World.block_lt_of_cell? _ _ hx)).trans hx
            have hgt := get_as (key := x.1) (hS3.below hB)
            have hgx : getO x.1 l = (x.2.1, true) := by rw [hxe'.out]; exact getO_at hG i hlt
            rw [hgx] at hgt
            clear hgx hlast
            have hne2 : (x.2.1.toList != x.2.1.toList) = false := by simp
            go_upto_region 23 with (go_at_call 11; refine hgt.mono ?_; clear hgt; rintro e w5 ⟨he, hB5⟩; subst he)
            have hB6 := below_step hB hB5
            have hx6 := (hB6.cell (World.block_lt_of_cell? _ _ hx)).trans hx
            clear hB hB5 hxk
            cases i with
            | zero =>
              go_wp2
              repeat (go_quiet (fail); try go_wp2)
              go_roundg (l.length - 1)
              case measure => omega
              case rel => exact ⟨1, by omega, Nat.le_refl _, by go_num, pw_below_drewN hB6 _⟩
            | succ j =>
              have hj : j < l.length := by omega
              obtain ⟨ad3, hA3, hy⟩ := Kd.at_string hC (j : Int) (by omega) (by omega)
              obtain rfl : ad = ad3 := by cases hA3; rfl
              rw [Int.toNat_natCast, hrd j hj] at hy
              have hy6 := (hB6.cell (World.block_lt_of_cell? _ _ hy)).trans hy
              have hlt3 : Op.bytesLess l[j].1.toList x.1.toList = true := by
                rw [hxe'.out]
                exact List.pairwise_iff_getElem.1 hG.sorted j (j + 1) hj hlt (Nat.lt_succ_self _)
              have hq1 := bl_asym hlt3
              have hq2 : (x.1.toList == l[j].1.toList) = false := beq_eq_false_iff_ne.2 (fun e => bless_ne hlt3 e.symm)
              generalize l[j] = y at hy6 hlt3 hq1 hq2
              obtain ⟨i, hi⟩ : ∃ i, i = j + 1 := ⟨_, rfl⟩
              rw [← hi] at hx6 hltz hil hig hlt ⊢
              have e1 : (i : Int) - 1 = (j : Int) := by omega
              have e2 : decide ((i : Int) > 0) = true := decide_eq_true (by omega)
              have e3 : 0 < i := by omega
              have e4 : (j : Int) < (l.length : Int) := by omega
              have e5 : 0 ≤ (j : Int) := by omega
              have hi' := Aside0.mk hi
              clear hxe' hx hi
              clear hy hrd
              refine wp_region_quiet_lit (by kernel_rfl) (by kernel_rfl) ?_
              repeat (go_big_quiet_step (fail))
              refine wpQuiet_nil ?_
              rintro w7 ⟨nq, hw7⟩
              have hB7 : Below w3.heap.size w3 w7 := hw7 ▸ pw_below_drewN hB6 nq
              clear hw7
              go_wp2
              go_roundg (l.length - (i + 1))
              case measure => omega
              case rel => exact ⟨i + 1, by omega, Nat.le_refl _, by go_num, hB7⟩
        · have hltz : ¬ (i : Int) < (l.length : Int) := by omega
          go_wp2
          go_meet
          case rel => exact hB
    case rest =>
      have hB := hcut
      have hS4 := hS3.below hB
      have hC4 := Kd.C_below hC hB
      have hB4w := below_step hB3w hB
      have hlh := fun (X : World) (hX : LS w.heap.size X lb l) (h : Nat) => lane_as (h := (h : Int)) hX (by omega)
      have hhh := fun (X : World) (hX : LS w.heap.size X lb l) (k : ByteArray) => height_as (key := k) hX
      clear hC hS3 hB3w hB hlp hr1 hcut
      rw [← lane_all hG] at hC4
      have hll : laneL 0 l = l := lane_all hG
      go_upto_block 6 with (go_at_call 20; refine (len_as hS4).mono ?_; rintro e w5 ⟨he, hB5⟩; subst he)
      have hS5 := hS4.below hB5
      have hC5 := Kd.C_below hC4 hB5
      have hB5w := below_step hB4w hB5
      clear hS4 hC4 hB4w hB5
      have hcl : l.length = (laneL 0 l).length := by rw [hll]
      rw [hcl] at hc ⊢
      clear hcl hll
      go_cut [13] (fun v13 wd => Below w5.heap.size w5 wd)
      case first =>
        go_wp2
        go_loopg [6, 13, 14, 15, 16] 12 (fun gg v6 v13 v14 v15 v16 wr => ∃ (h : Nat) (A : Option Addr) (c : Nat), h + 1 ≤ 12 ∧ 12 - (h + 1) ≤ gg ∧ v13 = .int .i64 (h + 1 : Nat) ∧ v6 = .slice A (laneL h l).length c ∧ (laneL h l).length ≤ c ∧ Kd.C Kd.string wr A (laneL h l).length ((laneL h l).map (·.1)) ∧ Below w5.heap.size w5 wr)
        case atStart => exact ⟨0, A, c, by decide, by decide, rfl, rfl, hc, hC5, Below.refl _ _⟩
        case round =>
          clear hC5 hc
          obtain ⟨h, A, c, hh, hhg, rfl, rfl, hc, hC, hB⟩ := hrel
          by_cases hlt : h + 1 < 12
          · have hltz : (h : Int) + 1 < 12 := by omega
            have hS := hS5.below hB
            have hla := hlh _ hS (h + 1)
            rw [laneO_L hlt] at hla
            go_upto_block 8 with (go_at_call 17; refine hla.mono ?_; clear hla; rintro e w6 ⟨v14, he, hR6, hB6⟩; subst he)
            obtain ⟨A6, c6, rfl, hc6, hC6⟩ := hR6.reads
            rw [List.length_map] at hc6 hC6 ⊢
            have hC' := Kd.C_below hC hB6
            have hS6 := hS.below hB6
            have hB6w := below_step hB hB6
            have hMs := lane_sorted hG (h + 1)
            have hBs := lane_sorted hG h
            have hst := Ahd.start (l := l) (h := h)
            have hht : ∀ x ∈ laneL (h + 1) l, h + 1 < heightO x.1 l := fun x hx => lane_height hG hx
            have hMl : (laneL (h + 1) l).length ≤ 150 := Nat.le_trans (lane_len _ _) (by omega)
            have hBl : (laneL h l).length ≤ 150 := Nat.le_trans (lane_len _ _) (by omega)
            clear hR6 hS hC hB hB6
            go_cut [15, 16] (fun v15 v16 wd => Below w6.heap.size w6 wd)
            case first =>
              generalize hMe : laneL (h + 1) l = M at *
              generalize hBe : laneL h l = B at *
              clear hMe hBe hh hhg hltz hlt hlh hB5w
              go_wp2
              go_loopg [15, 16] M.length (fun gg v15 v16 wr => ∃ (i a : Nat), i ≤ M.length ∧ M.length - i ≤ gg ∧ v15 = .int .i64 a ∧ v16 = .int .i64 i ∧ Ahd M B i a ∧ Below w6.heap.size w6 wr)
              case atStart => exact ⟨0, 0, Nat.zero_le _, Nat.le_refl _, rfl, rfl, hst, Below.refl _ _⟩
              case round =>
                clear hst
                obtain ⟨i, a, hil, hig, rfl, rfl, hst, hB⟩ := hrel
                by_cases hli : i < M.length
                · have hliz : (i : Int) < (M.length : Int) := by omega
                  obtain ⟨ad, hA, hx⟩ := Kd.at_string (Kd.C_below hC6 hB) (i : Int) (by omega) hliz
                  subst hA
                  have hrd : ∀ (M : List One) j (h : j < M.length), rdOf ByteArray.empty (M.map (·.1)) (j : Int) = M[j].1 := fun M j h => by
                    unfold rdOf; rw [Int.toNat_natCast, List.getD_eq_getElem?_getD, List.getElem?_map, List.getElem?_eq_getElem h]; rfl
                  rw [Int.toNat_natCast, hrd M i hli] at hx
                  go_upto_block 10 with (fail)
                  go_cut [15] (fun v15 wd => ∃ a : Nat, v15 = .int .i64 a ∧ a < B.length ∧ Ahd M B i a ∧ Below w6.heap.size w6 wd)
                  case first =>
                    go_wp2
                    go_loopg [15] B.length (fun gg v15 wq => ∃ (a : Nat), v15 = .int .i64 a ∧ B.length - a ≤ gg ∧ Ahd M B i a ∧ Below w6.heap.size w6 wq)
                    case atStart => exact ⟨a, rfl, by omega, hst, hB⟩
                    case round =>
                      clear hst hx hB
                      obtain ⟨a, rfl, hag, hst, hB⟩ := hrel
                      have hal := hst.here hli
                      have halz : (a : Int) < (B.length : Int) := by omega
                      obtain ⟨ad2, hA2, hy⟩ := Kd.at_string (Kd.C_below hC' hB) (a : Int) (by omega) halz
                      subst hA2
                      rw [Int.toNat_natCast, hrd B a hal] at hy
                      obtain ⟨ad3, hA3, hx⟩ := Kd.at_string (Kd.C_below hC6 hB) (i : Int) (by omega) hliz
                      obtain rfl : ad = ad3 := by cases hA3; rfl
                      rw [Int.toNat_natCast, hrd M i hli] at hx
                      by_cases c : B[a].1.toList = M[i].1.toList
                      · have cb : (B[a].1.toList == M[i].1.toList) = true := beq_iff_eq.2 c
                        clear c hA3
                        generalize M[i] = x at hx cb
                        generalize B[a] = y at hy cb
                        go_wp2
                        repeat (go_quiet (fail); try go_wp2)
                        go_meet
                        case rel => exact ⟨a, rfl, hal, hst, pw_below_drewN hB _⟩
                      · have hst2 := hst.on hli hMs hBs hal c
                        have cb : (B[a].1.toList == M[i].1.toList) = false := beq_eq_false_iff_ne.2 c
                        clear c hA3
                        generalize M[i] = x at hx cb
                        generalize B[a] = y at hy cb
                        go_wp2
                        repeat (go_quiet (fail); try go_wp2)
                        go_roundg (B.length - (a + 1))
                        case measure => omega
                        case rel => exact ⟨a + 1, by go_num, Nat.le_refl _, hst2, pw_below_drewN hB _⟩
                  case rest =>
                    clear hst hB hx
                    obtain ⟨a, rfl, hal, hst, hB⟩ := hcut
                    obtain ⟨ad3, hA3, hx⟩ := Kd.at_string (Kd.C_below hC6 hB) (i : Int) (by omega) hliz
                    obtain rfl : ad = ad3 := by cases hA3; rfl
                    rw [Int.toNat_natCast, hrd M i hli] at hx
                    have hS7 := hS6.below hB
                    have hhx := hht M[i] (List.getElem_mem hli)
                    have hhh2 := hhh _ hS7 M[i].1
                    generalize heightO M[i].1 l = q at hhx hhh2
                    have hq2 : decide ((q : Int) ≤ (h : Int) + 1) = false := decide_eq_false (by omega)
                    have hal2 : ((a : Int) == (B.length : Int)) = false := beq_eq_false_iff_ne.2 (by omega)
                    have hal3 : (a == B.length) = false := beq_eq_false_iff_ne.2 (by omega)
                    have hst2 := hst.next
                    generalize M[i] = x at hx hhh2
                    go_wp2_with (go_at_call 15; refine hhh2.mono ?_; clear hhh2; rintro e w8 ⟨he, hB8⟩; subst he)
                    go_roundg (M.length - (i + 1))
                    case measure => omega
                    case rel => exact ⟨i + 1, a, by omega, Nat.le_refl _, rfl, by go_num, hst2, below_step hB hB8⟩
                · have hliz : ¬ (i : Int) < (M.length : Int) := by omega
                  go_wp2
                  go_meet
                  case rel => exact hB
            case rest =>
              have hBx := below_step hB6w hcut
              go_wp2
              go_roundg (12 - (h + 1 + 1))
              case measure => omega
              case rel => exact ⟨h + 1, A6, c6, by omega, Nat.le_refl _, by go_num, rfl, hc6, Kd.C_below hC6 hcut, hBx⟩
          · have hltz : ¬ (h : Int) + 1 < 12 := by omega
            have hltw : decide ((h : Int) + 1 < 12) = false := decide_eq_false hltz
            go_wp2
            go_meet
            case rel => exact hB
      case rest =>
        have hl12 := lane_as (h := 12) (hS5.below hcut) (by omega)
        rw [laneO_12] at hl12
        go_wp2_with (go_at_call 17; refine hl12.mono ?_; clear hl12; rintro e w6 ⟨v6, he, hR6, hB6⟩; subst he; obtain ⟨A6, c6, he, hc6, hC6⟩ := hR6.reads; subst he)
        go_ret
        exact ⟨rfl, below_step (below_step hB5w hcut) hB6⟩
end Go.Proofs.Ytdeiaicplcpbeaa.Pure
