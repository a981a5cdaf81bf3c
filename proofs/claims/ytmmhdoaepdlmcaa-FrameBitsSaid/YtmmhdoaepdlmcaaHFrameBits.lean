/- Contracts proved by hand: see the theorems' own lines. -/
import Derived.Test.YtmmhdoaepdlmcaaPrint0
import Derived.Test.YtmmhdoaepdlmcaaPrint4
import Derived.Test.YtmmhdoaepdlmcaaPrint5
import Derived.Test.YtmmhdoaepdlmcaaPrint7
import Derived.Test.YtmmhdoaepdlmcaaPrint8
import Derived.Test.YtmmhdoaepdlmcaaXBytesRow
namespace Go.Proofs.Ytmmhdoaepdlmcaa.Print
open Go.RowKit Go.Proofs.YtmmhdoaepdlmcaaW.PrintWords Go.Proofs.YtmmhdoaepdlmcaaW.PrintLast Go.Proofs.YtmmhdoaepdlmcaaW.PrintMore Go.Proofs.YtmmhdoaepdlmcaaX
set_option linter.unusedVariables false
set_option linter.unusedSimpArgs false

/-- Some of the n bits from the p-th one on are turned, the first one among them: behind 'pre' bytes. -/
def Flips (pre p : Nat) (xs0 : List Int) : Nat → List Int → Prop
  | 0, xs => xs = xs0
  | n + 1, xs => ∃ ys, Flips pre p xs0 n ys ∧ (xs = ys.set (pre + (p + n) / 8) (bits .xor .u8 (ys.getD (pre + (p + n) / 8) 0) (2 ^ ((p + n) % 8))) ∨ n ≠ 0 ∧ xs = ys)
theorem Flips.length {pre p : Nat} {xs0 : List Int} : ∀ {n : Nat} {xs : List Int}, Flips pre p xs0 n xs → xs.length = xs0.length
  | 0, xs, h => by rw [show xs = xs0 from h]
  | n + 1, xs, ⟨ys, h, hx⟩ => by
    rcases hx with rfl | ⟨_, rfl⟩
    · rw [List.length_set, Flips.length h]
    · exact Flips.length h
theorem bits_ix (fr q n : Nat) (h : fr + q / 8 < n) (hn : n ≤ 1000000) : ((0 ≤ wrap64 ((fr : Int) + wrap64 ((q : Int) / 8))) = True) ∧ ((wrap64 ((fr : Int) + wrap64 ((q : Int) / 8)) < (n : Int)) = True) ∧ (wrap64 ((fr : Int) + wrap64 ((q : Int) / 8))).toNat = fr + q / 8 := by
  have e1 : wrap64 ((q : Int) / 8) = ((q / 8 : Nat) : Int) := by
    unfold wrap64; omega
  have e2 : wrap64 ((fr : Int) + wrap64 ((q : Int) / 8)) = ((fr + q / 8 : Nat) : Int) := by
    rw [e1]; clear e1; unfold wrap64; omega
  rw [e2]
  clear e1 e2
  exact ⟨eq_true (by omega), eq_true (by omega), by omega⟩
theorem bits_sh (P : Program) (q : Nat) (W : World) : (Op.shift BinOp.shl IntKind.u8 1 IntKind.i64 ((q : Int).tmod 8)).run P W = .ok (.int .u8 (2 ^ (q % 8))) W := by
  have e : (q : Int).tmod 8 = ((q % 8 : Nat) : Int) := by rw [Int.tmod_eq_emod_of_nonneg (by omega)]; omega
  rw [e, shift_shl .u8 .i64 1 _ (by omega) (by show _ ≤ (8 : Int); omega)]
  have hl : q % 8 < 8 := Nat.mod_lt _ (by decide)
  generalize q % 8 = r at hl
  have : r = 0 ∨ r = 1 ∨ r = 2 ∨ r = 3 ∨ r = 4 ∨ r = 5 ∨ r = 6 ∨ r = 7 := by omega
  rcases this with rfl | rfl | rfl | rfl | rfl | rfl | rfl | rfl <;> rfl

set_option maxHeartbeats 4000000 in
set_option maxRecDepth 100000 in
theorem palinodelaw03_FrameBits.calls (k : Nat) (s : ByteArray) (at_ turn : Int) (a : ByteArray) (p : Nat) (w : World) (hat : -9223372036854775808 ≤ at_ ∧ at_ ≤ 9223372036854775807) (hturn : -9223372036854775808 ≤ turn ∧ turn ≤ 9223372036854775807) (hs1 : 1 ≤ s.size) (hs2 : s.size ≤ 2000) (hex : palinodelaw03_examples.f k = some true) (hput : frame_Put.f k s = some (a, none)) (ha1 : s.size + 4 ≤ a.size) (ha2 : a.size ≤ 4000)
    (hp : (p : Int) = Int.tmod (if at_ < 0 then -(at_ + 1) else at_) (8 * s.size)) (hpl : p < 8 * s.size)
    (htake : ∀ (n : Nat) (xs : List Int), 1 ≤ n → n ≤ 32 → p + n ≤ 8 * s.size → Flips (a.size - 4 - s.size) p (bytesOf a) n xs → ∃ t1 t2, frame_Take.f (strOfNums xs) = some (t1, t2, some 4)) :
    Calls Try.prog 5 #[.string s, .int .i64 at_, .int .i64 turn] w fun e w' => e = .returned (.bool true) ∧ Below w.heap.size w w' := by
  have HB := Aside0.mk (Below.refl w.heap.size w)
  have HEX := Aside0.mk hex
  have HPUT := Aside0.mk hput
  have HTAKE := Aside0.mk htake
  have HP := Aside0.mk hp
  clear hex hput htake hp
  have kb := fun (W : World) => print_bytes (P := Try.prog) 9 36 5 Try.underlying9 Try.underlying36 Try.underlying5 a W
  have c1 : ¬ s.size < 1 := by omega
  have c2 : ¬ 2000 < s.size := by omega
  go_enter Try.func5, Try.ntmps5
  go_wp2_with (first | (go_at_call 9; (with_reducible refine (palinodelaw03_examples.calls k true _ HEX.out).mono ?_); rintro e w1 ⟨rfl, hb⟩; have n0_ := Aside0.mk (Yv HB hb); clear HB hb; have HB := n0_; clear n0_) | (go_at_call 10; (with_reducible refine (frame_Put.calls k s a _ _ HPUT.out).mono ?_); rintro e w2 ⟨rfl, hb⟩; have n0_ := Aside0.mk (Yv HB hb); clear HB hb; have HB := n0_; clear n0_; simp only [errW_none, errW_some]))
  all_goals (
    have hp1 := HP.out
    first | rw [if_pos (by omega : at_ < 0), Int.neg_tmod] at hp1 | rw [if_neg (by omega : ¬ at_ < 0), Int.tmod_eq_emod_of_nonneg (by omega)] at hp1
    rw [← hp1]
    clear hp1
    first | rw [show decide (at_ < 0) = true from decide_eq_true (by omega)] | rw [show decide (at_ < 0) = false from decide_eq_false (by omega)]
    have HV := Aside0.mk (BRow_conv w2 w.heap.size 5 a (below_size HB.out) (by omega))
    have n0_ := Aside0.mk (bytes_below HB.out (below_size HB.out) 5 a)
    have hgb := below_size HB.out
    clear HB; have HB := n0_; clear n0_
    obtain ⟨N, hN⟩ : ∃ N, N = min 32 (8 * s.size - p) := ⟨_, rfl⟩
    have hN0 : 1 ≤ N ∧ N ≤ 32 ∧ p + N ≤ 8 * s.size := by omega
    generalize hg_ : w2.heap.size = g at HV ⊢
    rw [hg_] at hgb
    generalize grownCap w2 a.size 0 5 = cap at HV ⊢
    generalize Lib.bytesWorld w2 5 a = w3 at HV HB ⊢
    obtain ⟨fr, hfr⟩ : ∃ fr : Nat, fr = a.size - 4 - s.size := ⟨_, rfl⟩
    have hfr1 : (a.size : Int) - 4 - s.size = (fr : Int) := by omega
    rw [hfr1]
    rw [← hfr] at HTAKE
    have HFR := Aside0.mk hfr
    clear hfr hfr1
    go_loopg [12] N (fun kq v12 w' => ∃ (i : Nat) (xs : List Int), v12 = .int .i64 i ∧ Aside0 (i + kq = N) ∧ Aside0 (Flips fr p (bytesOf a) i xs) ∧ Aside0 (BRow w' w.heap.size 5 (.slice (some ⟨g, 0, none⟩) a.size cap) xs) ∧ Aside0 (Below w.heap.size w w'))
    case atStart => exact ⟨0, bytesOf a, rfl, ⟨by omega⟩, ⟨rfl⟩, HV, HB⟩
    case round =>
      clear HV
      obtain ⟨i, xs, rfl, HI, HF, HV, HB⟩ := hrel
      have hxl : xs.length = a.size := by rw [Flips.length HF.out, bytesOf_length]
      cases gk with
      | zero =>
        have hi := HI.out
        have hiN : i = N := by omega
        rw [← hxl] at HV
        have hcv := Kd.C_string (P := Try.prog) (A := some ⟨g, 0, none⟩) (c := cap) Try.underlying36 Try.underlying5 Try.underlying9 (BRow.reads HV.out)
        rw [hxl] at hcv
        obtain ⟨t1, t2, HT0⟩ := HTAKE.out i xs (by omega) (by omega) (by omega) HF.out
        have HT := Aside0.mk HT0
        clear HT0
        have HIS : palinodelaw03_is.f (some 4) 4 = some true := rfl
        go_wp2_with (first | (go_at_call 15; (with_reducible refine (frame_Take.calls (strOfNums xs) t1 t2 (some 4) _ HT.out).mono ?_); rintro e w8 ⟨rfl, hb⟩; have n0_ := Aside0.mk (Yv HB hb); clear HB hb; have HB := n0_; clear n0_; simp only [errW_none, errW_some]))
        all_goals (
          refine (palinodelaw03_is.calls (some 4) 4 true _ HIS).mono ?_
          rintro e w9 ⟨rfl, hd⟩
          have n0_ := Aside0.mk (Yv HB hd.below)
          clear HB hd; have HB := n0_; clear n0_
          go_wp2
          refine bodyPost_ret (results_tmp rfl _ _ _) rfl ?_
          exact ⟨rfl, HB.out⟩)
      | succ m =>
        have hi := HI.out
        have hi1 : i < 32 := by omega
        have hi2 : (p : Int) + i < 8 * s.size := by omega
        go_wp2
        rotate_left 2
        · go_roundg m
          case measure => omega
          case rel => exact ⟨i + 1, xs, (by go_num), ⟨by omega⟩, ⟨⟨xs, HF.out, .inr ⟨by omega, rfl⟩⟩⟩, HV, HB⟩
        · have hi0 : i = 0 := by omega
          subst hi0
          --REG2
          have hj : fr + p / 8 < xs.length := by have := HFR.out; omega
          obtain ⟨p0, q0, j0⟩ := bits_ix fr p a.size (by omega) (by omega)
          have hsh := bits_sh Try.prog p
          have HV1 := Aside0.mk (HV.out)
          rw [← hxl] at HV1
          have n0_ := Aside0.mk (Yd HB.out); have n1_ := Aside0.mk (BRow.drew HV1.out)
          clear HB HV HV1
          have HB := n0_; have HV := n1_
          clear n0_ n1_
          obtain ⟨hc, hf⟩ := BRow.cell HV.out (fr + p / 8) hj
          have hxe : xs[fr + p / 8] = xs.getD (fr + p / 8) 0 := by rw [List.getD_eq_getElem?_getD, List.getElem?_eq_getElem hj]; rfl
          rw [hxe] at hc
          clear hxe
          generalize hx_ : xs.getD (fr + p / 8) 0 = x at hc
          refine start_ (n := 18) (S := fun w' => w'.cell? ⟨g, fr + p / 8, none⟩ = some (.int .u8 x)) (ds := [17]) #[false, false, false, false, false, false, false, false, false, false, false, false, false, false, false, false, false, false] (by kernel_rfl) rfl rfl hc (fun hHeld => ?_)
          generalize wr.drew = w20 at HB HV hc hf hHeld ⊢
          refine pure_ (i := 0) (N := some 85) (v := ?_) (a' := ?_) #[true, false, false, false, false, false, false, false, false, false, false, false, false, false, false, false, false, false] rfl rfl (by kernel_rfl) (fun _ _ _ h => h) (Or.inl ⟨by rfl, ?_⟩) ?_ ?_
          rotate_left
          · intro w'
            go_simp
            with_reducible rfl
          rotate_left
          · simp only [Act.put, List.setIfInBounds_toArray, List.set_cons_zero, List.set_cons_succ, i64_w, i32_w]
            rfl
          refine pure_ (i := 1) (N := some 86) (v := ?_) (a' := ?_) #[true, true, false, false, false, false, false, false, false, false, false, false, false, false, false, false, false, false] rfl rfl (by kernel_rfl) (fun _ _ _ h => h) (Or.inl ⟨by rfl, ?_⟩) ?_ ?_
          rotate_left
          · intro w'
            go_simp
            with_reducible rfl
          rotate_left
          · simp only [Act.put, List.setIfInBounds_toArray, List.set_cons_zero, List.set_cons_succ, i64_w, i32_w]
            rfl
          refine pure_ (i := 2) (N := some 87) (v := ?_) (a' := ?_) #[true, true, true, false, false, false, false, false, false, false, false, false, false, false, false, false, false, false] rfl rfl (by kernel_rfl) (fun _ _ _ h => h) (Or.inl ⟨by rfl, ?_⟩) ?_ ?_
          rotate_left
          · intro w'
            go_simp
            with_reducible rfl
          rotate_left
          · simp only [Act.put, List.setIfInBounds_toArray, List.set_cons_zero, List.set_cons_succ, i64_w, i32_w]
            rfl
          refine pure_ (i := 3) (N := some 88) (v := ?_) (a' := ?_) #[true, true, true, true, false, false, false, false, false, false, false, false, false, false, false, false, false, false] rfl rfl (by kernel_rfl) (fun _ _ _ h => h) (Or.inl ⟨by rfl, ?_⟩) ?_ ?_
          rotate_left
          · intro w'
            go_simp
            with_reducible rfl
          rotate_left
          · simp only [Act.put, List.setIfInBounds_toArray, List.set_cons_zero, List.set_cons_succ, i64_w, i32_w]
            rfl
          refine pure_ (i := 4) (N := some 89) (v := ?_) (a' := ?_) #[true, true, true, true, true, false, false, false, false, false, false, false, false, false, false, false, false, false] rfl rfl (by kernel_rfl) (fun _ _ _ h => h) (Or.inl ⟨by rfl, ?_⟩) ?_ ?_
          rotate_left
          · intro w'
            go_simp
            with_reducible rfl
          rotate_left
          · simp only [Act.put, List.setIfInBounds_toArray, List.set_cons_zero, List.set_cons_succ, i64_w, i32_w]
            rfl
          refine pure_ (i := 5) (N := some 90) (v := ?_) (a' := ?_) #[true, true, true, true, true, true, false, false, false, false, false, false, false, false, false, false, false, false] rfl rfl (by kernel_rfl) (fun _ _ _ h => h) (Or.inl ⟨by rfl, ?_⟩) ?_ ?_
          rotate_left
          · intro w'
            go_simp
            with_reducible rfl
          rotate_left
          · simp only [Act.put, List.setIfInBounds_toArray, List.set_cons_zero, List.set_cons_succ, i64_w, i32_w]
            rfl
          refine pure_ (i := 6) (N := some 91) (v := ?_) (a' := ?_) #[true, true, true, true, true, true, true, false, false, false, false, false, false, false, false, false, false, false] rfl rfl (by kernel_rfl) (fun _ _ _ h => h) (Or.inl ⟨by rfl, ?_⟩) ?_ ?_
          rotate_left
          · intro w'
            go_simp
            with_reducible rfl
          rotate_left
          · simp only [Act.put, List.setIfInBounds_toArray, List.set_cons_zero, List.set_cons_succ, i64_w, i32_w]
            rfl
          refine pure_ (i := 7) (N := some 92) (v := ?_) (a' := ?_) #[true, true, true, true, true, true, true, true, false, false, false, false, false, false, false, false, false, false] rfl rfl (by kernel_rfl) (fun _ _ _ h => h) (Or.inl ⟨by rfl, ?_⟩) ?_ ?_
          rotate_left
          · intro w'
            go_simp
            with_reducible rfl
          rotate_left
          · simp only [Act.put, List.setIfInBounds_toArray, List.set_cons_zero, List.set_cons_succ, i64_w, i32_w]
            rfl
          refine pure_ (i := 8) (N := some 93) (v := ?_) (a' := ?_) #[true, true, true, true, true, true, true, true, true, false, false, false, false, false, false, false, false, false] rfl rfl (by kernel_rfl) (fun _ _ _ h => h) (Or.inl ⟨by rfl, ?_⟩) ?_ ?_
          rotate_left
          · intro w'
            go_simp
            with_reducible rfl
          rotate_left
          · simp only [Act.put, List.setIfInBounds_toArray, List.set_cons_zero, List.set_cons_succ, i64_w, i32_w]
            rfl
          refine pure_ (i := 9) (N := some 94) (v := ?_) (a' := ?_) #[true, true, true, true, true, true, true, true, true, true, false, false, false, false, false, false, false, false] rfl rfl (by kernel_rfl) (fun _ _ _ h => h) (Or.inl ⟨by rfl, ?_⟩) ?_ ?_
          rotate_left
          · intro w'
            go_simp
            with_reducible rfl
          rotate_left
          · simp only [Act.put, List.setIfInBounds_toArray, List.set_cons_zero, List.set_cons_succ, i64_w, i32_w]
            rfl
          refine pure_ (i := 10) (N := some 95) (v := ?_) (a' := ?_) #[true, true, true, true, true, true, true, true, true, true, true, false, false, false, false, false, false, false] rfl rfl (by kernel_rfl) (fun _ _ _ h => h) (Or.inl ⟨by rfl, ?_⟩) ?_ ?_
          rotate_left
          · intro w'
            go_simp
            with_reducible rfl
          rotate_left
          · simp only [Act.put, List.setIfInBounds_toArray, List.set_cons_zero, List.set_cons_succ, i64_w, i32_w]
            rfl
          refine take_ (i := 11) (N := some 96) (v := ?_) (a' := ?_) #[true, true, true, true, true, true, true, true, true, true, true, true, false, false, false, false, false, false] rfl rfl (by kernel_rfl) (fun _ _ _ h => h) (Or.inl ⟨by rfl, ?_⟩) hHeld ?_ ?_
          rotate_left
          · rintro w' s0
            go_simp
            with_reducible rfl
          rotate_left
          · simp only [Act.put, List.setIfInBounds_toArray, List.set_cons_zero, List.set_cons_succ, i64_w, i32_w]
            rfl
          refine pure_ (i := 12) (N := some 97) (v := ?_) (a' := ?_) #[true, true, true, true, true, true, true, true, true, true, true, true, true, false, false, false, false, false] rfl rfl (by kernel_rfl) (fun _ _ _ h => h) (Or.inl ⟨by rfl, ?_⟩) ?_ ?_
          rotate_left
          · intro w'
            go_simp
            with_reducible rfl
          rotate_left
          · simp only [Act.put, List.setIfInBounds_toArray, List.set_cons_zero, List.set_cons_succ, i64_w, i32_w]
            rfl
          refine pure_ (i := 13) (N := some 98) (v := ?_) (a' := ?_) #[true, true, true, true, true, true, true, true, true, true, true, true, true, true, false, false, false, false] rfl rfl (by kernel_rfl) (fun _ _ _ h => h) (Or.inl ⟨by rfl, ?_⟩) ?_ ?_
          rotate_left
          · intro w'
            go_simp
            with_reducible rfl
          rotate_left
          · simp only [Act.put, List.setIfInBounds_toArray, List.set_cons_zero, List.set_cons_succ, i64_w, i32_w]
            rfl
          refine pure_ (i := 14) (N := some 99) (v := ?_) (a' := ?_) #[true, true, true, true, true, true, true, true, true, true, true, true, true, true, true, false, false, false] rfl rfl (by kernel_rfl) (fun _ _ _ h => h) (Or.inl ⟨by rfl, ?_⟩) ?_ ?_
          rotate_left
          · intro w'
            go_simp
            with_reducible rfl
          rotate_left
          · simp only [Act.put, List.setIfInBounds_toArray, List.set_cons_zero, List.set_cons_succ, i64_w, i32_w]
            rfl
          refine pure_ (i := 15) (N := some 100) (v := ?_) (a' := ?_) #[true, true, true, true, true, true, true, true, true, true, true, true, true, true, true, true, false, false] rfl rfl (by kernel_rfl) (fun _ _ _ h => h) (Or.inl ⟨by rfl, ?_⟩) ?_ ?_
          rotate_left
          · intro w'
            go_simp
            with_reducible rfl
          rotate_left
          · simp only [Act.put, List.setIfInBounds_toArray, List.set_cons_zero, List.set_cons_succ, i64_w, i32_w]
            rfl
          refine pure_ (i := 16) (N := some 101) (v := ?_) (a' := ?_) #[true, true, true, true, true, true, true, true, true, true, true, true, true, true, true, true, true, false] rfl rfl (by kernel_rfl) (fun _ _ _ h => h) (Or.inl ⟨by rfl, ?_⟩) ?_ ?_
          rotate_left
          · intro w'
            go_simp
            with_reducible rfl
          rotate_left
          · simp only [Act.put, List.setIfInBounds_toArray, List.set_cons_zero, List.set_cons_succ, i64_w, i32_w]
            rfl
          refine last_ (i := 17) (N := none) #[true, true, true, true, true, true, true, true, true, true, true, true, true, true, true, true, true, true] rfl rfl (by kernel_rfl) (by decide) (fun K hK => ?_)
          refine skip_ (w1 := ?_) (by rfl) rfl ?_ ?_
          rotate_left
          · go_simp
            rfl
          refine hK.out _ _ ?_
          clear hK K
          refine done_ (by kernel_rfl) ?_
          go_wp2
          go_roundg m
          case measure => omega
          case rel =>
            have hgA := Aside0.mk hgb
            have hB := BRow.set HV.out (fr + p / 8) (bits .xor .u8 x (2 ^ (p % 8)))
            rw [hxl] at hB
            refine ⟨0 + 1, xs.set (fr + p / 8) (bits .xor .u8 x (2 ^ (p % 8))), (by go_num), ⟨by omega⟩, ⟨⟨xs, HF.out, .inl ?_⟩⟩, ⟨hB⟩, ⟨Yr HB⟩⟩
            rw [show p + 0 = p by omega, hx_]
          --END2
        · obtain ⟨q, hq⟩ : ∃ q : Nat, (q : Int) = p + i := ⟨p + i, by omega⟩
          rw [← hq]; have HQ := Aside0.mk hq; clear hq
          --REG1
          have hj : fr + q / 8 < xs.length := by have := HFR.out; have := HQ.out; omega
          obtain ⟨p0, q0, j0⟩ := bits_ix fr q a.size (by omega) (by omega)
          have hsh := bits_sh Try.prog q
          have HV1 := Aside0.mk (HV.out)
          rw [← hxl] at HV1
          have n0_ := Aside0.mk (Yd HB.out); have n1_ := Aside0.mk (BRow.drew HV1.out)
          clear HB HV HV1
          have HB := n0_; have HV := n1_
          clear n0_ n1_
          obtain ⟨hc, hf⟩ := BRow.cell HV.out (fr + q / 8) hj
          have hxe : xs[fr + q / 8] = xs.getD (fr + q / 8) 0 := by rw [List.getD_eq_getElem?_getD, List.getElem?_eq_getElem hj]; rfl
          rw [hxe] at hc
          clear hxe
          generalize hx_ : xs.getD (fr + q / 8) 0 = x at hc
          refine start_ (n := 18) (S := fun w' => w'.cell? ⟨g, fr + q / 8, none⟩ = some (.int .u8 x)) (ds := [17]) #[false, false, false, false, false, false, false, false, false, false, false, false, false, false, false, false, false, false] (by kernel_rfl) rfl rfl hc (fun hHeld => ?_)
          generalize wr.drew = w20 at HB HV hc hf hHeld ⊢
          refine pure_ (i := 0) (N := some 85) (v := ?_) (a' := ?_) #[true, false, false, false, false, false, false, false, false, false, false, false, false, false, false, false, false, false] rfl rfl (by kernel_rfl) (fun _ _ _ h => h) (Or.inl ⟨by rfl, ?_⟩) ?_ ?_
          rotate_left
          · intro w'
            go_simp
            with_reducible rfl
          rotate_left
          · simp only [Act.put, List.setIfInBounds_toArray, List.set_cons_zero, List.set_cons_succ, i64_w, i32_w]
            rfl
          refine pure_ (i := 1) (N := some 86) (v := ?_) (a' := ?_) #[true, true, false, false, false, false, false, false, false, false, false, false, false, false, false, false, false, false] rfl rfl (by kernel_rfl) (fun _ _ _ h => h) (Or.inl ⟨by rfl, ?_⟩) ?_ ?_
          rotate_left
          · intro w'
            go_simp
            with_reducible rfl
          rotate_left
          · simp only [Act.put, List.setIfInBounds_toArray, List.set_cons_zero, List.set_cons_succ, i64_w, i32_w]
            rfl
          refine pure_ (i := 2) (N := some 87) (v := ?_) (a' := ?_) #[true, true, true, false, false, false, false, false, false, false, false, false, false, false, false, false, false, false] rfl rfl (by kernel_rfl) (fun _ _ _ h => h) (Or.inl ⟨by rfl, ?_⟩) ?_ ?_
          rotate_left
          · intro w'
            go_simp
            with_reducible rfl
          rotate_left
          · simp only [Act.put, List.setIfInBounds_toArray, List.set_cons_zero, List.set_cons_succ, i64_w, i32_w]
            rfl
          refine pure_ (i := 3) (N := some 88) (v := ?_) (a' := ?_) #[true, true, true, true, false, false, false, false, false, false, false, false, false, false, false, false, false, false] rfl rfl (by kernel_rfl) (fun _ _ _ h => h) (Or.inl ⟨by rfl, ?_⟩) ?_ ?_
          rotate_left
          · intro w'
            go_simp
            with_reducible rfl
          rotate_left
          · simp only [Act.put, List.setIfInBounds_toArray, List.set_cons_zero, List.set_cons_succ, i64_w, i32_w]
            rfl
          refine pure_ (i := 4) (N := some 89) (v := ?_) (a' := ?_) #[true, true, true, true, true, false, false, false, false, false, false, false, false, false, false, false, false, false] rfl rfl (by kernel_rfl) (fun _ _ _ h => h) (Or.inl ⟨by rfl, ?_⟩) ?_ ?_
          rotate_left
          · intro w'
            go_simp
            with_reducible rfl
          rotate_left
          · simp only [Act.put, List.setIfInBounds_toArray, List.set_cons_zero, List.set_cons_succ, i64_w, i32_w]
            rfl
          refine pure_ (i := 5) (N := some 90) (v := ?_) (a' := ?_) #[true, true, true, true, true, true, false, false, false, false, false, false, false, false, false, false, false, false] rfl rfl (by kernel_rfl) (fun _ _ _ h => h) (Or.inl ⟨by rfl, ?_⟩) ?_ ?_
          rotate_left
          · intro w'
            go_simp
            with_reducible rfl
          rotate_left
          · simp only [Act.put, List.setIfInBounds_toArray, List.set_cons_zero, List.set_cons_succ, i64_w, i32_w]
            rfl
          refine pure_ (i := 6) (N := some 91) (v := ?_) (a' := ?_) #[true, true, true, true, true, true, true, false, false, false, false, false, false, false, false, false, false, false] rfl rfl (by kernel_rfl) (fun _ _ _ h => h) (Or.inl ⟨by rfl, ?_⟩) ?_ ?_
          rotate_left
          · intro w'
            go_simp
            with_reducible rfl
          rotate_left
          · simp only [Act.put, List.setIfInBounds_toArray, List.set_cons_zero, List.set_cons_succ, i64_w, i32_w]
            rfl
          refine pure_ (i := 7) (N := some 92) (v := ?_) (a' := ?_) #[true, true, true, true, true, true, true, true, false, false, false, false, false, false, false, false, false, false] rfl rfl (by kernel_rfl) (fun _ _ _ h => h) (Or.inl ⟨by rfl, ?_⟩) ?_ ?_
          rotate_left
          · intro w'
            go_simp
            with_reducible rfl
          rotate_left
          · simp only [Act.put, List.setIfInBounds_toArray, List.set_cons_zero, List.set_cons_succ, i64_w, i32_w]
            rfl
          refine pure_ (i := 8) (N := some 93) (v := ?_) (a' := ?_) #[true, true, true, true, true, true, true, true, true, false, false, false, false, false, false, false, false, false] rfl rfl (by kernel_rfl) (fun _ _ _ h => h) (Or.inl ⟨by rfl, ?_⟩) ?_ ?_
          rotate_left
          · intro w'
            go_simp
            with_reducible rfl
          rotate_left
          · simp only [Act.put, List.setIfInBounds_toArray, List.set_cons_zero, List.set_cons_succ, i64_w, i32_w]
            rfl
          refine pure_ (i := 9) (N := some 94) (v := ?_) (a' := ?_) #[true, true, true, true, true, true, true, true, true, true, false, false, false, false, false, false, false, false] rfl rfl (by kernel_rfl) (fun _ _ _ h => h) (Or.inl ⟨by rfl, ?_⟩) ?_ ?_
          rotate_left
          · intro w'
            go_simp
            with_reducible rfl
          rotate_left
          · simp only [Act.put, List.setIfInBounds_toArray, List.set_cons_zero, List.set_cons_succ, i64_w, i32_w]
            rfl
          refine pure_ (i := 10) (N := some 95) (v := ?_) (a' := ?_) #[true, true, true, true, true, true, true, true, true, true, true, false, false, false, false, false, false, false] rfl rfl (by kernel_rfl) (fun _ _ _ h => h) (Or.inl ⟨by rfl, ?_⟩) ?_ ?_
          rotate_left
          · intro w'
            go_simp
            with_reducible rfl
          rotate_left
          · simp only [Act.put, List.setIfInBounds_toArray, List.set_cons_zero, List.set_cons_succ, i64_w, i32_w]
            rfl
          refine take_ (i := 11) (N := some 96) (v := ?_) (a' := ?_) #[true, true, true, true, true, true, true, true, true, true, true, true, false, false, false, false, false, false] rfl rfl (by kernel_rfl) (fun _ _ _ h => h) (Or.inl ⟨by rfl, ?_⟩) hHeld ?_ ?_
          rotate_left
          · rintro w' s0
            go_simp
            with_reducible rfl
          rotate_left
          · simp only [Act.put, List.setIfInBounds_toArray, List.set_cons_zero, List.set_cons_succ, i64_w, i32_w]
            rfl
          refine pure_ (i := 12) (N := some 97) (v := ?_) (a' := ?_) #[true, true, true, true, true, true, true, true, true, true, true, true, true, false, false, false, false, false] rfl rfl (by kernel_rfl) (fun _ _ _ h => h) (Or.inl ⟨by rfl, ?_⟩) ?_ ?_
          rotate_left
          · intro w'
            go_simp
            with_reducible rfl
          rotate_left
          · simp only [Act.put, List.setIfInBounds_toArray, List.set_cons_zero, List.set_cons_succ, i64_w, i32_w]
            rfl
          refine pure_ (i := 13) (N := some 98) (v := ?_) (a' := ?_) #[true, true, true, true, true, true, true, true, true, true, true, true, true, true, false, false, false, false] rfl rfl (by kernel_rfl) (fun _ _ _ h => h) (Or.inl ⟨by rfl, ?_⟩) ?_ ?_
          rotate_left
          · intro w'
            go_simp
            with_reducible rfl
          rotate_left
          · simp only [Act.put, List.setIfInBounds_toArray, List.set_cons_zero, List.set_cons_succ, i64_w, i32_w]
            rfl
          refine pure_ (i := 14) (N := some 99) (v := ?_) (a' := ?_) #[true, true, true, true, true, true, true, true, true, true, true, true, true, true, true, false, false, false] rfl rfl (by kernel_rfl) (fun _ _ _ h => h) (Or.inl ⟨by rfl, ?_⟩) ?_ ?_
          rotate_left
          · intro w'
            go_simp
            with_reducible rfl
          rotate_left
          · simp only [Act.put, List.setIfInBounds_toArray, List.set_cons_zero, List.set_cons_succ, i64_w, i32_w]
            rfl
          refine pure_ (i := 15) (N := some 100) (v := ?_) (a' := ?_) #[true, true, true, true, true, true, true, true, true, true, true, true, true, true, true, true, false, false] rfl rfl (by kernel_rfl) (fun _ _ _ h => h) (Or.inl ⟨by rfl, ?_⟩) ?_ ?_
          rotate_left
          · intro w'
            go_simp
            with_reducible rfl
          rotate_left
          · simp only [Act.put, List.setIfInBounds_toArray, List.set_cons_zero, List.set_cons_succ, i64_w, i32_w]
            rfl
          refine pure_ (i := 16) (N := some 101) (v := ?_) (a' := ?_) #[true, true, true, true, true, true, true, true, true, true, true, true, true, true, true, true, true, false] rfl rfl (by kernel_rfl) (fun _ _ _ h => h) (Or.inl ⟨by rfl, ?_⟩) ?_ ?_
          rotate_left
          · intro w'
            go_simp
            with_reducible rfl
          rotate_left
          · simp only [Act.put, List.setIfInBounds_toArray, List.set_cons_zero, List.set_cons_succ, i64_w, i32_w]
            rfl
          refine last_ (i := 17) (N := none) #[true, true, true, true, true, true, true, true, true, true, true, true, true, true, true, true, true, true] rfl rfl (by kernel_rfl) (by decide) (fun K hK => ?_)
          refine skip_ (w1 := ?_) (by rfl) rfl ?_ ?_
          rotate_left
          · go_simp
            rfl
          refine hK.out _ _ ?_
          clear hK K
          refine done_ (by kernel_rfl) ?_
          go_wp2
          go_roundg m
          case measure => omega
          case rel =>
            have hgA := Aside0.mk hgb
            have hB := BRow.set HV.out (fr + q / 8) (bits .xor .u8 x (2 ^ (q % 8)))
            rw [hxl] at hB
            refine ⟨i + 1, xs.set (fr + q / 8) (bits .xor .u8 x (2 ^ (q % 8))), (by go_num), ⟨by omega⟩, ⟨⟨xs, HF.out, .inl ?_⟩⟩, ⟨hB⟩, ⟨Yr HB⟩⟩
            rw [show p + i = q by have := HQ.out; omega, hx_]
          --END1
          skip)

set_option maxHeartbeats 4000000 in
set_option maxRecDepth 100000 in
theorem palinodelaw03_FrameBits.calls0 (k : Nat) (s : ByteArray) (at_ turn : Int) (w : World) (hat : -9223372036854775808 ≤ at_ ∧ at_ ≤ 9223372036854775807) (hturn : -9223372036854775808 ≤ turn ∧ turn ≤ 9223372036854775807) (hs : s.size < 1 ∨ 2000 < s.size) (hs2 : s.size ≤ 140737488351232) (hex : palinodelaw03_examples.f k = some true) :
    Calls Try.prog 5 #[.string s, .int .i64 at_, .int .i64 turn] w fun e w' => e = .returned (.bool true) ∧ Below w.heap.size w w' := by
  have HB := Aside0.mk (Below.refl w.heap.size w)
  have HEX := Aside0.mk hex
  clear hex
  by_cases c1 : s.size < 1
  · have c2 : ¬ 2000 < s.size := by omega
    clear hs
    go_enter Try.func5, Try.ntmps5
    go_wp2_with (first | (go_at_call 9; (with_reducible refine (palinodelaw03_examples.calls k true _ HEX.out).mono ?_); rintro e w1 ⟨rfl, hb⟩; have n0_ := Aside0.mk (Yv HB hb); clear HB hb; have HB := n0_; clear n0_))
    all_goals (first | omega | (refine bodyPost_ret (results_tmp rfl _ _ _) rfl ?_; exact ⟨rfl, HB.out⟩))
  · have c2 : 2000 < s.size := by omega
    clear hs
    go_enter Try.func5, Try.ntmps5
    go_wp2_with (first | (go_at_call 9; (with_reducible refine (palinodelaw03_examples.calls k true _ HEX.out).mono ?_); rintro e w1 ⟨rfl, hb⟩; have n0_ := Aside0.mk (Yv HB hb); clear HB hb; have HB := n0_; clear n0_))
    all_goals (first | omega | (refine bodyPost_ret (results_tmp rfl _ _ _) rfl ?_; exact ⟨rfl, HB.out⟩))
end Go.Proofs.Ytmmhdoaepdlmcaa.Print
