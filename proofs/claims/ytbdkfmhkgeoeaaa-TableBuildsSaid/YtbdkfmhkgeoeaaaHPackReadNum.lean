/- Contracts proved by hand: see the theorems' own lines. -/
import Derived.Test.YtbdkfmhkgeoeaaaPrint0
import Derived.Test.YtbdkfmhkgeoeaaaPrint5
namespace Go.Proofs.Ytbdkfmhkgeoeaaa.Print
open Go.RowKit Go.Proofs.YtbdkfmhkgeoeaaaW.PrintWords Go.Proofs.YtbdkfmhkgeoeaaaW.PrintLast Go.Proofs.YtbdkfmhkgeoeaaaW.PrintMore
set_option linter.unusedVariables false
set_option linter.unusedSimpArgs false

/-- How many bytes a number takes. -/
def bsize (n : Nat) : Nat := if h : n = 0 then 0 else bsize (n / 256) + 1
termination_by n
decreasing_by omega
theorem bsize_zero : bsize 0 = 0 := by unfold bsize; simp
theorem bsize_pos {n : Nat} (h : 0 < n) : bsize n = bsize (n / 256) + 1 := by
  rw [bsize, dif_neg (by omega)]
theorem bsize_le {n k : Nat} (h : n < 256 ^ k) : bsize n ≤ k := by
  induction k generalizing n with
  | zero => rw [show n = 0 by simpa using h, bsize_zero]; omega
  | succ k ih =>
    by_cases h0 : n = 0
    · rw [h0, bsize_zero]; omega
    · rw [bsize_pos (by omega)]
      have := ih (n := n / 256) (by rw [Nat.pow_succ] at h; exact Nat.div_lt_of_lt_mul (by omega))
      omega
theorem lt_of_bsize (n : Nat) : n < 256 ^ bsize n := by
  induction n using Nat.strongRecOn with
  | _ n ih =>
    by_cases h0 : n = 0
    · rw [h0, bsize_zero]; decide
    · rw [bsize_pos (by omega), Nat.pow_succ]
      have := ih (n / 256) (by omega)
      omega
theorem size_l0 (n : Nat) : ∀ (d k : Nat) (c : Int), bsize n ≤ d → d < k → 0 ≤ c → c + bsize n ≤ 9223372036854775807 → pack_size.l0 k (n : Int) c = some (c + bsize n) := by
  induction n using Nat.strongRecOn with
  | _ n ih =>
    intro d k c hd hk hc hb
    obtain ⟨k, rfl⟩ : ∃ m, k = m + 1 := ⟨k - 1, by omega⟩
    simp only [pack_size.l0]
    by_cases h0 : n = 0
    · subst h0
      rw [if_neg (by omega), bsize_zero]
      simp
    · have hp := bsize_pos (n := n) (by omega)
      rw [if_pos (by omega)]
      have hw : wrap64 (c + 1) = c + 1 := by unfold wrap64; omega
      have hq : ((n : Int) / 256) = ((n / 256 : Nat) : Int) := by omega
      rw [hw, hq, ih (n / 256) (by omega) (d - 1) k (c + 1) (by omega) (by omega) (by omega) (by omega), hp]
      congr 1
      omega
theorem size_of_nat (n : Nat) (h : bsize n ≤ 1000) : ∃ k, pack_size.f k (n : Int) = some (bsize n : Int) := by
  refine ⟨1001, ?_⟩
  unfold pack_size.f
  rw [size_l0 n 1000 1001 0 h (by omega) (by omega) (by omega)]
  simp

/-- The number of the first i bytes behind the first one. -/
def pval (s : ByteArray) : Nat → Nat
  | 0 => 0
  | i + 1 => pval s i * 256 + (bt s ((i : Int) + 1)).toNat
theorem pval_lt (s : ByteArray) (i : Nat) : pval s i < 256 ^ i := by
  induction i with
  | zero => simp [pval]
  | succ i ih =>
    have := bt_range s ((i : Int) + 1)
    rw [pval, Nat.pow_succ]
    omega
theorem wraps_i64 (n : Int) (h₀ : 0 ≤ n) (h₁ : n < 2 ^ 63) : IntKind.i64.wrap n = n := by rw [IntKind.wrap_i64]; omega
theorem pval_step (s : ByteArray) (k : Nat) (hk : k < 7) : bits .or .i64 (wrap64 ((pval s k : Nat) * 256 : Int)) (wrap64 (bt s ((k : Int) + 1))) = (pval s (k + 1) : Int) := by
  have h1 := pval_lt s k
  have h2 : 256 ^ k ≤ 256 ^ 6 := Nat.pow_le_pow_right (by decide) (by omega)
  have h3 := bt_range s ((k : Int) + 1)
  have e1 : wrap64 ((pval s k : Nat) * 256 : Int) = (pval s k : Nat) * 256 := by unfold wrap64; omega
  have e2 : wrap64 (bt s ((k : Int) + 1)) = bt s ((k : Int) + 1) := by unfold wrap64; omega
  rw [e1, e2, bits_join .i64 63 (by decide) wraps_i64 8 _ _ (by omega) (by omega) (by omega) h3.1 (by omega) (by omega), pval]
  omega
/-- What reading a number comes to. -/
def readNum (a0 : ByteArray) : Int × ByteArray × Option Int :=
  if a0.size = 0 then (0, ⟨#[]⟩, some 2)
  else if 7 < (bt a0 0).toNat then (0, ⟨#[]⟩, some 3)
  else if a0.size ≤ (bt a0 0).toNat then (0, ⟨#[]⟩, some 2)
  else if bsize (pval a0 (bt a0 0).toNat) ≠ (bt a0 0).toNat then (0, ⟨#[]⟩, some 3)
  else if 9007199254740991 < pval a0 (bt a0 0).toNat then (0, ⟨#[]⟩, some 3)
  else (pval a0 (bt a0 0).toNat, a0.extract (1 + (bt a0 0).toNat) a0.size, none)
def pack_ReadNum.f (a0 : ByteArray) : Option (Int × ByteArray × Option Int) := some (readNum a0)

theorem toList_nil_of {s : ByteArray} (h : s.size = 0) : s = ⟨#[]⟩ := by
  cases s with
  | mk d =>
    have : d.size = 0 := h
    rw [Array.size_eq_zero_iff] at this
    rw [this]

set_option maxHeartbeats 4000000 in
set_option maxRecDepth 100000 in
theorem pack_ReadNum.calls (a0 : ByteArray) (r1 : Int) (r2 : ByteArray) (r3 : Option Int) (w : World) (h : pack_ReadNum.f a0 = some (r1, r2, r3)) :
    Calls Try.prog 80 #[.string a0] w fun e w' => e = .returned (.tuple #[.int .i64 r1, .string r2, errW r3]) ∧ Below w.heap.size w w' := by
  have H : readNum a0 = (r1, r2, r3) := Option.some.inj h
  clear h
  unfold readNum at H
  by_cases c0 : a0.size = 0
  · rw [if_pos c0] at H
    obtain ⟨rfl, rfl, rfl⟩ : r1 = 0 ∧ r2 = ⟨#[]⟩ ∧ r3 = some 2 := by simpa [eq_comm] using H
    obtain rfl := toList_nil_of c0
    clear c0 H
    go_enter Try.func80, Try.ntmps80
    go_wp2
    go_ret3
    exact ⟨rfl, Below.refl _ _⟩
  · rw [if_neg c0] at H
    have h0 : 0 < a0.size := by omega
    have e0 : (a0.toList == ([] : List UInt8)) = false := by
      rw [beq_eq_false_iff_ne, ByteArray.toList_eq]
      intro h
      have h1 : a0.data.toList.length = a0.size := data_length a0
      rw [h] at h1
      simp at h1
      omega
    have b0 := bt_range a0 0
    obtain ⟨n, hn⟩ := Int.eq_ofNat_of_zero_le b0.1
    have hb : ((a0[0]'h0).toNat : Int) = n := by rw [← hn]; exact bt_at a0 0 h0
    rw [hn] at H b0
    simp only [Int.toNat_natCast] at H
    have hw0 : wrap64 (n : Int) = n := by unfold wrap64; omega
    clear hn c0
    have h0b : (0 < (a0.size : Int)) = True := eq_true (by omega)
    have h0c : (0 < a0.size) = True := eq_true h0
    by_cases c1 : 7 < n
    · rw [if_pos c1] at H
      obtain ⟨rfl, rfl, rfl⟩ : r1 = 0 ∧ r2 = ⟨#[]⟩ ∧ r3 = some 3 := by simpa [eq_comm] using H
      clear H
      have c1b : decide (7 < (n : Int)) = true := decide_eq_true (by omega)
      have c1c : decide (7 < n) = true := decide_eq_true c1
      clear c1
      go_enter Try.func80, Try.ntmps80
      go_wp2
      go_ret3
      exact ⟨rfl, Below.refl _ _⟩
    · rw [if_neg c1] at H
      have c1b : decide (7 < (n : Int)) = false := decide_eq_false (by omega)
      have c1c : decide (7 < n) = false := decide_eq_false c1
      by_cases c2 : a0.size ≤ n
      · rw [if_pos c2] at H
        obtain ⟨rfl, rfl, rfl⟩ : r1 = 0 ∧ r2 = ⟨#[]⟩ ∧ r3 = some 2 := by simpa [eq_comm] using H
        clear H c1
        have c2b : decide ((a0.size : Int) ≤ (n : Int)) = true := decide_eq_true (by omega)
        have c2c : decide (a0.size ≤ n) = true := decide_eq_true c2
        clear c2
        go_enter Try.func80, Try.ntmps80
        go_wp2
        go_ret3
        exact ⟨rfl, Below.refl _ _⟩
      · rw [if_neg c2] at H
        have c2b : decide ((a0.size : Int) ≤ (n : Int)) = false := decide_eq_false (by omega)
        have c2c : decide (a0.size ≤ n) = false := decide_eq_false c2
        have hle : n ≤ 7 := by omega
        have hle2 : (n : Int) ≤ 7 := by omega
        have hlt : n < a0.size := by omega
        clear c1 c2
        have ks : ∀ W : World, (Instr.slice 9 (.string a0) (some (.int .i64 1)) (some (.int .i64 (1 + (n : Int)))) none).run Try.prog W = .ok (.string (a0.extract 1 (1 + n))) W := by
          intro W
          rw [run_slice_string W _ _ _ _ _ _ Try.underlying9 (by omega) (by omega) (by omega)]
          congr 3
        have kt : ∀ W : World, (Instr.slice 9 (.string a0) (some (.int .i64 (1 + (n : Int)))) none none).run Try.prog W = .ok (.string (a0.extract (1 + n) a0.size)) W := by
          intro W
          rw [run_slice_string_l W _ _ Try.underlying9 _ _ (by omega) (by omega)]
          congr 3
        have hsz : (a0.extract 1 (1 + n)).size = n := by rw [ByteArray.size_extract]; omega
        have kb : ∀ W : World, (convert 9 40 (.string (a0.extract 1 (1 + n)))).run Try.prog W = .ok (.slice (some ⟨W.heap.size, 0, none⟩) n (grownCap W n 0 5)) (Lib.bytesWorld W 5 (a0.extract 1 (1 + n))) := by
          intro W
          rw [print_bytes (P := Try.prog) 9 40 5 Try.underlying9 Try.underlying40 Try.underlying5 (a0.extract 1 (1 + n)) W, hsz]
        have hcell : ∀ k : Nat, k < n → (Lib.bytesWorld w 5 (a0.extract 1 (1 + n))).cell? ⟨w.heap.size, k, none⟩ = some (.int .u8 (bt a0 ((k : Int) + 1))) := by
          intro k hk
          rw [Lib.bytesWorld_cell w 5 (a0.extract 1 (1 + n)) k (by omega)]
          have h1 : ((k : Int) + 1).toNat < a0.size := by omega
          have h2 := bt_at a0 ((k : Int) + 1) h1
          rw [← h2]
          have h3 : k < (a0.extract 1 (1 + n)).data.toList.length := by rw [data_length]; omega
          rw [List.getD_eq_getElem?_getD, List.getElem?_eq_getElem h3, Option.getD_some]
          congr 2
          have e : ((k : Int) + 1).toNat = 1 + k := by omega
          simp only [e, ByteArray.data_extract, Array.getElem_toList, Array.getElem_extract]
          rfl
        have hbel : Below w.heap.size w (Lib.bytesWorld w 5 (a0.extract 1 (1 + n))) := bytes_below (Below.refl _ _) (Nat.le_refl _) _ _
        have HH := Aside0.mk H
        have HB := Aside0.mk hbel
        have HC := Aside0.mk hcell
        have HS := Aside0.mk hsz
        clear H hbel hcell hsz
        go_enter Try.func80, Try.ntmps80
        go_wp2
        go_loop [2, 30] (fun a i => ∃ k : Nat, k ≤ n ∧ i = .int .i64 k ∧ a = .int .i64 (pval a0 k)) (fun _ i => n - (intOf i).toNat)
        case atStart => exact ⟨0, Nat.zero_le _, rfl, rfl⟩
        case round =>
          obtain ⟨k, hk, rfl, rfl⟩ := hrel
          by_cases hlt : k < n
          · have hc := HC.out k hlt
            go_wp2
            refine ⟨⟨k + 1, by omega, by go_num, ?_⟩, by simp [intOf]; omega⟩
            rw [pval_step a0 k (by omega)]
          · obtain rfl : k = n := by omega
            have hp := pval_lt a0 k
            have hs : bsize (pval a0 k) ≤ k := bsize_le hp
            obtain ⟨q, hq⟩ := size_of_nat (pval a0 k) (by omega)
            have HQ := Aside0.mk hq
            clear hq
            have H1 := HH.out
            by_cases c3 : bsize (pval a0 k) = k
            · rw [if_neg (by simp [c3])] at H1
              have c3b : (((bsize (pval a0 k) : Nat) : Int) != (k : Int)) = false := by rw [c3]; simp
              by_cases c4 : 9007199254740991 < pval a0 k
              · rw [if_pos c4] at H1
                obtain ⟨rfl, rfl, rfl⟩ : r1 = 0 ∧ r2 = ⟨#[]⟩ ∧ r3 = some 3 := by simpa [eq_comm] using H1
                clear H1
                have c4b : decide (9007199254740991 < ((pval a0 k : Nat) : Int)) = true := decide_eq_true (by omega)
                clear c3 c4 hs hp
                go_wp2_with (go_at_call 70; refine (pack_size.calls q _ _ _ HQ.out).mono ?_; rintro e w' ⟨rfl, hd⟩; obtain ⟨q1, rfl⟩ := hd.out)
                go_ret3
                exact ⟨rfl, pw_below_drewN HB.out _⟩
              · rw [if_neg c4] at H1
                obtain ⟨rfl, rfl, rfl⟩ : r1 = ((pval a0 k : Nat) : Int) ∧ r2 = a0.extract (1 + k) a0.size ∧ r3 = none := by simpa [eq_comm] using H1
                clear H1
                have c4b : decide (9007199254740991 < ((pval a0 k : Nat) : Int)) = false := decide_eq_false (by omega)
                clear c3 c4 hs hp
                go_wp2_with (go_at_call 70; refine (pack_size.calls q _ _ _ HQ.out).mono ?_; rintro e w' ⟨rfl, hd⟩; obtain ⟨q1, rfl⟩ := hd.out)
                go_quiet (fail)
                try go_wp2
                go_ret3
                exact ⟨rfl, pw_below_drewN (pw_below_drewN HB.out _) _⟩
            · rw [if_pos (by simpa using c3)] at H1
              have c3b : (((bsize (pval a0 k) : Nat) : Int) != (k : Int)) = true := by simp; omega
              obtain ⟨rfl, rfl, rfl⟩ : r1 = 0 ∧ r2 = ⟨#[]⟩ ∧ r3 = some 3 := by simpa [eq_comm] using H1
              clear H1 c3 hs hp
              go_wp2_with (go_at_call 70; refine (pack_size.calls q _ _ _ HQ.out).mono ?_; rintro e w' ⟨rfl, hd⟩; obtain ⟨q1, rfl⟩ := hd.out)
              go_ret3
              exact ⟨rfl, pw_below_drewN HB.out _⟩
end Go.Proofs.Ytbdkfmhkgeoeaaa.Print
