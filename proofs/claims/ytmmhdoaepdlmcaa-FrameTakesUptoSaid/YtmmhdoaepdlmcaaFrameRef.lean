import Derived.Test.YtmmhdoaepdlmcaaFrameEx
import Derived.Test.YtmmhdoaepdlmcaaPackRef
import Derived.Test.YtmmhdoaepdlmcaaPrint4
import Derived.Test.YtmmhdoaepdlmcaaPrint5
import Derived.Test.YtmmhdoaepdlmcaaPrint5
namespace Go.Proofs.Ytmmhdoaepdlmcaa.Print
open Go.RowKit Go.Proofs.YtmmhdoaepdlmcaaX Go.Proofs.YtmmhdoaepdlmcaaW.PrintWords Go.Proofs.YtmmhdoaepdlmcaaW.PrintLast
set_option linter.unusedVariables false
set_option linter.unusedSimpArgs false

theorem refsum_l1 (s : ByteArray) (i : Int) : ∀ (d j n k : Nat), j + d = 8 → n < 4294967296 → palinoderef03_Sum.l1 (d + 1 + k) s (n : Int) i (j : Int) = palinoderef03_Sum.l0 k s (stsN d n : Int) (wrap64 (i + 1)) := by
  intro d
  induction d with
  | zero =>
    intro j n k hj hn
    rw [show 0 + 1 + k = k + 1 by omega]
    conv => lhs; unfold palinoderef03_Sum.l1
    rw [if_neg (by omega)]
    rfl
  | succ d ih =>
    intro j n k hj hn
    rw [show d + 1 + 1 + k = (d + 1 + k) + 1 by omega]
    conv => lhs; unfold palinoderef03_Sum.l1
    have hd : Int.tdiv (n : Int) 2 % 4294967296 = ((n / 2 : Nat) : Int) := by rw [Int.tdiv_eq_ediv_of_nonneg (by omega)]; omega
    have hm : Int.tmod (n : Int) 2 = ((n % 2 : Nat) : Int) := by rw [Int.tmod_eq_emod_of_nonneg (by omega)]; omega
    have hs := stN_lt hn
    rw [if_pos (by omega), hd, hm, wrap_of ((j : Int) + 1) (by omega) (by omega), show (j : Int) + 1 = ((j + 1 : Nat) : Int) by omega]
    have goal : ∀ q : Nat, q = stN n → palinoderef03_Sum.l1 (d + 1 + k) s (q : Int) i ((j + 1 : Nat) : Int) = palinoderef03_Sum.l0 k s (stsN (d + 1) n : Int) (wrap64 (i + 1)) := by
      rintro q rfl
      rw [ih (j + 1) (stN n) k (by omega) hs]
      rfl
    by_cases c : n % 2 = 1
    · rw [if_pos (by omega)]
      have hx := bits_xor (n / 2) 2197175160 (by omega) (by decide)
      rw [show (2197175160 : Int) = ((2197175160 : Nat) : Int) from rfl, hx]
      exact goal _ (by unfold stN; rw [if_pos c])
    · rw [if_neg (by omega)]
      exact goal _ (by unfold stN; rw [if_neg c])
theorem refsum_l0 (s : ByteArray) (h : s.size ≤ 140737488351232) : ∀ (d i e : Nat), i + d = s.size → palinoderef03_Sum.l0 (10 * d + 1 + e) s (sumN s i : Int) (i : Int) = some (sumR s) := by
  intro d
  induction d with
  | zero =>
    intro i e hi
    obtain rfl : i = s.size := by omega
    rw [show 10 * 0 + 1 + e = e + 1 by omega]
    conv => lhs; unfold palinoderef03_Sum.l0
    rw [if_neg (by omega), sumR_nat, show (4294967295 : Int) = ((4294967295 : Nat) : Int) from rfl, bits_xor _ _ (sumN_lt s _) (by decide), Nat.xor_comm]
  | succ d ih =>
    intro i e hi
    rw [show 10 * (d + 1) + 1 + e = (8 + 1 + (10 * d + 1 + e)) + 1 by omega]
    conv => lhs; unfold palinoderef03_Sum.l0
    have hb := bt_nat s (i : Int)
    have hl := sumN_lt s i
    have hx := xor_lt32 (a := sumN s i) (b := (bt s i).toNat) hl (by omega)
    have e1 : bits .xor .u32 (sumN s i : Int) (bt s (i : Int) % 4294967296) = ((sumN s i ^^^ (bt s i).toNat : Nat) : Int) := by
      rw [← bits_xor _ _ hl (by omega)]
      congr 1
      omega
    rw [if_pos (by omega), if_pos (by omega), e1]
    have := refsum_l1 s (i : Int) 8 0 (sumN s i ^^^ (bt s i).toNat) (10 * d + 1 + e) (by omega) hx
    rw [show ((0 : Nat) : Int) = 0 from rfl] at this
    rw [this, wrap_of ((i : Int) + 1) (by omega) (by omega), show (i : Int) + 1 = ((i + 1 : Nat) : Int) by omega]
    exact ih (i + 1) e (by omega)
theorem refsum_ev (s : ByteArray) (h : s.size ≤ 140737488351232) : ∃ K, ∀ k, K ≤ k → palinoderef03_Sum.f k s = some (sumR s) := by
  refine ⟨10 * s.size + 1, fun k hk => ?_⟩
  have := refsum_l0 s h s.size 0 (k - (10 * s.size + 1)) (by omega)
  rw [show 10 * s.size + 1 + (k - (10 * s.size + 1)) = k by omega] at this
  exact this
theorem refput_ev (s : ByteArray) (h : s.size ≤ 140737488351232) : ∃ K, ∀ k, K ≤ k → palinoderef03_Put.f k s = some ((putR s).1, (putR s).2.isNone) := by
  obtain ⟨K1, h1⟩ := reftext_ev s
  obtain ⟨K2, h2⟩ := refsum_ev s h
  refine ⟨K1 + K2, fun k hk => ?_⟩
  unfold palinoderef03_Put.f putR
  rw [h1 k (by omega), h2 k (by omega)]
  unfold textR
  by_cases c : 1048576 < s.size
  · rw [if_pos c, if_pos c]
    simp
  · rw [if_neg c, if_neg c]
    have hz := textL_size s
    have hb := bsize_text (n := s.size) (by omega)
    have hf : palinoderef03_four.f (sumR s) = some (fourS (sumR s)) := rfl
    simp only [Option.bind_some, Option.isNone_none, if_true]
    rw [hf]
    simp only [Option.bind_some]
    rw [fourS_size, if_pos (by omega)]
end Go.Proofs.Ytmmhdoaepdlmcaa.Print
