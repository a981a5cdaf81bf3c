/- Two texts of one length with unlike sums have unlike sums with anything behind, too: for all arguments that the row lets in. -/
import Derived.Test.YtmmhdoaepdlmcaaFrameEx
import Derived.Test.YtmmhdoaepdlmcaaPrint6
namespace Go.Proofs.Ytmmhdoaepdlmcaa.Pure
open Go.RowKit Go.Proofs.Ytmmhdoaepdlmcaa.Print Go.Proofs.YtmmhdoaepdlmcaaX Go.Proofs.YtmmhdoaepdlmcaaW.PrintWords Go.Proofs.YtmmhdoaepdlmcaaW.PrintLast
set_option linter.unusedVariables false
set_option linter.unusedSimpArgs false

/-- A sum carried on over the first bytes of a text. -/
def runN (c : ByteArray) (v : Nat) : Nat → Nat
  | 0 => v
  | k + 1 => stsN 8 (runN c v k ^^^ (bt c k).toNat)
theorem runN_lt (c : ByteArray) {v : Nat} (h : v < 4294967296) (k : Nat) : runN c v k < 4294967296 := by
  induction k with
  | zero => exact h
  | succ k ih => exact stsN_lt 8 (xor_lt32 ih (by have := bt_nat c k; omega))
theorem runN_inj (c : ByteArray) {v w : Nat} (hv : v < 4294967296) (hw : w < 4294967296) : ∀ k, runN c v k = runN c w k → v = w := by
  intro k
  induction k with
  | zero => exact fun h => h
  | succ k ih =>
    intro h
    have hb := bt_nat c k
    have h1 := stsN_inj 8 (xor_lt32 (runN_lt c hv k) (by omega)) (xor_lt32 (runN_lt c hw k) (by omega)) h
    have h2 : (runN c v k ^^^ (bt c k).toNat) ^^^ (bt c k).toNat = (runN c w k ^^^ (bt c k).toNat) ^^^ (bt c k).toNat := by rw [h1]
    rw [Nat.xor_assoc, Nat.xor_assoc, Nat.xor_self, Nat.xor_zero, Nat.xor_zero] at h2
    exact ih h2
theorem bt_left (a c : ByteArray) (i : Nat) (h : i < a.size) : bt (a ++ c) (i : Int) = bt a (i : Int) := by
  rw [bt_eq, bt_eq, bytesOf_append, Int.toNat_natCast, List.getD_eq_getElem?_getD, List.getD_eq_getElem?_getD, List.getElem?_append_left (by rw [bytesOf_length]; exact h)]
theorem bt_right (a c : ByteArray) (i : Nat) : bt (a ++ c) ((a.size + i : Nat) : Int) = bt c (i : Int) := by
  rw [bt_eq, bt_eq, bytesOf_append, Int.toNat_natCast, Int.toNat_natCast, List.getD_eq_getElem?_getD, List.getD_eq_getElem?_getD, List.getElem?_append_right (by rw [bytesOf_length]; omega), bytesOf_length, Nat.add_sub_cancel_left]
theorem sumN_left (a c : ByteArray) : ∀ k, k ≤ a.size → sumN (a ++ c) k = sumN a k := by
  intro k
  induction k with
  | zero => exact fun _ => rfl
  | succ k ih =>
    intro h
    simp only [sumN]
    rw [ih (by omega), bt_left a c k (by omega)]
theorem sumN_app (a c : ByteArray) : ∀ k, sumN (a ++ c) (a.size + k) = runN c (sumN a a.size) k := by
  intro k
  induction k with
  | zero => exact sumN_left a c a.size (Nat.le_refl _)
  | succ k ih =>
    rw [← Nat.add_assoc]
    simp only [sumN, runN]
    rw [ih, bt_right]
theorem sums_iff (a b c : ByteArray) : (sumR (a ++ c) = sumR (b ++ c)) ↔ (sumR a = sumR b) := by
  have e (x : ByteArray) : sumR (x ++ c) = ((4294967295 ^^^ runN c (sumN x x.size) c.size : Nat) : Int) := by
    rw [sumR_nat, append_size, sumN_app]
  constructor
  · intro h
    have h1 := sumR_inj h
    rw [append_size, append_size, sumN_app, sumN_app] at h1
    have h2 := runN_inj c (sumN_lt a _) (sumN_lt b _) _ h1
    rw [sumR_nat, sumR_nat, h2]
  · intro h
    have h1 := sumR_inj h
    rw [e, e, h1]

theorem FrameSums : palinodelaw03_FrameSums.Pure := by
  refine ⟨examples_true, ?_⟩
  intro a b c v1 v2 v3
  obtain ⟨K0, h0⟩ := examples_ev
  refine ⟨K0, ?_⟩
  obtain ⟨n, hn, ha, hb⟩ : ∃ n : Nat, mn (a.size : Int) (b.size : Int) = (n : Int) ∧ n ≤ a.size ∧ n ≤ b.size := by
    unfold mn
    split
    · exact ⟨b.size, rfl, by omega, by omega⟩
    · exact ⟨a.size, rfl, by omega, by omega⟩
  unfold palinodelaw03_FrameSums.f
  rw [h0 _ (by omega), hn]
  simp only [Option.bind_some, Int.toNat_natCast]
  have za : (a.extract 0 n).size = n := by rw [ByteArray.size_extract]; omega
  have zb : (b.extract 0 n).size = n := by rw [ByteArray.size_extract]; omega
  have zac : (a.extract 0 n ++ c).size = n + c.size := by rw [append_size, za]
  have zbc : (b.extract 0 n ++ c).size = n + c.size := by rw [append_size, zb]
  rw [if_pos (by omega), if_pos (by omega), sum_eq _ (by omega)]
  simp only [Option.bind_some]
  rw [if_pos (by omega), sum_eq _ (by omega)]
  simp only [Option.bind_some, if_true]
  rw [if_pos (by omega), sum_eq _ (by omega)]
  simp only [Option.bind_some]
  rw [if_pos (by omega), sum_eq _ (by omega)]
  simp only [Option.bind_some]
  have := sums_iff (a.extract 0 n) (b.extract 0 n) c
  congr 1
  rw [Bool.beq_eq_decide_eq, decide_eq_true_eq, Bool.eq_iff_iff, beq_iff_eq, beq_iff_eq]
  exact this
end Go.Proofs.Ytmmhdoaepdlmcaa.Pure
