/- A number has one byte more than it needs, a greater one has no less, a text has its bytes more than its length has: for all arguments that the row lets in. -/
import Derived.Test.YthdjeekfnlagmaaPackRead
import Derived.Test.YthdjeekfnlagmaaPrint4
namespace Go.Proofs.Ythdjeekfnlagmaa.Pure
open Go.RowKit Go.Proofs.Ythdjeekfnlagmaa.Print Go.Proofs.YthdjeekfnlagmaaX Go.Proofs.YthdjeekfnlagmaaW.PrintWords Go.Proofs.YthdjeekfnlagmaaW.PrintLast
set_option linter.unusedVariables false
set_option linter.unusedSimpArgs false

theorem bsize_mono {m n : Nat} (h : m ≤ n) : bsize m ≤ bsize n := bsize_le (Nat.lt_of_le_of_lt h (lt_of_bsize n))
theorem sizes_loop (a0 a1 : Int) (a2 : ByteArray) (x8 x10 x12 : ByteArray) (n : Nat) : ∀ (k : Nat) (c : Int), n ≤ 9007199254740991 → 0 ≤ c → c + bsize n ≤ 1000 →
    palinodelaw01_PackSizes.l0 (k + 1 + bsize n) a0 a1 a2 true x8 x10 x12 c (n : Int) = palinodelaw01_PackSizes.l0 (k + 1) a0 a1 a2 true x8 x10 x12 (c + bsize n) 0 := by
  induction n using Nat.strongRecOn with
  | _ n ih =>
    intro k c hn hc hb
    by_cases h0 : n = 0
    · subst h0
      rw [bsize_zero]
      simp
    · have hp := bsize_pos (n := n) (by omega)
      have hw : wrap64 (c + 1) = c + 1 := wrap_of _ (by omega) (by omega)
      have hq : wrap64 (Int.tdiv (n : Int) 256) = ((n / 256 : Nat) : Int) := by
        rw [Int.tdiv_eq_ediv_of_nonneg (by omega), wrap_of _ (by omega) (by omega)]
        omega
      rw [hp, show k + 1 + (bsize (n / 256) + 1) = (k + 1 + bsize (n / 256)) + 1 by omega]
      conv => lhs; unfold palinodelaw01_PackSizes.l0
      rw [if_pos (by omega), hw, hq, ih (n / 256) (by omega) k (c + 1) (by omega) (by omega) (by omega)]
      congr 1
      omega

theorem PackSizes : palinodelaw01_PackSizes.Pure := by
  intro a0 a1 a2 w0 w1 w2
  obtain ⟨K0, h0⟩ := examples_ev
  obtain ⟨K1, h1⟩ := num_ev a0
  obtain ⟨K2, h2⟩ := num_ev a1
  obtain ⟨K3, h3⟩ := text_ev a2
  obtain ⟨K4, h4⟩ := num_ev (a2.size : Int)
  have hz := bsize_7 (n := a0.toNat)
  refine ⟨K0 + K1 + K2 + K3 + K4 + 10 + bsize a0.toNat, ?_⟩
  generalize hk : K0 + K1 + K2 + K3 + K4 + 10 + bsize a0.toNat = k
  unfold palinodelaw01_PackSizes.f
  rw [h0 k (by omega), h1 k (by omega), h2 k (by omega), h3 k (by omega)]
  simp only [Option.bind_some]
  obtain ⟨k, rfl⟩ : ∃ m, k = m + 1 := ⟨k - 1, by omega⟩
  unfold numR textR
  by_cases c0 : a0 < 0 ∨ 9007199254740991 < a0
  · rw [if_pos c0, if_neg (by simp)]
    simp [palinodelaw01_PackSizes.j0]
  rw [if_neg c0, if_pos (show (none : Option Int).isNone = true from rfl)]
  by_cases c1 : a1 < 0 ∨ 9007199254740991 < a1
  · rw [if_pos c1, if_neg (by simp)]
    simp [palinodelaw01_PackSizes.j0]
  rw [if_neg c1, if_pos (show (none : Option Int).isNone = true from rfl)]
  by_cases c2 : 1048576 < a2.size
  · rw [if_pos c2, if_neg (by simp)]
    simp [palinodelaw01_PackSizes.j0]
  rw [if_neg c2, if_pos (show (none : Option Int).isNone = true from rfl)]
  obtain ⟨n, rfl⟩ := Int.eq_ofNat_of_zero_le (show 0 ≤ a0 by omega)
  obtain ⟨m, rfl⟩ := Int.eq_ofNat_of_zero_le (show 0 ≤ a1 by omega)
  simp only [Int.toNat_natCast] at hk hz ⊢
  have hz := hz (by omega)
  simp only [palinodelaw01_PackSizes.j0]
  rw [if_neg (by simp)]
  obtain ⟨j, hj⟩ : ∃ j, k = j + 1 + bsize n := ⟨k - 1 - bsize n, by omega⟩
  rw [hj, sizes_loop _ _ _ _ _ _ n j 1 (by omega) (by omega) (by omega)]
  simp only [palinodelaw01_PackSizes.l0]
  rw [if_neg (by omega), h4 j (by omega), numR, if_neg (by omega)]
  simp only [Option.bind_some, Int.toNat_natCast, if_true]
  have hs := bsize_text (n := a2.size) (by omega)
  rw [if_pos (by rw [size_strOfNums, numL_length]; omega), if_pos (show (none : Option Int).isNone = true from rfl)]
  have hsz : (strOfNums (numL a2.size)).size + a2.size ≤ 9223372036854775807 := by rw [size_strOfNums, numL_length]; omega
  rw [if_pos hsz]
  split
  · simp
  · rename_i hnm
    have := bsize_mono (m := n) (n := m) (by omega)
    rw [if_pos (by rw [size_strOfNums, size_strOfNums, numL_length, numL_length]; omega)]
    simp

end Go.Proofs.Ythdjeekfnlagmaa.Pure
