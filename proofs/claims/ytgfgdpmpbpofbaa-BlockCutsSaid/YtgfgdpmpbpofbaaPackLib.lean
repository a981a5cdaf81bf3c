import Derived.Test.YtgfgdpmpbpofbaaXBytes
import Derived.Test.YtgfgdpmpbpofbaaPrint5
import Derived.Test.YtgfgdpmpbpofbaaHPackReadNum
namespace Go.Proofs.Ytgfgdpmpbpofbaa.Print
open Go.RowKit Go.Proofs.YtgfgdpmpbpofbaaX Go.Proofs.YtgfgdpmpbpofbaaW.PrintWords Go.Proofs.YtgfgdpmpbpofbaaW.PrintLast
set_option linter.unusedVariables false
set_option linter.unusedSimpArgs false

/-! ## Numbers as bytes -/
/-- The last k digits to base 256, the greatest one first. -/
def digs : Nat → Nat → List Int
  | 0, _ => []
  | k + 1, n => digs k (n / 256) ++ [((n % 256 : Nat) : Int)]
theorem digs_length (k n : Nat) : (digs k n).length = k := by
  induction k generalizing n with
  | zero => rfl
  | succ k ih => simp [digs, ih]
theorem digs_range (k n : Nat) : ∀ x ∈ digs k n, 0 ≤ x ∧ x < 256 := by
  induction k generalizing n with
  | zero => intro x hx; cases hx
  | succ k ih =>
    intro x hx
    simp only [digs, List.mem_append, List.mem_singleton] at hx
    rcases hx with hx | rfl
    · exact ih _ x hx
    · omega
/-- A number's bytes. -/
def numL (n : Nat) : List Int := ((bsize n : Nat) : Int) :: digs (bsize n) n
theorem numL_length (n : Nat) : (numL n).length = bsize n + 1 := by simp [numL, digs_length]
theorem bsize_7 {n : Nat} (h : n ≤ 9007199254740991) : bsize n ≤ 7 := bsize_le (by omega)
theorem numL_range {n : Nat} (h : n ≤ 9007199254740991) : ∀ x ∈ numL n, 0 ≤ x ∧ x < 256 := by
  intro x hx
  have := bsize_7 h
  rcases List.mem_cons.1 hx with rfl | hx
  · omega
  · exact digs_range _ _ x hx
/-- What writing a number comes to. -/
def numR (n : Int) : ByteArray × Option Int := if n < 0 ∨ 9007199254740991 < n then (⟨#[]⟩, some 1) else (strOfNums (numL n.toNat), none)
theorem bytesOf_num {n : Nat} (h : n ≤ 9007199254740991) : bytesOf (strOfNums (numL n)) = numL n := bytesOf_strOfNums (numL_range h)

theorem size_l1 : ∀ (k n : Nat) (x : Int), bsize n < k → 0 ≤ x → x + bsize n ≤ 4611686018427387904 → pack_size.l0 k (n : Int) x = some (x + bsize n) := by
  intro k
  induction k with
  | zero => intro n x h; omega
  | succ k ih =>
    intro n x h h0 h1
    simp only [pack_size.l0]
    by_cases hn : n = 0
    · subst hn
      rw [if_neg (by decide), bsize_zero]
      simp
    · have hb := bsize_pos (n := n) (by omega)
      rw [if_pos (by omega), wrap_of _ (by omega) (by omega), show (n : Int) / 256 = ((n / 256 : Nat) : Int) by omega, ih (n / 256) (x + 1) (by omega) (by omega) (by omega), hb]
      congr 1
      omega
theorem size_big (n : Nat) (k : Nat) (h : bsize n < k) (h2 : bsize n ≤ 1000) : pack_size.f k (n : Int) = some (bsize n : Int) := by
  unfold pack_size.f
  rw [size_l1 k n 0 h (by omega) (by omega), Int.zero_add]
theorem size_ev (n : Nat) (h : bsize n ≤ 1000) : ∃ K, ∀ k, K ≤ k → pack_size.f k (n : Int) = some (bsize n : Int) := ⟨bsize n + 1, fun k hk => size_big n k (by omega) h⟩
theorem num_big (n : Int) : ∀ k, 10 ≤ k → pack_Num.f k n = some (numR n) := by
  by_cases h0 : n < 0
  · intro k hk
    obtain ⟨k, rfl⟩ : ∃ m, k = m + 1 := ⟨k - 1, by omega⟩
    simp only [pack_Num.f]
    rw [if_pos h0, numR, if_pos (.inl h0)]
    simp [pack_Num.j0]
  by_cases h1 : 9007199254740991 < n
  · intro k hk
    obtain ⟨k, rfl⟩ : ∃ m, k = m + 1 := ⟨k - 1, by omega⟩
    simp only [pack_Num.f]
    rw [if_neg h0, numR, if_pos (.inr h1)]
    simp [pack_Num.j0, h1]
  obtain ⟨m, rfl⟩ := Int.eq_ofNat_of_zero_le (show 0 ≤ n by omega)
  have hm : m ≤ 9007199254740991 := by omega
  have h7 := bsize_7 hm
  have hK : ∀ k, 9 ≤ k → pack_size.f k (m : Int) = some (bsize m : Int) := fun k hk => size_big m k (by omega) (by omega)
  intro k hk
  obtain ⟨k, rfl⟩ : ∃ m, k = m + 1 := ⟨k - 1, by omega⟩
  simp only [pack_Num.f]
  rw [if_neg h0, numR, if_neg (by omega)]
  have hd : decide ((m : Int) > 9007199254740991) = false := decide_eq_false (by omega)
  rw [hd]
  simp only [pack_Num.j0]
  rw [if_neg (by simp), hK k (by omega)]
  simp only [Option.bind_some, Int.toNat_natCast, numL]
  generalize hs : bsize m = s at h7 ⊢
  have e (q : Nat) : ((m : Int) / (q : Nat)) % 256 = ((m / q % 256 : Nat) : Int) := by simp
  have cases_ : s = 0 ∨ s = 1 ∨ s = 2 ∨ s = 3 ∨ s = 4 ∨ s = 5 ∨ s = 6 ∨ s = 7 := by omega
  rcases cases_ with rfl | rfl | rfl | rfl | rfl | rfl | rfl | rfl <;>
    simp [digs, Nat.div_div_eq_div_mul] <;> omega
theorem num_ev (n : Int) : ∃ K, ∀ k, K ≤ k → pack_Num.f k n = some (numR n) := ⟨10, num_big n⟩
end Go.Proofs.Ytgfgdpmpbpofbaa.Print
