import Derived.Test.YtmmhdoaepdlmcaaFrameLib
import Derived.Test.YtmmhdoaepdlmcaaPrint5
import Derived.Test.YtmmhdoaepdlmcaaPrint8
namespace Go.Proofs.Ytmmhdoaepdlmcaa.Print
open Go.RowKit Go.Proofs.YtmmhdoaepdlmcaaX Go.Proofs.YtmmhdoaepdlmcaaW.PrintWords Go.Proofs.YtmmhdoaepdlmcaaW.PrintLast
set_option linter.unusedVariables false
set_option linter.unusedSimpArgs false

theorem is_some_iff (x c : Int) (h : c ≠ 0) : palinodelaw03_is.f (some x) c = some (x == c) := by
  unfold palinodelaw03_is.f
  simp [h]
theorem sum_nil : sumR (⟨#[]⟩ : ByteArray) = 0 := by rw [sumR_nat]; rfl
theorem sum_nine : sumR (⟨#[49, 50, 51, 52, 53, 54, 55, 56, 57]⟩ : ByteArray) = 3808858755 := by rw [sumR_nat]; decide +kernel
theorem put_nil : putR (⟨#[]⟩ : ByteArray) = (⟨#[0, 0, 0, 0, 0]⟩, none) := by
  unfold putR
  rw [if_neg (by show ¬ 1048576 < 0; omega), sum_nil]
  congr 1
  rw [numL, show (⟨#[]⟩ : ByteArray).size = 0 from rfl, bsize_zero]
  rfl
def abS : ByteArray := ⟨#[97, 98]⟩
theorem put_ab : ∃ a b c d : UInt8, putR abS = (⟨#[1, 2, 97, 98, a, b, c, d]⟩, none) ∧ fourS (sumR abS) = ⟨#[a, b, c, d]⟩ ∧ d ≠ 63 := by
  have b1 : bsize 2 = 1 := by
    rw [bsize_pos (by omega), show 2 / 256 = 0 from rfl, bsize_zero]
  have hs : sumR abS = ((4294967295 ^^^ sumN abS 2 : Nat) : Int) := sumR_nat abS
  obtain ⟨v, hv⟩ : ∃ v : Nat, (4294967295 ^^^ sumN abS 2) = v := ⟨_, rfl⟩
  have hd : v % 256 ≠ 63 := by rw [← hv]; decide +kernel
  rw [hv] at hs
  refine ⟨UInt8.ofNat (((v : Int) / 16777216 % 256)).toNat, UInt8.ofNat (((v : Int) / 65536 % 256)).toNat, UInt8.ofNat (((v : Int) / 256 % 256)).toNat, UInt8.ofNat ((v : Int) % 256).toNat, ?_, ?_, ?_⟩
  · unfold putR
    rw [if_neg (by show ¬ 1048576 < 2; omega), hs]
    congr 1
    rw [numL, show abS.size = 2 from rfl, b1]
    rfl
  · rw [hs]; rfl
  · intro h
    have h2 := congrArg UInt8.toNat h
    have e : ((v : Int) % 256).toNat = v % 256 := by omega
    rw [e] at h2
    simp at h2
    omega
theorem examples_ev : ∃ K, ∀ k, K ≤ k → palinodelaw03_examples.f k = some true := by
  obtain ⟨K1, h1⟩ := put_ev (⟨#[]⟩ : ByteArray) (by show 0 ≤ 140737488351232; omega)
  obtain ⟨K2, h2⟩ := put_ev abS (by show 2 ≤ 140737488351232; omega)
  refine ⟨max K1 K2, fun k hk => ?_⟩
  have h1 := h1 k (by omega)
  have h2 := h2 k (by omega)
  obtain ⟨a, b, c, d, hp, hf, hne⟩ := put_ab
  unfold abS at h2 hp
  unfold palinodelaw03_examples.f
  rw [h1, h2, put_nil, hp]
  simp only [Option.bind_some]
  have b1 : bsize 2 = 1 := by
    rw [bsize_pos (by omega), show 2 / 256 = 0 from rfl, bsize_zero]
  have pre : strOfNums (numL abS.size) ++ abS = ⟨#[1, 2, 97, 98]⟩ := by
    rw [numL, show abS.size = 2 from rfl, b1]; rfl
  have t1 : readText (⟨#[1, 2, 97, 98, a, b, c]⟩ : ByteArray) = (abS, ⟨#[a, b, c]⟩, none) := by
    have := readText_text abS (by show 2 ≤ 1048576; omega) ⟨#[a, b, c]⟩
    rw [pre] at this
    exact this
  have t2 : readText (⟨#[1, 2, 97, 98, a, b, c, 63]⟩ : ByteArray) = (abS, ⟨#[a, b, c, 63]⟩, none) := by
    have := readText_text abS (by show 2 ≤ 1048576; omega) ⟨#[a, b, c, 63]⟩
    rw [pre] at this
    exact this
  have e1 : (⟨#[1, 2, 97, 98, a, b, c, d]⟩ : ByteArray).extract 0 7 = ⟨#[1, 2, 97, 98, a, b, c]⟩ := rfl
  have e2 : (⟨#[1, 2, 97, 98, a, b, c]⟩ : ByteArray) ++ (⟨#[63]⟩ : ByteArray) = ⟨#[1, 2, 97, 98, a, b, c, 63]⟩ := rfl
  have k1 : takeR (⟨#[1, 2, 97, 98, a, b, c]⟩ : ByteArray) = (⟨#[]⟩, ⟨#[]⟩, some 2) := by
    unfold takeR; rw [t1]; rfl
  have k2 : takeR (⟨#[1, 2, 97, 98, a, b, c, 63]⟩ : ByteArray) = (⟨#[]⟩, ⟨#[]⟩, some 4) := by
    unfold takeR; rw [t2]
    simp only
    rw [if_neg (by show ¬ 4 < 4; omega), hf, if_neg]
    intro h
    have h3 : (⟨#[a, b, c, 63]⟩ : ByteArray) = ⟨#[a, b, c, d]⟩ := h
    injection h3 with h3
    have h4 : (63 : UInt8) = d := by simpa using h3
    exact hne h4.symm
  have z : (⟨#[1, 2, 97, 98, a, b, c, d]⟩ : ByteArray).size = 8 := rfl
  have z7 : (⟨#[1, 2, 97, 98, a, b, c]⟩ : ByteArray).size = 7 := rfl
  have l0 : (⟨#[0, 0, 0, 0, 0]⟩ : ByteArray).toList = ([0, 0, 0, 0, 0] : List UInt8) := by rw [ByteArray.toList_eq]
  rw [z, e1, z7, e2, take_eq _ (by rw [z7]; omega), take_eq _ (by show 8 ≤ 9223372036854775807; omega), k1, k2, sum_eq _ (by show 9 ≤ 9223372036854775807; omega), sum_nine]
  simp [l0, is_some_iff]
theorem examples_true : ∀ k_ r_, palinodelaw03_examples.f k_ = some r_ → r_ = true := by
  intro k r h
  obtain ⟨K, hK⟩ := examples_ev
  have h2 := at_rounds (g := fun k => palinodelaw03_examples.f k) (fun k => palinodelaw03_examples.mono k) (show k ≤ k + K by omega) h
  have h3 := hK (k + K) (by omega)
  have h4 : some r = some true := h2.symm.trans h3
  exact Option.some.inj h4
end Go.Proofs.Ytmmhdoaepdlmcaa.Print
