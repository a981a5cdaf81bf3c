import Derived.Test.YthdjeekfnlagmaaPackRead
import Derived.Test.YthdjeekfnlagmaaPrint3
import Derived.Test.YthdjeekfnlagmaaPrint5
namespace Go.Proofs.Ythdjeekfnlagmaa.Print
open Go.RowKit Go.Proofs.YthdjeekfnlagmaaX Go.Proofs.YthdjeekfnlagmaaW.PrintWords Go.Proofs.YthdjeekfnlagmaaW.PrintLast
set_option linter.unusedVariables false
set_option linter.unusedSimpArgs false

/-- Errors that are numbers. -/
theorem is_of (e : Option Int) (h : e ≠ some 0) : palinodelaw01_is.f e (e.getD 0) = some true := by
  unfold palinodelaw01_is.f
  cases e with
  | none => simp
  | some x =>
    have hx : ¬ x = 0 := fun h0 => h (by rw [h0])
    simp [hx]
theorem is_some_iff (x c : Int) (h : c ≠ 0) : palinodelaw01_is.f (some x) c = some (x == c) := by
  unfold palinodelaw01_is.f
  simp [h]
theorem examples_ev : ∃ K, ∀ k, K ≤ k → palinodelaw01_examples.f k = some true := by
  obtain ⟨K1, h1⟩ := num_ev 256
  obtain ⟨K2, h2⟩ := text_ev (⟨#[97, 98]⟩ : ByteArray)
  refine ⟨max K1 K2, fun k hk => ?_⟩
  have b0 : bsize 256 = 2 := by
    rw [bsize_pos (by omega), bsize_pos (by omega), show 256 / 256 / 256 = 0 from rfl, bsize_zero]
  have b1 : bsize 2 = 1 := by
    rw [bsize_pos (by omega), show 2 / 256 = 0 from rfl, bsize_zero]
  have e1 : numR 256 = (⟨#[2, 1, 0]⟩, none) := by
    rw [numR, if_neg (by omega)]
    congr 1
    rw [numL, show (256 : Int).toNat = 256 from rfl, b0]
    rfl
  have e2 : textR (⟨#[97, 98]⟩ : ByteArray) = (⟨#[1, 2, 97, 98]⟩, none) := by
    rw [textR, if_neg (by show ¬ 1048576 < 2; omega)]
    congr 1
    rw [numL, show (⟨#[97, 98]⟩ : ByteArray).size = 2 from rfl, b1]
    rfl
  have e3 : readNum (⟨#[8]⟩ : ByteArray) = (0, ⟨#[]⟩, some 3) := by
    unfold readNum
    rw [show (bt (⟨#[8]⟩ : ByteArray) 0).toNat = 8 from rfl]
    rfl
  have e4 : readNum (⟨#[2, 0, 5]⟩ : ByteArray) = (0, ⟨#[]⟩, some 3) := by
    unfold readNum
    rw [show (bt (⟨#[2, 0, 5]⟩ : ByteArray) 0).toNat = 2 from rfl]
    have b5 : bsize 5 = 1 := by
      rw [bsize_pos (by omega), show 5 / 256 = 0 from rfl, bsize_zero]
    have p : pval (⟨#[2, 0, 5]⟩ : ByteArray) 2 = 5 := rfl
    rw [p, b5]
    rfl
  unfold palinodelaw01_examples.f pack_ReadNum.f
  rw [h1 k (by omega), h2 k (by omega), e1, e2, e3, e4]
  simp only [Option.bind_some]
  rw [if_pos (by rw [ByteArray.toList_eq]), if_pos (show (none : Option Int).isNone = true from rfl), if_pos (by rw [ByteArray.toList_eq]), if_pos (show (none : Option Int).isNone = true from rfl), is_some_iff _ _ (by omega)]
  rfl
end Go.Proofs.Ythdjeekfnlagmaa.Print
