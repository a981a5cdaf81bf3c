import Derived.Test.YtgfgdpmpbpofbaaBlockEnc
import Derived.Test.YtgfgdpmpbpofbaaPrint8
namespace Go.Proofs.Ytgfgdpmpbpofbaa.Print
open Go.RowKit Go.Proofs.YtgfgdpmpbpofbaaX Go.Proofs.YtgfgdpmpbpofbaaW.PrintWords Go.Proofs.YtgfgdpmpbpofbaaW.PrintLast
set_option linter.unusedVariables false
set_option linter.unusedSimpArgs false

def ex1 : Ent := ⟨⟨#[97, 98]⟩, 2, false, ⟨#[120]⟩⟩
def ex2 : Ent := ⟨⟨#[97, 99]⟩, 1, true, ⟨#[]⟩⟩
theorem ex_sorted : sortedB [ex1, ex2] = true := by
  unfold sortedB sAt rightB beforeB bless ex1 ex2
  simp only [ByteArray.toList_eq]
  decide +kernel
theorem ex_bytes : encL [ex1, ex2] = [1, 2, 0, 1, 2, 97, 98, 1, 2, 0, 1, 1, 120, 1, 1, 1, 1, 99, 1, 1, 1, 1] := by
  have n0 : nAt [ex1, ex2] 0 = 0 := rfl
  have n1 : nAt [ex1, ex2] 1 = 1 := by decide +kernel
  have g0 : gt [ex1, ex2] 0 = ex1 := rfl
  have g1 : gt [ex1, ex2] 1 = ex2 := rfl
  have c0 : cutK ex1.f0 0 = ⟨#[97, 98]⟩ := rfl
  have c1 : cutK ex2.f0 1 = ⟨#[99]⟩ := rfl
  have s1 : ex1.f1.toNat = 2 := rfl
  have s2 : ex2.f1.toNat = 1 := rfl
  have l2 : ([ex1, ex2] : List Ent).length = 2 := rfl
  have t0 : textL (⟨#[97, 98]⟩ : ByteArray) = [1, 2, 97, 98] := by unfold textL; rw [show (⟨#[97, 98]⟩ : ByteArray).size = 2 from rfl, numL_small (by omega) (by omega)]; rfl
  have t1 : textL (⟨#[99]⟩ : ByteArray) = [1, 1, 99] := by unfold textL; rw [show (⟨#[99]⟩ : ByteArray).size = 1 from rfl, numL_small (by omega) (by omega)]; rfl
  have t2 : textL ex1.f3 = [1, 1, 120] := by unfold textL; rw [show ex1.f3.size = 1 from rfl, numL_small (by omega) (by omega)]; rfl
  unfold encL
  rw [l2]
  simp only [encFrom]
  rw [n0, n1, g0, g1]
  unfold entL
  rw [c0, c1, s1, s2, t0, t1, t2, numL_zero, numL_small (n := 2) (by omega) (by omega), numL_small (n := 1) (by omega) (by omega)]
  rfl
theorem examples_big (k : Nat) (hk : 4 ≤ k) : palinodelaw12_examples.f k = some true := by
  unfold palinodelaw12_examples.f
  rw [encode_eq []]
  have e0 : encR [] = (strOfNums [0], none) := by unfold encR encL; rw [if_neg (by simp), if_pos (show sortedB [] = true from rfl), show ([] : List Ent).length = 0 from rfl, numL_zero]; rfl
  have e1 : encR [ex1, ex2] = (strOfNums [1, 2, 0, 1, 2, 97, 98, 1, 2, 0, 1, 1, 120, 1, 1, 1, 1, 99, 1, 1, 1, 1], none) := by unfold encR; rw [if_neg (by simp), if_pos ex_sorted, ex_bytes]
  rw [e0, Option.bind_some, Option.bind_some, show ([⟨⟨#[97, 98]⟩, 2, false, ⟨#[120]⟩⟩, ⟨⟨#[97, 99]⟩, 1, true, ⟨#[]⟩⟩] : List Ent) = [ex1, ex2] from rfl, encode_eq, e1, Option.bind_some]
  rw [if_pos (by rw [ByteArray.toList_eq]; decide +kernel), if_pos (show (none : Option Int).isNone = true from rfl), if_pos (by rw [ByteArray.toList_eq]; decide +kernel), if_pos (show (none : Option Int).isNone = true from rfl), sorted_big [ex1, ex2] (by simp) k (by simp; omega), ex_sorted]
  rfl
theorem examples_true : ∀ k_ r_, palinodelaw12_examples.f k_ = some r_ → r_ = true := by
  intro k r h
  have h2 := at_rounds (g := fun k => palinodelaw12_examples.f k) (fun k => palinodelaw12_examples.mono k) (show k ≤ k + 4 by omega) h
  have h3 := examples_big (k + 4) (by omega)
  exact Option.some.inj (h2.symm.trans h3)
end Go.Proofs.Ytgfgdpmpbpofbaa.Print
