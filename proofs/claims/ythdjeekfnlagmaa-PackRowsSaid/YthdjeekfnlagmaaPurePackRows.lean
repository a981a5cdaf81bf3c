/- Any texts are written, and any bytes are read as some, as the document says, or refused: for all arguments that the row lets in. -/
import Derived.Test.YthdjeekfnlagmaaPackRowRef
import Derived.Test.YthdjeekfnlagmaaPrint10
namespace Go.Proofs.Ythdjeekfnlagmaa.Pure
open Go.RowKit Go.Proofs.Ythdjeekfnlagmaa.Print Go.Proofs.YthdjeekfnlagmaaX Go.Proofs.YthdjeekfnlagmaaW.PrintWords Go.Proofs.YthdjeekfnlagmaaW.PrintLast
set_option linter.unusedVariables false
set_option linter.unusedSimpArgs false

theorem rows_l1 (b a x : ByteArray) (e : Option Int) (h ok : Bool) (y : List ByteArray) (g turn : Int) (n : Nat) (hn : n ≤ 1000) : ∀ (d i k : Nat) (l : List ByteArray), l.length = n → i + d = n →
    palinodelaw01_PackRows.l1 (k + d + 1) b h a e x ok y g turn l (i : Int) = palinodelaw01_PackRows.l0 k b h a e x ok y g (wrap64 (turn + 1)) := by
  intro d
  induction d with
  | zero =>
    intro i k l hl hi
    simp only [palinodelaw01_PackRows.l1, Nat.add_zero]
    rw [if_neg (by omega)]
  | succ d ih =>
    intro i k l hl hi
    rw [show k + (d + 1) + 1 = (k + d + 1) + 1 by omega]
    simp only [palinodelaw01_PackRows.l1]
    rw [if_pos (by omega), if_pos (by omega), wrap_of _ (by omega) (by omega), show (i : Int) + 1 = ((i + 1 : Nat) : Int) by omega]
    exact ih (i + 1) k _ (by rw [List.length_set, hl]) (by omega)
theorem rowS_err (l : List ByteArray) : (rowS l).2 = none ∨ (rowS l).2 = some 5 := by
  have key : ∀ (l : List ByteArray) (b : ByteArray), (rowR l b).2 = none ∨ (rowR l b).2 = some 5 := by
    intro l
    induction l with
    | nil => intro b; exact .inl rfl
    | cons s l ih =>
      intro b
      simp only [rowR]
      by_cases hc : s.size ≤ 1048576 ∧ b.size + (textL s).size ≤ 1048576
      · rw [if_pos hc]; exact ih _
      · rw [if_neg hc]; exact .inr rfl
  unfold rowS
  by_cases hl : l.length ≤ 1000
  · rw [if_pos hl]; exact key _ _
  · rw [if_neg hl]; exact .inr rfl
theorem PackRows : palinodelaw01_PackRows.Pure := by
  have ⟨K0, h0⟩ := examples_ev
  refine ⟨?_, ?_⟩
  · intro k r h
    have h2 := at_rounds (g := fun k => palinodelaw01_examples.f k) (fun k => palinodelaw01_examples.mono k) (show k ≤ k + K0 by omega) h
    exact Option.some.inj (h2.symm.trans (h0 (k + K0) (by omega)))
  intro l b v1 v2
  obtain ⟨K1, h1⟩ := refrow_ev l
  obtain ⟨K2, h2⟩ := refrr_ev b
  obtain ⟨hne, hml⟩ := readRowR_err b
  have hrs := rowS_err l
  have fin : ∀ k, palinodelaw01_PackRows.l0 (k + 1) b true (rowS l).1 (rowS l).2 (rowS l).1 (rowS l).2.isNone (readRowR b).1 ((readRowR b).2.getD 0) 2 = some true := by
    intro k
    simp only [palinodelaw01_PackRows.l0]
    rw [if_neg (by decide), if_pos trivial, if_pos trivial]
    rcases hrs with h | h
    · rw [h]; rfl
    · rw [h, if_neg (by simp)]
      have : palinodelaw01_is.f (some 5) 5 = some true := by decide
      rw [this]
      rfl
  have turn : ∀ (k : Nat) (i : Int), i < 2 → palinodelaw01_PackRows.l0 (k + 1100 + (readRowR b).1.length + 3) b true (rowS l).1 (rowS l).2 (rowS l).1 (rowS l).2.isNone (readRowR b).1 ((readRowR b).2.getD 0) i =
      palinodelaw01_PackRows.l0 (k + 1100) b true (rowS l).1 (rowS l).2 (rowS l).1 (rowS l).2.isNone (readRowR b).1 ((readRowR b).2.getD 0) (wrap64 (i + 1)) := by
    intro k i hi
    have hl1 := rows_l1 b (rowS l).1 (rowS l).1 (rowS l).2 true (rowS l).2.isNone (readRowR b).1 ((readRowR b).2.getD 0) i (readRowR b).1.length hml (readRowR b).1.length 0 (k + 1100) (readRowR b).1 rfl (by omega)
    rw [show ((0 : Nat) : Int) = 0 from rfl] at hl1
    have hj : palinodelaw01_PackRows.j1 (k + 1100 + (readRowR b).1.length + 2) b true (rowS l).1 (rowS l).2 (rowS l).1 (rowS l).2.isNone (readRowR b).1 ((readRowR b).2.getD 0) i (readRowR b).1 false =
        palinodelaw01_PackRows.l0 (k + 1100) b true (rowS l).1 (rowS l).2 (rowS l).1 (rowS l).2.isNone (readRowR b).1 ((readRowR b).2.getD 0) (wrap64 (i + 1)) := by
      simp only [palinodelaw01_PackRows.j1]
      rw [if_neg (by decide)]
      exact hl1
    generalize palinodelaw01_PackRows.l0 (k + 1100) b true (rowS l).1 (rowS l).2 (rowS l).1 (rowS l).2.isNone (readRowR b).1 ((readRowR b).2.getD 0) (wrap64 (i + 1)) = R at hj ⊢
    clear hl1 fin
    rw [show k + 1100 + (readRowR b).1.length + 3 = (k + 1100 + (readRowR b).1.length + 2) + 1 by omega]
    simp only [palinodelaw01_PackRows.l0]
    rw [if_pos hi, readRow_eq b _ (by omega)]
    simp only [Option.bind_some]
    rw [texts_same _ hml _ (by omega)]
    simp only [Option.bind_some]
    have his : palinodelaw01_is.f (readRowR b).2 ((readRowR b).2.getD 0) = some true := is_of _ hne
    rw [his]
    simp only [Option.bind_some, Bool.not_true, if_true]
    exact hj
  refine ⟨(K0 + K1 + K2) + 1100 + (readRowR b).1.length + 3 + 1100 + (readRowR b).1.length + 3, ?_⟩
  unfold palinodelaw01_PackRows.f
  rw [h0 _ (by omega), row_eq, h1 _ (by omega), h2 _ (by omega)]
  simp only [Option.bind_some]
  have w1 : wrap64 ((0 : Int) + 1) = 1 := by unfold wrap64; decide
  have w2 : wrap64 ((1 : Int) + 1) = 2 := by unfold wrap64; decide
  rw [turn _ 0 (by decide), w1, show (K0 + K1 + K2) + 1100 + (readRowR b).1.length + 3 + 1100 = (K0 + K1 + K2 + 1100) + 1100 + (readRowR b).1.length + 3 by omega, turn _ 1 (by decide), w2]
  exact fin _
end Go.Proofs.Ythdjeekfnlagmaa.Pure
