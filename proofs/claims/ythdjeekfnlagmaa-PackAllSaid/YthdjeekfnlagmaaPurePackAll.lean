/- Some texts that are written are read as they were, and with bytes behind refused: for all arguments that the row lets in. -/
import Derived.Test.YthdjeekfnlagmaaPackRowLib
import Derived.Test.YthdjeekfnlagmaaPrint10
namespace Go.Proofs.Ythdjeekfnlagmaa.Pure
open Go.RowKit Go.Proofs.Ythdjeekfnlagmaa.Print Go.Proofs.YthdjeekfnlagmaaX Go.Proofs.YthdjeekfnlagmaaW.PrintWords Go.Proofs.YthdjeekfnlagmaaW.PrintLast
set_option linter.unusedVariables false
set_option linter.unusedSimpArgs false

def catT : List ByteArray → ByteArray
  | [] => ⟨#[]⟩
  | s :: l => textL s ++ catT l
theorem empty_app (b : ByteArray) : (⟨#[]⟩ : ByteArray) ++ b = b := ByteArray.empty_append
theorem app_empty (b : ByteArray) : b ++ (⟨#[]⟩ : ByteArray) = b := ByteArray.append_empty
theorem rowR_good : ∀ (l : List ByteArray) (b : ByteArray), (rowR l b).2 = none → b.size ≤ 1048576 → (rowR l b).1 = b ++ catT l ∧ (rowR l b).1.size ≤ 1048576 ∧ ∀ s ∈ l, s.size ≤ 1048576 := by
  intro l
  induction l with
  | nil =>
    intro b h hb
    exact ⟨(app_empty b).symm, hb, fun s hs => by cases hs⟩
  | cons s l ih =>
    intro b h hb
    simp only [rowR] at h ⊢
    by_cases hc : s.size ≤ 1048576 ∧ b.size + (textL s).size ≤ 1048576
    · rw [if_pos hc] at h ⊢
      obtain ⟨h1, h2, h3⟩ := ih _ h (by rw [app_size]; exact hc.2)
      refine ⟨by rw [h1, catT, ByteArray.append_assoc], h2, fun x hx => ?_⟩
      rcases List.mem_cons.1 hx with rfl | hx
      · exact hc.1
      · exact h3 x hx
    · rw [if_neg hc] at h
      cases h
theorem loopR_cat : ∀ (l : List ByteArray) (more : ByteArray) (acc : List ByteArray), (∀ s ∈ l, s.size ≤ 1048576) → loopR l.length (catT l ++ more) acc = if more.size = 0 then (acc ++ l, none) else ([], some 3) := by
  intro l
  induction l with
  | nil => intro more acc h; simp only [List.length_nil, loopR, catT, empty_app, List.append_nil]
  | cons s l ih =>
    intro more acc h
    simp only [List.length_cons, loopR, catT]
    rw [ByteArray.append_assoc]
    have e : readText (textL s ++ (catT l ++ more)) = (s, catT l ++ more, none) := readText_text s (h s (List.mem_cons_self ..)) _
    rw [e]
    simp only
    rw [ih more (acc ++ [s]) (fun x hx => h x (List.mem_cons_of_mem _ hx)), List.append_assoc]
    rfl
theorem readRow_row (l : List ByteArray) (h : (rowS l).2 = none) (more : ByteArray) : l.length ≤ 1000 ∧ (rowS l).1.size ≤ 1048576 ∧ readRowR ((rowS l).1 ++ more) = if 1048576 < (rowS l).1.size + more.size then ([], some 5) else if more.size = 0 then (l, none) else ([], some 3) := by
  unfold rowS at h ⊢
  by_cases hl : l.length ≤ 1000
  · rw [if_pos hl] at h ⊢
    have h7 := bsize_7 (n := l.length) (by omega)
    obtain ⟨h1, h2, h3⟩ := rowR_good l _ h (by rw [size_strOfNums, numL_length]; omega)
    refine ⟨hl, h2, ?_⟩
    unfold readRowR
    rw [app_size]
    by_cases hb : 1048576 < (rowR l (strOfNums (numL l.length))).1.size + more.size
    · rw [if_pos hb, if_pos hb]
    · rw [if_neg hb, if_neg hb, h1, ByteArray.append_assoc, readNum_num _ (by omega)]
      simp only
      rw [if_neg (by omega), Int.toNat_natCast, loopR_cat l more [] h3]
      rfl
  · rw [if_neg hl] at h
    cases h
theorem is_of5 (c : Int) (h : c ≠ 0) : palinodelaw01_is.f (some c) c = some true := by
  unfold palinodelaw01_is.f
  rw [if_neg h, if_neg (by simp)]
  simp
theorem PackAll : palinodelaw01_PackAll.Pure := by
  have ⟨K0, h0⟩ := examples_ev
  refine ⟨?_, ?_⟩
  · intro k r h
    have h2 := at_rounds (g := fun k => palinodelaw01_examples.f k) (fun k => palinodelaw01_examples.mono k) (show k ≤ k + K0 by omega) h
    exact Option.some.inj (h2.symm.trans (h0 (k + K0) (by omega)))
  intro l more v1 v2
  refine ⟨K0 + 1100, ?_⟩
  unfold palinodelaw01_PackAll.f
  rw [h0 _ (by omega), row_eq]
  simp only [Option.bind_some]
  cases he : (rowS l).2 with
  | some e =>
    rw [if_neg (by simp), if_pos trivial]
    have : (rowS l).1 = ⟨#[]⟩ := by
      unfold rowS at he ⊢
      by_cases hl : l.length ≤ 1000
      · rw [if_pos hl] at he ⊢
        have key : ∀ (l : List ByteArray) (b : ByteArray) (e : Int), (rowR l b).2 = some e → (rowR l b).1 = ⟨#[]⟩ := by
          intro l
          induction l with
          | nil => intro b e h; cases h
          | cons s l ih =>
            intro b e h
            simp only [rowR] at h ⊢
            by_cases hc : s.size ≤ 1048576 ∧ b.size + (textL s).size ≤ 1048576
            · rw [if_pos hc] at h ⊢; exact ih _ _ h
            · rw [if_neg hc]
        exact key _ _ _ he
      · rw [if_neg hl]
    rw [this]
    exact congrArg some (by decide +kernel)
  | none =>
    obtain ⟨hl, hz, hr0⟩ := readRow_row l he ⟨#[]⟩
    obtain ⟨_, _, hr1⟩ := readRow_row l he more
    rw [app_empty] at hr0
    have hs0 : (⟨#[]⟩ : ByteArray).size = 0 := rfl
    rw [hs0, Nat.add_zero, if_neg (by omega), if_pos rfl] at hr0
    rw [if_pos (by rfl), readRow_eq _ _ (by omega), hr0]
    simp only [Option.bind_some]
    rw [texts_same l hl _ (by omega)]
    simp only [Option.bind_some]
    rw [if_pos (by omega), readRow_eq _ _ (by omega), hr1]
    simp only [Option.bind_some]
    rw [if_pos trivial, if_pos trivial, if_pos (by rfl)]
    by_cases hm : more.size = 0
    · rw [if_pos (toList_nil_iff.2 hm)]
    · rw [if_neg (fun h => hm (toList_nil_iff.1 h))]
      by_cases hb : 1048576 < (rowS l).1.size + more.size
      · rw [if_pos hb]
        simp only
        have hw : wrap64 (((rowS l).1.size : Int) + (more.size : Int)) = ((rowS l).1.size : Int) + (more.size : Int) := wrap_of _ (by omega) (by omega)
        rw [hw]
        have h53 : palinodelaw01_is.f (some 5) 3 = some false := by decide
        rw [h53]
        simp only [Option.bind_some]
        rw [if_neg (by decide), if_pos (by omega), is_of5 5 (by decide)]
        rfl
      · rw [if_neg hb, if_neg hm]
        simp only
        rw [is_of5 3 (by decide)]
        rfl
end Go.Proofs.Ythdjeekfnlagmaa.Pure
