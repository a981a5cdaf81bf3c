/- However alike keys are, a block is no longer than its entries one by one, and two bytes each: for all arguments that the row lets in. -/
import Derived.Test.YtgfgdpmpbpofbaaBlockEx
import Derived.Test.YtgfgdpmpbpofbaaPrint9
namespace Go.Proofs.Ytgfgdpmpbpofbaa.Pure
open Go.RowKit Go.Proofs.Ytgfgdpmpbpofbaa.Print Go.Proofs.YtgfgdpmpbpofbaaX Go.Proofs.YtgfgdpmpbpofbaaW.PrintWords Go.Proofs.YtgfgdpmpbpofbaaW.PrintLast
set_option linter.unusedVariables false
set_option linter.unusedSimpArgs false

theorem one_sorted (e : Ent) (h : rightB e = true) : sortedB [e] = true := by
  rw [sortedB_iff]
  intro i hi
  have : i = 0 := by simpa using hi
  subst this
  exact sAt_iff.2 ⟨h, .inl rfl⟩
theorem one_enc (e : Ent) (h : rightB e = true) : encR [e] = (strOfNums (encL [e]), none) := by
  unfold encR
  rw [if_neg (by simp), if_pos (one_sorted e h)]
theorem one_len (e : Ent) : (strOfNums (encL [e])).size = 2 + (entL 0 e).length := by
  rw [size_strOfNums]
  unfold encL
  rw [show ([e] : List Ent).length = 1 from rfl, numL_small (by omega) (by omega)]
  simp only [encFrom]
  rw [show nAt [e] 0 = 0 from rfl, show gt [e] 0 = e from rfl, List.append_nil, List.length_append]
  rfl
theorem bsize_mono {a b : Nat} (h : a ≤ b) (hb : b < 256) : bsize a ≤ bsize b := by
  by_cases c : a = 0
  · subst c; rw [bsize_zero]; omega
  · rw [bsize_pos (n := a) (by omega), bsize_pos (n := b) (by omega), show a / 256 = 0 by omega, show b / 256 = 0 by omega]
    exact Nat.le_refl _
theorem ent_short (n : Nat) (e : Ent) (h : rightB e = true) (hn : n ≤ e.f0.size) : (entL n e).length ≤ 2 + (2 + (entL 0 e).length) := by
  obtain ⟨h1, h2, h3, h4, h5, h6⟩ := right_iff.1 h
  have k1 : (numL n).length ≤ 2 := by
    rw [numL_length]
    have := bsize_le (n := n) (k := 1) (by omega)
    omega
  have k2 : (numL 0).length = 1 := by rw [numL_zero]; rfl
  have k3 : (textL (cutK e.f0 n)).length ≤ (textL (cutK e.f0 0)).length := by
    unfold textL
    rw [List.length_append, List.length_append, bytesOf_length, bytesOf_length, numL_length, numL_length, cutK_size, cutK_size]
    have := bsize_mono (show e.f0.size - n ≤ e.f0.size - 0 by omega) (by omega)
    omega
  unfold entL
  simp only [List.length_append]
  omega
theorem take_one (l : List Ent) (i : Nat) (h : i < l.length) : (l.take (i + 1)).drop i = [gt l i] := by
  rw [gt_get h]
  apply List.ext_getElem
  · simp; omega
  · intro j h1 h2
    have : j = 0 := by simpa using h2
    subst this
    simp
theorem short_l0 (l : List Ent) (hs : sortedB l = true) (hl : l.length ≤ 60) (b : ByteArray) : ∀ (m i k : Nat) (x : Nat), i + m = l.length → m < k → x ≤ 100000 + 10000 * i → b.size ≤ x + (encFrom l m i).length →
    palinodelaw12_BlockShort.l0 k l true b (x : Int) (i : Int) = some true := by
  intro m
  induction m with
  | zero =>
    intro i k x hi hk hx hb
    obtain ⟨k, rfl⟩ : ∃ j, k = j + 1 := ⟨k - 1, by omega⟩
    simp only [palinodelaw12_BlockShort.l0]
    simp only [encFrom, List.length_nil] at hb
    rw [if_neg (by omega), if_pos trivial, decide_eq_true (by omega)]
  | succ m ih =>
    intro i k x hi hk hx hb
    obtain ⟨k, rfl⟩ : ∃ j, k = j + 1 := ⟨k - 1, by omega⟩
    have hr := (sAt_iff.1 (sortedB_iff.1 hs i (by omega))).1
    have hn := nAt_le l i hr
    simp only [palinodelaw12_BlockShort.l0]
    simp only [encFrom] at hb
    rw [List.length_append] at hb
    have h5 := ent_short (nAt l i) (gt l i) hr hn.1
    have h6 := entL_len 0 (gt l i) hr (by omega)
    rw [if_pos (by omega), if_pos (by omega), wrap_of ((i : Int) + 1) (by omega) (by omega), if_pos (by omega), if_pos (by omega), show (i : Int) + 1 = ((i + 1 : Nat) : Int) by omega, Int.toNat_natCast, Int.toNat_natCast, take_one l i (by omega), encode_eq, Option.bind_some, one_enc _ hr]
    simp only
    rw [if_pos (show (none : Option Int).isNone = true from rfl), one_len]
    generalize (entL 0 (gt l i)).length = q at h5 h6
    rw [wrap_of ((x : Int) + ((2 + q : Nat) : Int)) (by omega) (by omega), wrap_of _ (by omega) (by omega), show (x : Int) + ((2 + q : Nat) : Int) + 2 = ((x + (2 + q) + 2 : Nat) : Int) by omega]
    exact ih (i + 1) k _ (by omega) (by omega) (by omega) (by omega)
theorem BlockShort : palinodelaw12_BlockShort.Pure := by
  refine ⟨examples_true, ?_⟩
  intro l v1
  refine ⟨100, ?_⟩
  unfold palinodelaw12_BlockShort.f
  rw [examples_big _ (by omega), Option.bind_some]
  obtain ⟨n, hn, ha, hb⟩ : ∃ n : Nat, mn (l.length : Int) 60 = (n : Int) ∧ n ≤ l.length ∧ n ≤ 60 := by
    unfold mn
    split
    · exact ⟨60, rfl, by omega, by omega⟩
    · exact ⟨l.length, rfl, by omega, by omega⟩
  rw [hn, if_pos (by omega), if_pos (by omega), Int.toNat_natCast, Option.bind_some, encode_eq, Option.bind_some]
  have hl : (l.take n).length ≤ 60 := by rw [List.length_take]; omega
  generalize l.take n = m at hl
  unfold encR
  rw [if_neg (show ¬ 200 < m.length by omega)]
  by_cases c : sortedB m = true
  · rw [if_pos c]
    simp only
    rw [if_pos (show (none : Option Int).isNone = true from rfl)]
    refine short_l0 m c hl _ m.length 0 100 3 (by omega) (by omega) (by omega) ?_
    rw [size_strOfNums]
    unfold encL
    rw [List.length_append]
    have : (numL m.length).length ≤ 2 := by
      rw [numL_length]
      have := bsize_le (n := m.length) (k := 1) (by omega)
      omega
    omega
  · rw [if_neg c]
    simp only
    rw [if_neg (by simp), if_pos trivial, ByteArray.toList_eq]
    rfl
end Go.Proofs.Ytgfgdpmpbpofbaa.Pure
