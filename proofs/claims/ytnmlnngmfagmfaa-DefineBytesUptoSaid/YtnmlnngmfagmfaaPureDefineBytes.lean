/- Any definition is written, and any bytes are read as one, as the document says, or refused: for all arguments of bulk at most 1048576. -/
import Derived.Test.YtnmlnngmfagmfaaDefineRef
import Derived.Test.YtnmlnngmfagmfaaPrint14
namespace Go.Proofs.Ytnmlnngmfagmfaa.Pure
open Go.RowKit Go.Proofs.Ytnmlnngmfagmfaa.Print Go.Proofs.YtnmlnngmfagmfaaX Go.Proofs.YtnmlnngmfagmfaaW.PrintWords
set_option linter.unusedVariables false
set_option linter.unusedSimpArgs false

theorem defs_l0 (nm nm' : ByteArray) (l : List S43) (hl : l.length ≤ 1000) : ∀ (d i k : Nat), i + d = l.length → d < k → palinodelaw18_defs.l0 k (i : Int) nm l nm' l = some true := by
  intro d
  induction d with
  | zero =>
    intro i k hi hk
    obtain ⟨k, rfl⟩ : ∃ m, k = m + 1 := ⟨k - 1, by omega⟩
    simp only [palinodelaw18_defs.l0]
    rw [if_neg (by omega)]
  | succ d ih =>
    intro i k hi hk
    obtain ⟨k, rfl⟩ : ∃ m, k = m + 1 := ⟨k - 1, by omega⟩
    simp only [palinodelaw18_defs.l0]
    rw [if_pos (by omega), if_pos (by omega), if_pos (by omega), if_neg (by simp), wrap_of _ (by omega) (by omega)]
    exact ih (i + 1) k (by omega) (by omega)
theorem defs_same (nm : ByteArray) (l : List S43) (hl : l.length ≤ 1000) (k : Nat) (hk : l.length + 2 ≤ k) : palinodelaw18_defs.f k nm l nm l = some true := by
  obtain ⟨k, rfl⟩ : ∃ m, k = m + 1 := ⟨k - 1, by omega⟩
  unfold palinodelaw18_defs.f
  rw [if_pos rfl]
  simp only [palinodelaw18_defs.j0]
  rw [if_neg (by simp)]
  exact defs_l0 nm nm l hl l.length 0 k (by omega) (by omega)
theorem is3 : palinodelaw18_is.f (some 3) 3 = some true := by decide
theorem is1 : palinodelaw18_is.f (some 1) 1 = some true := by decide
/-- The rounds that overwrite what came. -/
theorem bytes_l1 (b a x : ByteArray) (e : Option Int) (h ok fine : Bool) (turn : Int) (wn : ByteArray) (wl : List S43) (yn : ByteArray) (n : Nat) (hn : n ≤ 1000) : ∀ (d i k : Nat) (yl : List S43), yl.length = n → i + d = n →
    palinodelaw18_DefineBytes.l1 (k + d + 1) b h a e x ok fine turn (i : Int) wn wl yn yl = palinodelaw18_DefineBytes.l0 k b h a e x ok fine (wrap64 (turn + 1)) wn wl := by
  intro d
  induction d with
  | zero =>
    intro i k yl hy hi
    simp only [palinodelaw18_DefineBytes.l1, Nat.add_zero]
    rw [if_neg (by omega)]
  | succ d ih =>
    intro i k yl hy hi
    rw [show k + (d + 1) + 1 = (k + d + 1) + 1 by omega]
    simp only [palinodelaw18_DefineBytes.l1]
    rw [if_pos (by omega), if_pos (by omega), wrap_of _ (by omega) (by omega), show (i : Int) + 1 = ((i + 1 : Nat) : Int) by omega]
    exact ih (i + 1) k _ (by rw [List.length_set, hy]) (by omega)

theorem DefineBytes : palinodelaw18_DefineBytes.Pure := by
  refine ⟨examples_true, ?_⟩
  intro nm l b v1 v2 v3 v4
  obtain ⟨K0, h0⟩ := examples_ev
  have hl : l.length ≤ 140737488351232 := by have := v2.2.1; omega
  have hb : b.size ≤ 1048576 := by omega
  clear v4
  obtain ⟨K1, h1⟩ := enc_ev nm l v1 hl
  obtain ⟨K2, h2⟩ := renc_ev nm l v1
  obtain ⟨yn, yl, ye, K3, h3, he, h6, he3, h4⟩ := rdec_ev b hb
  have hyl : yl.length ≤ 6 := by
    rcases he with rfl | rfl
    · exact h6 rfl
    · rw [(he3 rfl).2]; exact Nat.zero_le _
  refine ⟨K0 + K1 + K2 + K3 + 100, ?_⟩
  unfold palinodelaw18_DefineBytes.f
  rw [h0 _ (by omega), h1 _ (by omega), h2 _ (by omega), h4 _ (by omega)]
  simp only [Option.bind_some]
  have fin : ∀ k, palinodelaw18_DefineBytes.l0 (k + 1) b true (encR nm l).1 (encR nm l).2 (encR nm l).1 (defB nm l) ye.isNone 2 yn yl = some true := by
    intro k
    simp only [palinodelaw18_DefineBytes.l0]
    rw [if_neg (by decide), if_pos trivial, if_pos trivial]
    by_cases hd : defB nm l = true
    · rw [if_pos hd, encR, if_pos hd]
      rfl
    · rw [if_neg hd, encR, if_neg hd]
      simp only
      rw [is1]
      rfl
  have turn : ∀ (k : Nat) (i : Int), i < 2 → palinodelaw18_DefineBytes.l0 (k + 20 + yl.length + 3) b true (encR nm l).1 (encR nm l).2 (encR nm l).1 (defB nm l) ye.isNone i yn yl =
      palinodelaw18_DefineBytes.l0 (k + 20) b true (encR nm l).1 (encR nm l).2 (encR nm l).1 (defB nm l) ye.isNone (wrap64 (i + 1)) yn yl := by
    intro k i hi
    have hl1 := bytes_l1 b (encR nm l).1 (encR nm l).1 (encR nm l).2 true (defB nm l) ye.isNone i yn yl yn yl.length (by omega) yl.length 0 (k + 20) yl rfl (by omega)
    rw [show ((0 : Nat) : Int) = 0 from rfl] at hl1
    have hj : palinodelaw18_DefineBytes.j1 (k + 20 + yl.length + 2) b true (encR nm l).1 (encR nm l).2 (encR nm l).1 (defB nm l) ye.isNone i false yn yl yn yl =
        palinodelaw18_DefineBytes.l0 (k + 20) b true (encR nm l).1 (encR nm l).2 (encR nm l).1 (defB nm l) ye.isNone (wrap64 (i + 1)) yn yl := by
      simp only [palinodelaw18_DefineBytes.j1]
      rw [if_neg (by decide)]
      exact hl1
    generalize palinodelaw18_DefineBytes.l0 (k + 20) b true (encR nm l).1 (encR nm l).2 (encR nm l).1 (defB nm l) ye.isNone (wrap64 (i + 1)) yn yl = R at hj ⊢
    clear hl1 fin
    rw [show k + 20 + yl.length + 3 = (k + 20 + yl.length + 2) + 1 by omega]
    simp only [palinodelaw18_DefineBytes.l0]
    rw [if_pos hi, h3]
    simp only [Option.bind_some]
    rw [defs_same yn yl (by omega) _ (by omega)]
    simp only [Option.bind_some]
    rw [if_pos trivial]
    rcases he with rfl | rfl
    · rw [if_pos (by rfl), if_neg (by simp), if_pos (by rfl)]
      exact hj
    · rw [if_neg (by simp), if_neg (by simp), if_neg (by simp)]
      simp only [Option.getD_some]
      rw [is3]
      simp only [Option.bind_some, Bool.not_true]
      exact hj
  have w1 : wrap64 ((0 : Int) + 1) = 1 := by unfold wrap64; decide
  have w2 : wrap64 ((1 : Int) + 1) = 2 := by unfold wrap64; decide
  obtain ⟨q, hq⟩ : ∃ q, K0 + K1 + K2 + K3 + 100 = (q + 20 + yl.length + 3 - 20) + 20 + yl.length + 3 := ⟨K0 + K1 + K2 + K3 + 100 - 2 * yl.length - 26, by omega⟩
  rw [hq, turn _ 0 (by decide), w1, show q + 20 + yl.length + 3 - 20 + 20 = q + 20 + yl.length + 3 by omega, turn q 1 (by decide), w2]
  exact fin _
end Go.Proofs.Ytnmlnngmfagmfaa.Pure
