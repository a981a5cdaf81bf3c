/- Of any text it is told whether it is a name, of any definition whether it is right, and how many commands it makes: for all arguments that the row lets in. -/
import Derived.Test.YtnmlnngmfagmfaaDefineLib
import Derived.Test.YtnmlnngmfagmfaaPrint7
import Derived.Test.YtnmlnngmfagmfaaPrint7
namespace Go.Proofs.Ytnmlnngmfagmfaa.Pure
open Go.RowKit Go.Proofs.Ytnmlnngmfagmfaa.Print Go.Proofs.YtnmlnngmfagmfaaX Go.Proofs.YtnmlnngmfagmfaaW.PrintWords
set_option linter.unusedVariables false
set_option linter.unusedSimpArgs false

theorem reftries_l0 (nm : ByteArray) (l : List S43) (hl : l.length ≤ 6) (ok : ∀ s ∈ l, okS s) : ∀ (d i k : Nat) (c : Int), i + d = l.length → d < k → 0 ≤ c → c ≤ 12 * i →
    palinoderef18_Tries.l0 k true c (i : Int) nm l = some (c + triesL (l.drop i)) := by
  intro d
  induction d with
  | zero =>
    intro i k c hi hk h0 h1
    obtain ⟨k, rfl⟩ : ∃ m, k = m + 1 := ⟨k - 1, by omega⟩
    simp only [palinoderef18_Tries.l0]
    rw [if_neg (by omega), List.drop_of_length_le (by omega)]
    simp [triesL]
  | succ d ih =>
    intro i k c hi hk h0 h1
    obtain ⟨k, rfl⟩ : ∃ m, k = m + 1 := ⟨k - 1, by omega⟩
    have hlt : i < l.length := by omega
    obtain ⟨o1, o2, _, _⟩ := ok _ (List.getElem_mem hlt)
    have hd : l.drop i = l[i] :: l.drop (i + 1) := List.drop_eq_getElem_cons hlt
    simp only [palinoderef18_Tries.l0]
    rw [if_pos (by omega), if_pos trivial, if_pos (by omega), rd_at l i hlt, wrap_of (l[i].f0 + 1) (by omega) (by omega), wrap_of (2 * (l[i].f0 + 1)) (by omega) (by omega), wrap_of (c + 2 * (l[i].f0 + 1)) (by omega) (by omega), wrap_of ((i : Int) + 1) (by omega) (by omega),
      show (i : Int) + 1 = ((i + 1 : Nat) : Int) by omega, ih (i + 1) k _ (by omega) (by omega) (by omega) (by omega), hd]
    simp only [triesL]
    congr 1
    omega
theorem reftries_ev (nm : ByteArray) (l : List S43) (hs : nm.size ≤ 140737488351232) : ∃ K, ∀ k, K ≤ k → palinoderef18_Tries.f k nm l = some (triesR nm l) := by
  obtain ⟨K, hK⟩ := refdef_ev nm l hs
  refine ⟨K + 8, fun k hk => ?_⟩
  unfold palinoderef18_Tries.f triesR
  rw [hK k (by omega)]
  simp only [Option.bind_some]
  by_cases hd : defB nm l = true
  · have hp := (defB_iff nm l).1 hd
    have := reftries_l0 nm l hp.six hp.steps l.length 0 k 0 (by omega) (by have := hp.six; omega) (by omega) (by omega)
    rw [show ((0 : Nat) : Int) = 0 from rfl] at this
    rw [hd, if_pos rfl, this]
    simp
  · rw [if_neg hd, Bool.eq_false_iff.2 hd]
    obtain ⟨k, rfl⟩ : ∃ m, k = m + 1 := ⟨k - 1, by omega⟩
    simp [palinoderef18_Tries.l0]

theorem DefineTells : palinodelaw18_DefineTells.Pure := by
  refine ⟨examples_true, ?_⟩
  intro s nm l v1 v2 v3
  have hl : l.length ≤ 140737488351232 := by have := v3.2.1; omega
  obtain ⟨K0, h0⟩ := examples_ev
  obtain ⟨K1, h1⟩ := refname_ev s v1
  obtain ⟨K2, h2⟩ := def_ev nm l v2 hl
  obtain ⟨K3, h3⟩ := refdef_ev nm l v2
  obtain ⟨K4, h4⟩ := tries_ev nm l v2 hl
  obtain ⟨K5, h5⟩ := reftries_ev nm l v2
  refine ⟨K0 + K1 + K2 + K3 + K4 + K5, ?_⟩
  unfold palinodelaw18_DefineTells.f
  rw [h0 _ (by omega), h1 _ (by omega), h2 _ (by omega), h3 _ (by omega), h4 _ (by omega), h5 _ (by omega), name_eq s v1]
  simp
end Go.Proofs.Ytnmlnngmfagmfaa.Pure
