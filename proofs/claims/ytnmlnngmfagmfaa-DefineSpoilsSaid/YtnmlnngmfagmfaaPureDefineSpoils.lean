/- A right definition with one thing amiss is none: for all arguments that the row lets in. -/
import Derived.Test.YtnmlnngmfagmfaaDefineLib
import Derived.Test.YtnmlnngmfagmfaaPrint8
namespace Go.Proofs.Ytnmlnngmfagmfaa.Pure
open Go.RowKit Go.Proofs.Ytnmlnngmfagmfaa.Print Go.Proofs.YtnmlnngmfagmfaaX Go.Proofs.YtnmlnngmfagmfaaW.PrintWords
set_option linter.unusedVariables false
set_option linter.unusedSimpArgs false

theorem nameB_bad (nm : ByteArray) : nameB (nm ++ (⟨#[95]⟩ : ByteArray)) = false := by
  rw [Bool.eq_false_iff, Ne, nameB_iff]
  rintro ⟨h, _, _⟩
  have hs : (nm ++ (⟨#[95]⟩ : ByteArray)).size = nm.size + 1 := by rw [ByteArray.size_append]; rfl
  have h1 := h nm.size (by omega)
  have h2 : bt (nm ++ (⟨#[95]⟩ : ByteArray)) (nm.size : Int) = 95 := by
    rw [bt_eq, bytesOf_append, Int.toNat_natCast, bytesOf_size nm, List.getD_eq_getElem?_getD, List.getElem?_append_right (Nat.le_refl _), Nat.sub_self]
    rfl
  rw [h2] at h1
  exact absurd h1 (by decide)
/-- What is not right is told so, and makes no commands. -/
theorem spoilt (nm : ByteArray) (y : List S43) (hs : nm.size ≤ 140737488351232) (hl : y.length ≤ 140737488351232) (h : defB nm y = false) :
    ∃ K, ∀ k, K ≤ k → ((define_Right.f k nm y).bind fun t => (if t = true then (some false) else ((define_Tries.f k nm y).bind fun u => (some (u == 0))))) = some true := by
  obtain ⟨K1, h1⟩ := def_ev nm y hs hl
  obtain ⟨K2, h2⟩ := tries_ev nm y hs hl
  refine ⟨K1 + K2, fun k hk => ?_⟩
  rw [h1 _ (by omega), h2 _ (by omega), h]
  simp [triesR, h]
theorem set_bad (nm : ByteArray) (l : List S43) (i : Nat) (x : S43) (hi : i < l.length) (hx : ¬ okS x) : defB nm (l.set i x) = false := by
  rw [Bool.eq_false_iff, Ne, defB_iff]
  exact fun h => hx (h.steps x (List.mem_set hi x))

theorem spoils_j2 (nm : ByteArray) (l : List S43) (a1 a2 : Int) (hs : nm.size ≤ 140737488351231) (hd : DefP nm l) (h1 : 0 ≤ a1) (h2 : 0 ≤ a2) :
    ∃ K, ∀ k, K ≤ k → palinodelaw18_DefineSpoils.j2 k a1 a2 true nm l = some true := by
  have h1' := hd.one
  have h6 := hd.six
  have hm0 : 0 ≤ Int.tmod a1 (l.length : Int) := Int.tmod_nonneg _ h1
  have hm1 : Int.tmod a1 (l.length : Int) < (l.length : Int) := Int.tmod_lt_of_pos _ (by omega)
  obtain ⟨i, hi⟩ := Int.eq_ofNat_of_zero_le hm0
  have hs1 : (nm ++ (⟨#[95]⟩ : ByteArray)).size = nm.size + 1 := by rw [ByteArray.size_append]; rfl
  obtain ⟨A, hA⟩ := spoilt (nm ++ (⟨#[95]⟩ : ByteArray)) l (by omega) (by omega) (by
    rw [Bool.eq_false_iff, Ne, defB_iff]
    intro h
    have := h.name
    rw [nameB_bad] at this
    cases this)
  have st : ∀ x : S43, ¬ okS x → ∃ K, ∀ k, K ≤ k → ((define_Right.f k nm (l.set i x)).bind fun t => (if t = true then (some false) else ((define_Tries.f k nm (l.set i x)).bind fun u => (some (u == 0))))) = some true :=
    fun x hx => spoilt nm _ (by omega) (by simp; omega) (set_bad nm l i x (by omega) hx)
  obtain ⟨B, hB⟩ := st ⟨6, (rd_T43 l (Int.tmod a1 (l.length : Int))).f1⟩ (by unfold okS; simp)
  obtain ⟨C, hC⟩ := st ⟨(rd_T43 l (Int.tmod a1 (l.length : Int))).f0, 0⟩ (by unfold okS; simp)
  obtain ⟨D, hD⟩ := st ⟨(rd_T43 l (Int.tmod a1 (l.length : Int))).f0, 10001⟩ (by unfold okS; simp)
  obtain ⟨E, hE⟩ := st ⟨(-1), (rd_T43 l (Int.tmod a1 (l.length : Int))).f1⟩ (by unfold okS; simp)
  obtain ⟨G, hG⟩ := spoilt nm [] (by omega) (by simp) (by
    rw [Bool.eq_false_iff, Ne, defB_iff]
    intro h
    have := h.one
    simp at this)
  refine ⟨A + B + C + D + E + G + 1, fun k hk => ?_⟩
  obtain ⟨k, rfl⟩ : ∃ m, k = m + 1 := ⟨k - 1, by omega⟩
  simp only [palinodelaw18_DefineSpoils.j2]
  rw [if_pos (by simp; omega)]
  simp only [Option.bind_some, List.nil_append]
  rw [if_neg (by omega)]
  by_cases c0 : Int.tmod a2 6 = 0
  · rw [if_pos c0, if_pos (by omega), if_pos trivial, hA _ (by omega)]
  rw [if_neg c0]
  by_cases c1 : Int.tmod a2 6 = 1
  · rw [if_pos c1, if_pos hm0, if_pos hm1, if_pos trivial]
    have := hB k (by omega)
    rw [hi] at this ⊢
    exact this
  rw [if_neg c1]
  by_cases c2 : Int.tmod a2 6 = 2
  · rw [if_pos c2, if_pos hm0, if_pos hm1, if_pos trivial]
    have := hC k (by omega)
    rw [hi] at this ⊢
    exact this
  rw [if_neg c2]
  by_cases c3 : Int.tmod a2 6 = 3
  · rw [if_pos c3, if_pos hm0, if_pos hm1, if_pos trivial]
    have := hD k (by omega)
    rw [hi] at this ⊢
    exact this
  rw [if_neg c3]
  by_cases c4 : Int.tmod a2 6 = 4
  · rw [if_pos c4, if_pos trivial, hG _ (by omega)]
  rw [if_neg c4, if_pos hm0, if_pos hm1, if_pos trivial]
  have := hE k (by omega)
  rw [hi] at this ⊢
  exact this

theorem DefineSpoils : palinodelaw18_DefineSpoils.Pure := by
  refine ⟨examples_true, ?_⟩
  intro nm l a1 a2 v1 v2 v3 v4
  have hl : l.length ≤ 8796093021952 := by have := v2.2.1; omega
  obtain ⟨K0, h0⟩ := examples_ev
  obtain ⟨K1, h1⟩ := def_ev nm l v1 (by omega)
  have r1 := wf_i64 v3
  have r2 := wf_i64 v4
  by_cases hb : defB nm l = true
  · have hd := (defB_iff _ _).1 hb
    have hone := hd.one
    have hn : nm.size ≤ 20 := ((nameB_iff nm).1 hd.name).2.2
    have abs : ∀ a : Int, -9223372036854775808 ≤ a → a ≤ 9223372036854775807 → a < 0 → wrap64 (-(wrap64 (a + 1))) = -(a + 1) := by
      intro a q1 q2 q3
      rw [wrap_of (a + 1) (by omega) (by omega), wrap_of _ (by omega) (by omega)]
    obtain ⟨x1, hx1, hx1e⟩ : ∃ x1 : Int, 0 ≤ x1 ∧ (if a1 < 0 then wrap64 (-(wrap64 (a1 + 1))) else a1) = x1 := ⟨_, by
      by_cases c : a1 < 0
      · rw [if_pos c, abs a1 r1.1 r1.2 c]; omega
      · rw [if_neg c]; omega, rfl⟩
    obtain ⟨x2, hx2, hx2e⟩ : ∃ x2 : Int, 0 ≤ x2 ∧ (if a2 < 0 then wrap64 (-(wrap64 (a2 + 1))) else a2) = x2 := ⟨_, by
      by_cases c : a2 < 0
      · rw [if_pos c, abs a2 r2.1 r2.2 c]; omega
      · rw [if_neg c]; omega, rfl⟩
    obtain ⟨K2, h2⟩ := spoils_j2 nm l x1 x2 (by omega) hd hx1 hx2
    refine ⟨K0 + K1 + K2 + 2, ?_⟩
    have j1 : palinodelaw18_DefineSpoils.j1 (K0 + K1 + K2 + 1) x1 a2 true nm l = some true := by
      simp only [palinodelaw18_DefineSpoils.j1]
      have := h2 (K0 + K1 + K2) (by omega)
      by_cases c : a2 < 0
      · rw [if_pos c] at hx2e ⊢; rw [hx2e, this]
      · rw [if_neg c] at hx2e ⊢; rw [hx2e, this]
    have j0 : palinodelaw18_DefineSpoils.j0 (K0 + K1 + K2 + 2) a1 a2 true false nm l = some true := by
      simp only [palinodelaw18_DefineSpoils.j0]
      rw [if_neg (by decide)]
      by_cases c : a1 < 0
      · rw [if_pos c] at hx1e ⊢; rw [hx1e, j1]
      · rw [if_neg c] at hx1e ⊢; rw [hx1e, j1]
    unfold palinodelaw18_DefineSpoils.f
    rw [h0 _ (by omega), h1 _ (by omega), hb]
    simp only [Option.bind_some, if_true]
    rw [show ((l.length : Int) == 0) = false by rw [beq_eq_false_iff_ne]; omega, j0]
  · refine ⟨K0 + K1 + 1, ?_⟩
    unfold palinodelaw18_DefineSpoils.f
    rw [h0 _ (by omega), h1 _ (by omega), Bool.eq_false_iff.2 hb]
    simp [palinodelaw18_DefineSpoils.j0]
end Go.Proofs.Ytnmlnngmfagmfaa.Pure
