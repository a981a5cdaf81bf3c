/- The commands of a definition are those of its steps, twice; of one more step so many more: for all arguments that the row lets in. -/
import Derived.Test.YtnmlnngmfagmfaaDefineLib
import Derived.Test.YtnmlnngmfagmfaaPrint9
namespace Go.Proofs.Ytnmlnngmfagmfaa.Pure
open Go.RowKit Go.Proofs.Ytnmlnngmfagmfaa.Print Go.Proofs.YtnmlnngmfagmfaaX Go.Proofs.YtnmlnngmfagmfaaW.PrintWords
set_option linter.unusedVariables false
set_option linter.unusedSimpArgs false

theorem DefineTries : palinodelaw18_DefineTries.Pure := by
  refine ⟨examples_true, ?_⟩
  intro nm l re ti v1 v2 v3 v4
  have hl : l.length ≤ 8796093021952 := by have := v2.2.1; omega
  obtain ⟨x, hx0⟩ : ∃ x : List S43, x = l ++ [⟨re, ti⟩] := ⟨_, rfl⟩
  have hxl : x.length = l.length + 1 := by rw [hx0]; simp
  obtain ⟨K0, h0⟩ := examples_ev
  obtain ⟨K1, h1⟩ := def_ev nm x v1 (by omega)
  obtain ⟨K2, h2⟩ := def_ev nm l v1 (by omega)
  obtain ⟨K3, h3⟩ := tries_ev nm x v1 (by omega)
  obtain ⟨K4, h4⟩ := tries_ev nm l v1 (by omega)
  refine ⟨K0 + K1 + K2 + K3 + K4 + 1, ?_⟩
  unfold palinodelaw18_DefineTries.f
  rw [h0 _ (by omega)]
  simp only [Option.bind_some, List.nil_append]
  rw [if_pos (by simp; omega)]
  rw [if_pos (by simp; omega), ← hx0, h1 _ (by omega)]
  simp only [Option.bind_some]
  by_cases hb : defB nm x = true
  · rw [if_pos hb]
    have hp := (defB_iff _ _).1 hb
    have h6 := hp.six
    simp only [palinodelaw18_DefineTries.j0]
    by_cases hz : l.length = 0
    · rw [show ((l.length : Int) == 0) = true by rw [beq_iff_eq]; omega, if_pos rfl]
    · have e : ((l.length : Int) == 0) = false := by rw [beq_eq_false_iff_ne]; omega
      have hd : DefP nm l := ⟨fun s hs => hp.steps s (by rw [hx0]; exact List.mem_append_left _ hs), hp.name, by omega, by omega⟩
      have hdb := (defB_iff _ _).2 hd
      obtain ⟨o1, o2, _, _⟩ := hp.steps ⟨re, ti⟩ (by rw [hx0]; simp)
      simp only at o1 o2
      have ht := triesL_range l hd.steps
      have hx2 : triesR nm x = triesL l + 2 * (re + 1) := by
        unfold triesR
        rw [if_pos hb, hx0, triesL_append]
        simp [triesL]
      have hl2 : triesR nm l = triesL l := by unfold triesR; rw [if_pos hdb]
      rw [e, if_neg (by decide), if_pos trivial, h2 _ (by omega), hdb]
      simp only [Option.bind_some, if_true]
      rw [h3 _ (by omega), h4 _ (by omega), hx2, hl2]
      simp only [Option.bind_some]
      rw [wrap_of (re + 1) (by omega) (by omega), wrap_of (2 * (re + 1)) (by omega) (by omega), wrap_of (triesL l + 2 * (re + 1)) (by omega) (by omega), if_pos rfl,
        wrap_of (2 * (l.length : Int)) (by omega) (by omega), if_pos (by omega), wrap_of (2 * (l.length : Int) * 6) (by omega) (by omega), decide_eq_true (by omega)]
  · rw [if_neg hb]
    simp [palinodelaw18_DefineTries.j0]
end Go.Proofs.Ytnmlnngmfagmfaa.Pure
