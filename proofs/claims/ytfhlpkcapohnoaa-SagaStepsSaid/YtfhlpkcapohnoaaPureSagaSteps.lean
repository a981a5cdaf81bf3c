/- A step that goes well takes one step on, or ends; one back takes one step back, or ends; one that is tried again stays: for all arguments that the row lets in. -/
import Derived.Test.YtfhlpkcapohnoaaSagaNext
import Derived.Test.YtfhlpkcapohnoaaPrint16
namespace Go.Proofs.Ytfhlpkcapohnoaa.Pure
open Go.RowKit Go.Proofs.Ytfhlpkcapohnoaa.Print Go.Proofs.YtfhlpkcapohnoaaX Go.Proofs.YtfhlpkcapohnoaaW.PrintWords
set_option linter.unusedVariables false
set_option linter.unusedSimpArgs false

theorem steps_j0 (l : List S53) (nm id df : ByteArray) (st at_ tr due : Int) (out : Bool) (what now : Int) (y : XI) (k : Nat) (hst : st = 1 ∨ st = 2) (q2 : 0 ≤ at_) (q3 : at_ < (l.length : Int)) (h6 : (l.length : Int) ≤ 6) (t0 : 0 ≤ tr) (t1 : tr ≤ 5) (hy : nextX l id df st at_ tr what now = some y) :
    palinodelaw19_SagaSteps.j0 (k + 3) what true true true false nm l id df st at_ tr due out id at_ st tr y.1 y.2.1 y.2.2.1 y.2.2.2.1 y.2.2.2.2.1 y.2.2.2.2.2.1 y.2.2.2.2.2.2 = some true := by
  have w1 : wrap64 (at_ + 1) = at_ + 1 := wrap_of _ (by omega) (by omega)
  have w2 : wrap64 (at_ - 1) = at_ - 1 := wrap_of _ (by omega) (by omega)
  have w3 : wrap64 (tr + 1) = tr + 1 := wrap_of _ (by omega) (by omega)
  simp only [palinodelaw19_SagaSteps.j0, palinodelaw19_SagaSteps.j1, palinodelaw19_SagaSteps.j2, w1, w2, w3]
  rw [if_neg (by decide), if_pos q2, if_pos q3]
  have F : ¬ (false = true) := by decide
  have T : true = true := rfl
  rcases nextX_cases hst hy with ⟨rfl, rfl, e, rfl⟩ | ⟨rfl, rfl, e, rfl⟩ | ⟨hw, rfl⟩ | ⟨hw, t, rfl⟩ | ⟨rfl, rfl, t, rfl⟩ | ⟨hw, rfl, t, rfl⟩
  · have g1 : ¬ at_ + 1 < (l.length : Int) := by omega
    clear w1 w2 w3 hy t0 t1 q2 q3 h6
    simp [finX, e]
  · have g1 : at_ + 1 < (l.length : Int) := by omega
    clear w1 w2 w3 hy t0 t1 q2 q3 h6 e
    simp [goX, g1]
  · by_cases e : at_ = 0
    · have hb : backX l id df at_ now = finX id df 4 0 := if_pos e
      rw [hb]
      clear w1 w2 w3 hy t0 t1 q2 q3 h6 hb
      rcases hw with ⟨rfl, rfl⟩ | ⟨rfl, rfl⟩
      · simp [finX, e]
      · simp [finX, e]
    · have hb : backX l id df at_ now = goX l id df 2 (at_ - 1) 0 now := if_neg e
      have g1 : 0 < at_ := by omega
      rw [hb]
      clear w1 w2 w3 hy t0 t1 q2 q3 h6 hb
      rcases hw with ⟨rfl, rfl⟩ | ⟨rfl, rfl⟩
      · simp [goX, e, g1]
      · simp [goX, e, g1]
  · clear w1 w2 w3 hy t0 t1 q2 q3 h6
    rcases hw with ⟨rfl, rfl⟩ | rfl
    · simp [goX, t]
    · simp [goX, t]
  · clear w1 w2 w3 hy t0 t1 q2 q3 h6
    simp [goX, t]
  · clear w1 w2 w3 hy t0 t1 q2 q3 h6
    rcases hw with rfl | rfl
    · simp [finX, t]
    · simp [finX, t]

theorem SagaSteps : palinodelaw19_SagaSteps.Pure := by
  refine ⟨examples_true, ?_⟩
  intro nm l id df st at_ tr due out what now v1 v2 v3 v4 v5 v6 v7 v8 v9 v10
  obtain ⟨K0, h0⟩ := examples_ev
  have hl : l.length ≤ 140737488351232 := by have := v2.2.1; omega
  have bs := wf_i64 v5
  have ba := wf_i64 v6
  by_cases hL : ¬ (st = 1 ∨ st = 2)
  · obtain ⟨c, hc, K1, h1⟩ := reply_ev nm l id df st at_ tr due out 0 0 what now v1 hl v3
    have hcf : c = false := by
      cases c with
      | false => rfl
      | true => exact absurd (hc.1 rfl).1 hL
    subst hcf
    refine ⟨K0 + K1 + 1, ?_⟩
    unfold palinodelaw19_SagaSteps.f
    rw [h0 _ (by omega), command_eq, if_neg hL]
    simp only [Option.bind_some]
    rw [h1 _ (by omega), replyR_false]
    simp [palinodelaw19_SagaSteps.j0]
  have hL := Classical.not_not.1 hL
  obtain ⟨c, hc, K1, h1⟩ := reply_ev nm l id df st at_ tr due out at_ st what now v1 hl v3
  refine ⟨K0 + K1 + 3, ?_⟩
  unfold palinodelaw19_SagaSteps.f
  rw [h0 _ (by omega), command_eq, if_pos hL]
  simp only [Option.bind_some]
  rw [h1 _ (by omega)]
  rcases replyR_cases c l id df st at_ tr due out what now with hr | ⟨hct, y, hy, hr⟩
  · rw [hr]
    simp [palinodelaw19_SagaSteps.j0]
  · rw [hr]
    have hcc := hc.1 hct
    obtain ⟨q1, q2, q3, q4, q5, q6, q7⟩ := hcc.bounds
    have h6 := q1.six
    obtain ⟨z1, z2, _, _⟩ := q1.at at_ q2 q3
    simp only [Option.bind_some, flat, if_true]
    rw [if_neg (by omega), decide_eq_false (show ¬ at_ ≥ (l.length : Int) by omega)]
    exact steps_j0 l nm id df st at_ tr due out what now y (K0 + K1) hL q2 q3 (by omega) q4 (by omega) hy

end Go.Proofs.Ytfhlpkcapohnoaa.Pure
