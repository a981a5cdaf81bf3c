import Derived.Test.YtfhlpkcapohnoaaSagaStep
namespace Go.Proofs.Ytfhlpkcapohnoaa.Print
open Go.RowKit Go.Proofs.YtfhlpkcapohnoaaX Go.Proofs.YtfhlpkcapohnoaaW.PrintWords
set_option linter.unusedVariables false
set_option linter.unusedSimpArgs false

/-- What a reply that is taken makes: the six ways. -/
theorem nextX_cases {l : List S53} {id df : ByteArray} {st at_ tr what now : Int} {y : XI} (hst : st = 1 ∨ st = 2) (h : nextX l id df st at_ tr what now = some y) :
    (what = 1 ∧ st = 1 ∧ at_ + 1 = (l.length : Int) ∧ y = finX id df 3 (at_ + 1)) ∨
    (what = 1 ∧ st = 1 ∧ at_ + 1 ≠ (l.length : Int) ∧ y = goX l id df 1 (at_ + 1) 0 now) ∨
    ((what = 1 ∧ st = 2 ∨ what = 2 ∧ st = 1) ∧ y = backX l id df at_ now) ∨
    ((what = 2 ∧ st = 2 ∨ what = 3) ∧ tr < (rd_T53 l at_).f0 ∧ y = goX l id df st at_ (tr + 1) now) ∨
    (what = 3 ∧ st = 1 ∧ ¬ tr < (rd_T53 l at_).f0 ∧ y = goX l id df 2 at_ 0 now) ∨
    ((what = 2 ∨ what = 3) ∧ st = 2 ∧ ¬ tr < (rd_T53 l at_).f0 ∧ y = finX id df 5 at_) := by
  unfold nextX at h
  by_cases w1 : what = 1
  · rw [if_pos w1] at h
    by_cases s1 : st = 1
    · rw [if_pos s1] at h
      by_cases e : at_ + 1 = (l.length : Int)
      · rw [if_pos e] at h
        exact .inl ⟨w1, s1, e, (Option.some.inj h).symm⟩
      · rw [if_neg e] at h
        exact .inr (.inl ⟨w1, s1, e, (Option.some.inj h).symm⟩)
    · rw [if_neg s1] at h
      exact .inr (.inr (.inl ⟨.inl ⟨w1, by omega⟩, (Option.some.inj h).symm⟩))
  · rw [if_neg w1] at h
    by_cases w2 : what = 2 ∧ st = 1
    · rw [if_pos w2] at h
      exact .inr (.inr (.inl ⟨.inr w2, (Option.some.inj h).symm⟩))
    · rw [if_neg w2] at h
      by_cases w3 : what = 2 ∨ what = 3
      · rw [if_pos w3] at h
        by_cases t : tr < (rd_T53 l at_).f0
        · rw [if_pos t] at h
          exact .inr (.inr (.inr (.inl ⟨by omega, t, (Option.some.inj h).symm⟩)))
        · rw [if_neg t] at h
          by_cases s1 : st = 1
          · rw [if_pos s1] at h
            exact .inr (.inr (.inr (.inr (.inl ⟨by omega, s1, t, (Option.some.inj h).symm⟩))))
          · rw [if_neg s1] at h
            exact .inr (.inr (.inr (.inr (.inr ⟨w3, by omega, t, (Option.some.inj h).symm⟩))))
      · rw [if_neg w3] at h
        cases h
theorem nextX_some {l : List S53} {id df : ByteArray} {st at_ tr what now : Int} (h : what = 1 ∨ what = 2 ∨ what = 3) : ∃ y, nextX l id df st at_ tr what now = some y := by
  unfold nextX
  by_cases w1 : what = 1
  · rw [if_pos w1]
    split
    · split <;> exact ⟨_, rfl⟩
    · exact ⟨_, rfl⟩
  · rw [if_neg w1]
    split
    · exact ⟨_, rfl⟩
    · rw [if_pos (by omega)]
      split
      · exact ⟨_, rfl⟩
      · split <;> exact ⟨_, rfl⟩
theorem nextX_what {l : List S53} {id df : ByteArray} {st at_ tr what now : Int} {y : XI} (h : nextX l id df st at_ tr what now = some y) : what = 1 ∨ what = 2 ∨ what = 3 := by
  unfold nextX at h
  by_cases w1 : what = 1
  · exact .inl w1
  · rw [if_neg w1] at h
    by_cases w2 : what = 2
    · exact .inr (.inl w2)
    · rw [if_neg (fun h => w2 h.1)] at h
      by_cases w3 : what = 3
      · exact .inr (.inr w3)
      · rw [if_neg (by omega)] at h
        cases h
/-- An instance that goes on at a step is right; so is one that is over. -/
theorem go_right {nm : ByteArray} {l : List S53} {id df : ByteArray} {st at_ tr now : Int} (hd : DefP nm l) (hn : nameB id = true) (hdf : df = nm) (hst : st = 1 ∨ st = 2) (h0 : 0 ≤ at_) (h1 : at_ < l.length) (t0 : 0 ≤ tr) (t1 : tr ≤ (rd_T53 l at_).f0) (n0 : 0 ≤ now) (n1 : now ≤ 1099511627776) :
    RightP nm l id df st at_ tr (now + (rd_T53 l at_).f1) true := by
  obtain ⟨_, _, o3, o4⟩ := hd.at at_ h0 h1
  refine ⟨hd, hn, hdf, ?_⟩
  rw [if_pos hst]
  exact ⟨h0, h1, t0, t1, by omega, by omega⟩
theorem next_right {nm : ByteArray} {l : List S53} {id df : ByteArray} {st at_ tr due : Int} {out : Bool} {step dir what now : Int} {y : XI} (hc : CondP nm l id df st at_ tr due out step dir now) (h : nextX l id df st at_ tr what now = some y) :
    RightP nm l y.1 y.2.1 y.2.2.1 y.2.2.2.1 y.2.2.2.2.1 y.2.2.2.2.2.1 y.2.2.2.2.2.2 ∧ y.1 = id ∧ y.2.1 = df := by
  obtain ⟨_, q2, q3, q4, q5, q6, q7⟩ := hc.bounds
  obtain ⟨hst, ⟨hd, hn, hdf, _⟩, _, _, _, _⟩ := hc
  obtain ⟨z1, z2, _, _⟩ := hd.at at_ q2 q3
  have fin : ∀ s a, (s = 3 ∧ a = (l.length : Int) ∨ s = 4 ∧ a = 0 ∨ s = 5 ∧ 0 ≤ a ∧ a < (l.length : Int)) → RightP nm l id df s a 0 0 false := by
    intro s a hs
    refine ⟨hd, hn, hdf, ?_⟩
    rw [if_neg (by omega)]
    exact ⟨rfl, rfl, rfl, hs⟩
  rcases nextX_cases hst h with ⟨_, _, e, rfl⟩ | ⟨_, _, e, rfl⟩ | ⟨_, rfl⟩ | ⟨_, t, rfl⟩ | ⟨_, _, t, rfl⟩ | ⟨_, _, t, rfl⟩
  · exact ⟨fin 3 (at_ + 1) (.inl ⟨rfl, e⟩), rfl, rfl⟩
  · have hb := hd.at (at_ + 1) (by omega) (by omega)
    exact ⟨go_right (st := 1) (at_ := at_ + 1) (tr := 0) hd hn hdf (.inl rfl) (by omega) (by omega) (by omega) hb.1 q6 q7, rfl, rfl⟩
  · unfold backX
    by_cases e : at_ = 0
    · rw [if_pos e]
      exact ⟨fin 4 0 (.inr (.inl ⟨rfl, rfl⟩)), rfl, rfl⟩
    · rw [if_neg e]
      have hb := hd.at (at_ - 1) (by omega) (by omega)
      exact ⟨go_right (st := 2) (at_ := at_ - 1) (tr := 0) hd hn hdf (.inr rfl) (by omega) (by omega) (by omega) hb.1 q6 q7, rfl, rfl⟩
  · exact ⟨go_right (st := st) (at_ := at_) (tr := tr + 1) hd hn hdf hst q2 q3 (by omega) (by omega) q6 q7, rfl, rfl⟩
  · exact ⟨go_right (st := 2) (at_ := at_) (tr := 0) hd hn hdf (.inr rfl) q2 q3 (by omega) z1 q6 q7, rfl, rfl⟩
  · exact ⟨fin 5 at_ (.inr (.inr ⟨rfl, q2, q3⟩)), rfl, rfl⟩
/-- What a taken reply leaves live waits as long as its step may take. -/
theorem next_live {l : List S53} {id df : ByteArray} {st at_ tr what now : Int} {y : XI} (hst : st = 1 ∨ st = 2) (h : nextX l id df st at_ tr what now = some y) (hy : y.2.2.1 = 1 ∨ y.2.2.1 = 2) :
    y.2.2.2.2.2.1 = now + (rd_T53 l y.2.2.2.1).f1 ∧ y.2.2.2.2.2.2 = true := by
  rcases nextX_cases hst h with ⟨_, _, e, rfl⟩ | ⟨_, _, e, rfl⟩ | ⟨_, rfl⟩ | ⟨_, t, rfl⟩ | ⟨_, _, t, rfl⟩ | ⟨_, _, t, rfl⟩
  · simp [finX] at hy
  · exact ⟨rfl, rfl⟩
  · unfold backX at hy ⊢
    by_cases e : at_ = 0
    · rw [if_pos e] at hy
      simp [finX] at hy
    · rw [if_neg e]
      exact ⟨rfl, rfl⟩
  · exact ⟨rfl, rfl⟩
  · exact ⟨rfl, rfl⟩
  · simp [finX] at hy
theorem replyR_false (l : List S53) (id df : ByteArray) (st at_ tr due : Int) (out : Bool) (what now : Int) : replyR false l id df st at_ tr due out what now = (id, df, st, at_, tr, due, out, false) := rfl
theorem replyR_none {l : List S53} {id df : ByteArray} {st at_ tr due : Int} {out : Bool} {what now : Int} (h : nextX l id df st at_ tr what now = none) : replyR true l id df st at_ tr due out what now = (id, df, st, at_, tr, due, out, false) := by
  unfold replyR
  rw [h]
theorem replyR_some {l : List S53} {id df : ByteArray} {st at_ tr due : Int} {out : Bool} {what now : Int} {y : XI} (h : nextX l id df st at_ tr what now = some y) : replyR true l id df st at_ tr due out what now = flat y true := by
  unfold replyR
  rw [h]
/-- The two ways of a reply. -/
theorem replyR_cases (c : Bool) (l : List S53) (id df : ByteArray) (st at_ tr due : Int) (out : Bool) (what now : Int) :
    replyR c l id df st at_ tr due out what now = (id, df, st, at_, tr, due, out, false) ∨
    c = true ∧ ∃ y, nextX l id df st at_ tr what now = some y ∧ replyR c l id df st at_ tr due out what now = flat y true := by
  cases c with
  | false => exact .inl rfl
  | true =>
    cases h : nextX l id df st at_ tr what now with
    | none => exact .inl (replyR_none h)
    | some y => exact .inr ⟨rfl, y, rfl, replyR_some h⟩
end Go.Proofs.Ytfhlpkcapohnoaa.Print
