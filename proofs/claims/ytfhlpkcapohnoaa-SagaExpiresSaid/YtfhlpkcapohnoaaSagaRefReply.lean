import Derived.Test.YtfhlpkcapohnoaaSagaRef
import Derived.Test.YtfhlpkcapohnoaaPrint13
namespace Go.Proofs.Ytfhlpkcapohnoaa.Print
open Go.RowKit Go.Proofs.YtfhlpkcapohnoaaX Go.Proofs.YtfhlpkcapohnoaaW.PrintWords
set_option linter.unusedVariables false
set_option linter.unusedSimpArgs false

theorem refgoes_eq (nm : ByteArray) (l : List S53) (id df : ByteArray) (st at_ tr due : Int) (out : Bool) (st' at' tr' now : Int) (hd : DefP nm l) (h0 : 0 ≤ at') (h1 : at' < l.length) (n0 : 0 ≤ now) (n1 : now ≤ 1099511627776) :
    palinoderef19_goes.f nm l id df st at_ tr due out st' at' tr' now = some (goX l id df st' at' tr' now) := by
  obtain ⟨_, _, o3, o4⟩ := hd.at at' h0 h1
  unfold palinoderef19_goes.f goX
  rw [if_pos h0, if_pos h1, wrap_of _ (by omega) (by omega)]
theorem refreply_j (nm : ByteArray) (l : List S53) (id df : ByteArray) (st at_ tr due : Int) (out : Bool) (what now : Int) (k : Nat) (hst : st = 1 ∨ st = 2) (hw : what = 1 ∨ what = 2 ∨ what = 3) (hd : DefP nm l) (h0 : 0 ≤ at_) (h1 : at_ < l.length) (t0 : 0 ≤ tr) (t1 : tr ≤ (rd_T53 l at_).f0) (n0 : 0 ≤ now) (n1 : now ≤ 1099511627776) :
    palinoderef19_Reply.j0 (k + 3) what now false nm l id df st at_ tr due out = some (replyR true l id df st at_ tr due out what now) := by
  have h6 := hd.six
  obtain ⟨o1, o2, _, _⟩ := hd.at at_ h0 h1
  have w1 : wrap64 (at_ + 1) = at_ + 1 := wrap_of _ (by omega) (by omega)
  have w2 : wrap64 (at_ - 1) = at_ - 1 := wrap_of _ (by omega) (by omega)
  have w3 : wrap64 (tr + 1) = tr + 1 := wrap_of _ (by omega) (by omega)
  have gA := refgoes_eq nm l id df st at_ tr due out st at_ (tr + 1) now hd h0 h1 n0 n1
  have gB := refgoes_eq nm l id df st at_ tr due out 2 at_ 0 now hd h0 h1 n0 n1
  simp only [palinoderef19_Reply.j0]
  unfold replyR nextX
  rw [if_neg (by decide), if_pos h0, if_pos h1]
  rcases hst with rfl | rfl
  · rw [if_pos rfl]
    rcases hw with rfl | rfl | rfl
    · rw [if_pos rfl, if_pos rfl, if_pos rfl]
      simp only [palinoderef19_Reply.j1]
      rw [w1]
      by_cases e : at_ + 1 = (l.length : Int)
      · rw [if_pos (by rw [e]; exact beq_self_eq_true _), if_pos e]
        rfl
      · rw [if_neg (by simpa using e), if_neg e, if_pos trivial, refgoes_eq nm l id df 1 at_ tr due out 1 (at_ + 1) 0 now hd (by omega) (by omega) n0 n1]
        rfl
    · rw [if_neg (by decide), if_neg (by decide), if_pos ⟨rfl, rfl⟩]
      simp only [palinoderef19_Reply.j1]
      rw [if_neg (by decide), if_neg (by decide), if_pos trivial]
      simp only [palinoderef19_Reply.j2]
      unfold backX
      by_cases e : at_ = 0
      · rw [if_pos (by simpa using e), if_pos e]
        rfl
      · rw [if_neg (by simpa using e), if_pos trivial, if_neg e, w2, refgoes_eq nm l id df 1 at_ tr due out 2 (at_ - 1) 0 now hd (by omega) (by omega) n0 n1]
        rfl
    · rw [if_neg (by decide), if_neg (by decide), if_neg (by decide), if_pos (.inr rfl)]
      simp only [palinoderef19_Reply.j1]
      rw [if_neg (by decide), if_neg (by decide), if_neg (by decide)]
      simp only [palinoderef19_Reply.j2]
      rw [if_neg (by decide), if_neg (by decide)]
      by_cases t : tr < (rd_T53 l at_).f0
      · rw [if_pos (decide_eq_true t), if_pos t, w3, gA]
        rfl
      · rw [if_neg (by simpa using t), if_neg t, gB]
        rfl
  · rw [if_neg (by decide)]
    rcases hw with rfl | rfl | rfl
    · rw [if_pos rfl, if_pos rfl, if_neg (by decide)]
      simp only [palinoderef19_Reply.j3]
      unfold backX
      by_cases e : at_ = 0
      · rw [if_pos (by simpa using e), if_pos e]
        rfl
      · rw [if_neg (by simpa using e), if_pos trivial, if_neg e, w2, refgoes_eq nm l id df 2 at_ tr due out 2 (at_ - 1) 0 now hd (by omega) (by omega) n0 n1]
        rfl
    · rw [if_neg (by decide), if_neg (by decide), if_neg (by decide), if_pos (.inl rfl)]
      simp only [palinoderef19_Reply.j3]
      rw [if_neg (by decide), if_neg (by decide)]
      by_cases t : tr < (rd_T53 l at_).f0
      · rw [if_pos (decide_eq_true t), if_pos t, w3, gA]
        rfl
      · rw [if_neg (by simpa using t), if_neg t]
        rfl
    · rw [if_neg (by decide), if_neg (by decide), if_neg (by decide), if_pos (.inr rfl)]
      simp only [palinoderef19_Reply.j3]
      rw [if_neg (by decide), if_neg (by decide)]
      by_cases t : tr < (rd_T53 l at_).f0
      · rw [if_pos (decide_eq_true t), if_pos t, w3, gA]
        rfl
      · rw [if_neg (by simpa using t), if_neg t]
        rfl
theorem refreply_ev (nm : ByteArray) (l : List S53) (id df : ByteArray) (st at_ tr due : Int) (out : Bool) (step dir what now : Int) (c : Bool) (hc : c = true ↔ CondP nm l id df st at_ tr due out step dir now) (hs : nm.size ≤ 140737488351232) (hl : l.length ≤ 140737488351232) (hid : id.size ≤ 140737488351232) :
    ∃ K, ∀ k, K ≤ k → palinoderef19_Reply.f k nm l id df st at_ tr due out step dir what now = some (replyR c l id df st at_ tr due out what now) := by
  obtain ⟨b, hb, _⟩ := right_ev nm l id df st at_ tr due out hs hl hid
  obtain ⟨K, hK⟩ := refright_ev nm l id df st at_ tr due out b hb hs hl hid
  refine ⟨K + 3, fun k hk => ?_⟩
  obtain ⟨k, rfl⟩ : ∃ m, k = m + 3 := ⟨k - 3, by omega⟩
  have no : (¬ CondP nm l id df st at_ tr due out step dir now ∨ ¬ (what = 1 ∨ what = 2 ∨ what = 3)) → palinoderef19_Reply.j0 (k + 3) what now true nm l id df st at_ tr due out = some (replyR c l id df st at_ tr due out what now) := by
    intro h
    simp only [palinoderef19_Reply.j0]
    rw [if_pos trivial]
    congr 1
    rcases replyR_cases c l id df st at_ tr due out what now with hr | ⟨hct, y, hy, hr⟩
    · exact hr.symm
    · rcases h with h | h
      · exact absurd (hc.1 hct) h
      · exact absurd (nextX_what hy) h
  unfold palinoderef19_Reply.f
  rw [hK _ (by omega), refcommand_eq]
  simp only [Option.bind_some]
  cases b with
  | false =>
    rw [if_neg (by decide)]
    exact no (.inl (fun h => absurd (hb.2 h.2.1) (by decide)))
  | true =>
    rw [if_pos rfl]
    by_cases hL : ¬ (st = 1 ∨ st = 2)
    · rw [if_neg hL, if_neg (by decide)]
      exact no (.inl (fun h => hL h.1))
    have hL := Classical.not_not.1 hL
    rw [if_pos hL, if_pos rfl]
    by_cases h1 : ¬ step = at_
    · rw [if_neg h1]
      exact no (.inl (fun h => h1 h.2.2.1))
    have h1 := Classical.not_not.1 h1
    rw [if_pos h1]
    by_cases h2 : ¬ dir = st
    · rw [if_neg h2]
      exact no (.inl (fun h => h2 h.2.2.2.1))
    have h2 := Classical.not_not.1 h2
    rw [if_pos h2]
    by_cases w0 : what < 1
    · rw [if_pos w0]
      exact no (.inr (by omega))
    rw [if_neg w0]
    by_cases w4 : what > 3
    · rw [if_pos w4]
      exact no (.inr (by omega))
    rw [if_neg w4, reftime_eq]
    simp only [Option.bind_some]
    by_cases h3 : 0 ≤ now ∧ now ≤ 1099511627776
    · have hcc : CondP nm l id df st at_ tr due out step dir now := ⟨hL, hb.1 rfl, h1, h2, h3.1, h3.2⟩
      obtain ⟨q1, q2, q3, q4, q5, q6, q7⟩ := hcc.bounds
      rw [decide_eq_true h3, hc.2 hcc]
      exact refreply_j nm l id df st at_ tr due out what now k hL (by omega) q1 q2 q3 q4 q5 q6 q7
    · rw [decide_eq_false h3]
      exact no (.inl (fun h => h3 h.2.2.2.2))
end Go.Proofs.Ytfhlpkcapohnoaa.Print
