/- What becomes of a right instance, by any reply, time or ack, is right, of the same ID and definition, and one that is over stays: for all arguments that the row lets in. -/
import Derived.Test.YtfhlpkcapohnoaaSagaNext
import Derived.Test.YtfhlpkcapohnoaaPrint22
namespace Go.Proofs.Ytfhlpkcapohnoaa.Pure
open Go.RowKit Go.Proofs.Ytfhlpkcapohnoaa.Print Go.Proofs.YtfhlpkcapohnoaaX Go.Proofs.YtfhlpkcapohnoaaW.PrintWords
set_option linter.unusedVariables false
set_option linter.unusedSimpArgs false

theorem rd26 (x0 x1 x2 : S26) : rd_T26 [x0, x1, x2] 0 = x0 ∧ rd_T26 [x0, x1, x2] 1 = x1 ∧ rd_T26 [x0, x1, x2] 2 = x2 := ⟨rfl, rfl, rfl⟩
/-- An instance that came of a right one: it is right, of its ID and definition; it is the elder one where nothing was taken. -/
structure Next (nm : ByteArray) (l : List S53) (id df : ByteArray) (st at_ tr due : Int) (out : Bool) (k : Nat) (y : S26) (ok : Bool) : Prop where
  right : saga_Right.f k nm l y.f0 y.f1 y.f2 y.f3 y.f4 y.f5 y.f6 = some true
  idE : y.f0 = id
  dfE : y.f1 = df
  same : ok = false → (y.f0.toList == id.toList && (y.f1.toList == df.toList && (y.f2 == st && (y.f3 == at_ && (y.f4 == tr && (y.f5 == due && (y.f6 == out))))))) = true
  live : ok = true → st = 1 ∨ st = 2
theorem same_of (id df : ByteArray) (st at_ tr due : Int) (out : Bool) : (id.toList == id.toList && (df.toList == df.toList && (st == st && (at_ == at_ && (tr == tr && (due == due && (out == out))))))) = true := by simp
theorem right_l0 (nm : ByteArray) (l : List S53) (id df : ByteArray) (st at_ tr due : Int) (out : Bool) (k : Nat) (y0 y1 y2 : S26) (o0 o1 o2 : Bool) (n0 : ∀ j, k ≤ j → Next nm l id df st at_ tr due out j y0 o0) (n1 : ∀ j, k ≤ j → Next nm l id df st at_ tr due out j y1 o1) (n2 : ∀ j, k ≤ j → Next nm l id df st at_ tr due out j y2 o2) :
    palinodelaw19_SagaRight.l0 (k + 4) true o0 o1 o2 [y0, y1, y2] 0 nm l id df st at_ tr due out y0.f0 y0.f1 y0.f2 y0.f3 y0.f4 y0.f5 y0.f6 y1.f0 y1.f1 y1.f2 y1.f3 y1.f4 y1.f5 y1.f6 y2.f0 y2.f1 y2.f2 y2.f3 y2.f4 y2.f5 y2.f6 = some true := by
  obtain ⟨r0, r1, r2⟩ := rd26 y0 y1 y2
  have t0 : (y0.f0.toList = id.toList) := by rw [(n0 k (Nat.le_refl _)).idE]
  have t1 : (y1.f0.toList = id.toList) := by rw [(n1 k (Nat.le_refl _)).idE]
  have t2 : (y2.f0.toList = id.toList) := by rw [(n2 k (Nat.le_refl _)).idE]
  have s0 : (y0.f1.toList = df.toList) := by rw [(n0 k (Nat.le_refl _)).dfE]
  have s1 : (y1.f1.toList = df.toList) := by rw [(n1 k (Nat.le_refl _)).dfE]
  have s2 : (y2.f1.toList = df.toList) := by rw [(n2 k (Nat.le_refl _)).dfE]
  rw [palinodelaw19_SagaRight.l0, r0, if_pos (by simp), if_pos (by decide), (n0 _ (by omega)).right]
  simp only [Option.bind_some, if_true]
  rw [if_pos t0, if_pos s0, wrap_of _ (by decide) (by decide), show (0 : Int) + 1 = 1 from rfl]
  rw [palinodelaw19_SagaRight.l0, r1, if_pos (by simp), if_pos (by decide), (n1 _ (by omega)).right]
  simp only [Option.bind_some, if_true]
  rw [if_pos t1, if_pos s1, wrap_of _ (by decide) (by decide), show (1 : Int) + 1 = 2 from rfl]
  rw [palinodelaw19_SagaRight.l0, r2, if_pos (by simp), if_pos (by decide), (n2 _ (by omega)).right]
  simp only [Option.bind_some, if_true]
  rw [if_pos t2, if_pos s2, wrap_of _ (by decide) (by decide), show (2 : Int) + 1 = 3 from rfl]
  rw [palinodelaw19_SagaRight.l0, if_neg (by simp)]
  simp only [live_eq, Option.bind_some]
  have q0 := (n0 k (Nat.le_refl _)).same
  have q1 := (n1 k (Nat.le_refl _)).same
  have q2 := (n2 k (Nat.le_refl _)).same
  have v0 := (n0 k (Nat.le_refl _)).live
  have v1 := (n1 k (Nat.le_refl _)).live
  have v2 := (n2 k (Nat.le_refl _)).live
  clear n0 n1 n2 t0 t1 t2 s0 s1 s2 r0 r1 r2
  have u0 : o0 = true → decide (st = 1 ∨ st = 2) = true := fun h => decide_eq_true (v0 h)
  have u1 : o1 = true → decide (st = 1 ∨ st = 2) = true := fun h => decide_eq_true (v1 h)
  have u2 : o2 = true → decide (st = 1 ∨ st = 2) = true := fun h => decide_eq_true (v2 h)
  clear v0 v1 v2
  generalize (y0.f0.toList == id.toList && (y0.f1.toList == df.toList && (y0.f2 == st && (y0.f3 == at_ && (y0.f4 == tr && (y0.f5 == due && (y0.f6 == out))))))) = e0 at q0 ⊢
  generalize (y1.f0.toList == id.toList && (y1.f1.toList == df.toList && (y1.f2 == st && (y1.f3 == at_ && (y1.f4 == tr && (y1.f5 == due && (y1.f6 == out))))))) = e1 at q1 ⊢
  generalize (y2.f0.toList == id.toList && (y2.f1.toList == df.toList && (y2.f2 == st && (y2.f3 == at_ && (y2.f4 == tr && (y2.f5 == due && (y2.f6 == out))))))) = e2 at q2 ⊢
  generalize decide (st = 1 ∨ st = 2) = d at u0 u1 u2 ⊢
  cases o0 <;> cases o1 <;> cases o2 <;> simp_all
theorem reply_next (nm : ByteArray) (l : List S53) (id df : ByteArray) (st at_ tr due : Int) (out : Bool) (step dir what now : Int) (c : Bool) (v1 : nm.size ≤ 140737488351232) (hl : l.length ≤ 140737488351232) (v3 : id.size ≤ 140737488351232)
    (hr : RightP nm l id df st at_ tr due out) (hc : c = true → CondP nm l id df st at_ tr due out step dir now) :
    ∃ y : S26, ∃ ok : Bool, replyR c l id df st at_ tr due out what now = (y.f0, y.f1, y.f2, y.f3, y.f4, y.f5, y.f6, ok) ∧ ∃ K, ∀ k, K ≤ k → Next nm l id df st at_ tr due out k y ok := by
  rcases replyR_cases c l id df st at_ tr due out what now with h | ⟨hct, y, hy, h⟩
  · obtain ⟨K, hK⟩ := rightTrue v1 hl v3 hr
    exact ⟨⟨id, df, st, at_, tr, due, out⟩, false, h, K, fun k hk => ⟨hK k hk, rfl, rfl, fun _ => same_of id df st at_ tr due out, fun h => absurd h (by decide)⟩⟩
  · have hcc := hc hct
    obtain ⟨hyr, hyi, hyd⟩ := next_right hcc hy
    obtain ⟨yid, ydf, yst, yat, ytr, ydue, yout⟩ := y
    simp only at hyr hyi hyd
    subst hyi hyd
    obtain ⟨K, hK⟩ := rightTrue v1 hl v3 hyr
    exact ⟨⟨yid, ydf, yst, yat, ytr, ydue, yout⟩, true, h, K, fun k hk => ⟨hK k hk, rfl, rfl, fun h => absurd h (by decide), fun _ => hcc.1⟩⟩
theorem SagaRight : palinodelaw19_SagaRight.Pure := by
  refine ⟨examples_true, ?_⟩
  intro nm l id df st at_ tr due out step dir what now v1 v2 v3 v4 v5 v6 v7 v8 v9 v10 v11 v12
  obtain ⟨K0, h0⟩ := examples_ev
  have hl : l.length ≤ 140737488351232 := by have := v2.2.1; omega
  obtain ⟨b, hb, K1, h1⟩ := right_ev nm l id df st at_ tr due out v1 hl v3
  cases b with
  | false =>
    refine ⟨K0 + K1, ?_⟩
    unfold palinodelaw19_SagaRight.f
    rw [h0 _ (by omega), h1 _ (by omega)]
    rfl
  | true =>
    have hr := hb.1 rfl
    obtain ⟨c, hc, K2, h2⟩ := reply_ev nm l id df st at_ tr due out step dir what now v1 hl v3
    obtain ⟨c3, hc3, K3, h3⟩ := expire_ev nm l id df st at_ tr due out now v1 hl v3
    obtain ⟨y0, o0, e0, L0, n0⟩ := reply_next nm l id df st at_ tr due out step dir what now c v1 hl v3 hr hc.1
    obtain ⟨y1, o1, e1, L1, n1⟩ := reply_next nm l id df st at_ tr due out at_ st 3 now c3 v1 hl v3 hr (fun h => (hc3.1 h).1)
    obtain ⟨y2, o2, e2, L2, n2⟩ : ∃ y : S26, ∃ ok : Bool, saga_Ack.f id df st at_ tr due out step dir = some (y.f0, y.f1, y.f2, y.f3, y.f4, y.f5, y.f6, ok) ∧ ∃ K, ∀ k, K ≤ k → Next nm l id df st at_ tr due out k y ok := by
      rw [ack_eq]
      by_cases ha : (st = 1 ∨ st = 2) ∧ out = true ∧ step = at_ ∧ dir = st
      · rw [if_pos ha]
        have hr2 : RightP nm l id df st at_ tr due false := by
          obtain ⟨g1, g2, g3, g4⟩ := hr
          rw [if_pos ha.1] at g4
          refine ⟨g1, g2, g3, ?_⟩
          rw [if_pos ha.1]
          exact g4
        obtain ⟨K, hK⟩ := rightTrue v1 hl v3 hr2
        exact ⟨⟨id, df, st, at_, tr, due, false⟩, true, rfl, K, fun k hk => ⟨hK k hk, rfl, rfl, fun h => absurd h (by decide), fun _ => ha.1⟩⟩
      · rw [if_neg ha]
        obtain ⟨K, hK⟩ := rightTrue v1 hl v3 hr
        exact ⟨⟨id, df, st, at_, tr, due, out⟩, false, rfl, K, fun k hk => ⟨hK k hk, rfl, rfl, fun _ => same_of id df st at_ tr due out, fun h => absurd h (by decide)⟩⟩
    refine ⟨K0 + K1 + K2 + K3 + L0 + L1 + L2 + 4, ?_⟩
    unfold palinodelaw19_SagaRight.f
    rw [h0 _ (by omega), h1 _ (by omega)]
    simp only [Option.bind_some, if_true]
    rw [h2 _ (by omega), h3 _ (by omega), e0, e1, e2]
    simp only [Option.bind_some]
    exact right_l0 nm l id df st at_ tr due out _ y0 y1 y2 o0 o1 o2 (fun j hj => n0 j (by omega)) (fun j hj => n1 j (by omega)) (fun j hj => n2 j (by omega))

end Go.Proofs.Ytfhlpkcapohnoaa.Pure
