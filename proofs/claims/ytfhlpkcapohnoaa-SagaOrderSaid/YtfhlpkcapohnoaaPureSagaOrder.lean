/- The commands of a saga, each step and direction once, are Do of the steps from the first one on and then perhaps Undo, one by one back to the first one: for all arguments that the row lets in. -/
import Derived.Test.YtfhlpkcapohnoaaSagaRun
import Derived.Test.YtfhlpkcapohnoaaPrint8
namespace Go.Proofs.Ytfhlpkcapohnoaa.Pure
open Go.RowKit Go.Proofs.Ytfhlpkcapohnoaa.Print Go.Proofs.YtfhlpkcapohnoaaX Go.Proofs.YtfhlpkcapohnoaaW.PrintWords
set_option linter.unusedVariables false
set_option linter.unusedSimpArgs false

/-- How a command follows another one. -/
def Rel (l : List S53) (w : Int) (c c' : S35) : Prop :=
  0 ≤ c'.f1 ∧ c'.f1 < l.length ∧ 0 ≤ c.f1 ∧ c.f1 < l.length ∧ 0 ≤ c.f3 ∧ c.f3 ≤ 5 ∧
  (c.f2 = 1 ∧ c'.f1 = c.f1 + 1 ∧ c'.f2 = 1 ∧ c'.f3 = 0 ∨
   (w = 1 ∧ c.f2 = 2 ∨ w = 2 ∧ c.f2 = 1) ∧ c'.f1 = c.f1 - 1 ∧ c'.f2 = 2 ∧ c'.f3 = 0 ∨
   c'.f1 = c.f1 ∧ c'.f2 = c.f2 ∧ c'.f3 = c.f3 + 1 ∨
   w = 3 ∧ c.f2 = 1 ∧ c'.f1 = c.f1 ∧ c'.f2 = 2 ∧ c'.f3 = 0)
def Chain (l : List S53) : List Int → S35 → List S35 → Prop
  | _, _, [] => True
  | [], _, _ :: _ => False
  | w :: ws, c, c' :: L => Rel l w c c' ∧ Chain l ws c' L

theorem rel_step {nm : ByteArray} {l : List S53} {now : Int} {x : XI} {w : Int} (h : RX nm l x) (hL : liveX x) (n0 : 0 ≤ now) (n1 : now ≤ 1099511627776) (hw : w = 1 ∨ w = 2 ∨ w = 3) (hy : liveX (stepX l now x w)) :
    Rel l w (cmdX x) (cmdX (stepX l now x w)) := by
  have hc := h.cond hL n0 n1
  obtain ⟨q1, q2, q3, q4, q5, q6, q7⟩ := hc.bounds
  obtain ⟨z1, z2, _, _⟩ := q1.at _ q2 q3
  have hn := stepX_next (l := l) (now := now) (x := x) hw
  have hr := (stepX_right h hL n0 n1 hw).1
  generalize stepX l now x w = y at hy hn hr ⊢
  obtain ⟨_, p2, p3, p4, p5, _, _⟩ := (hr.cond hy n0 n1).bounds
  refine ⟨p2, p3, q2, q3, q4, Int.le_trans q5 z2, ?_⟩
  have hL' : x.st = 1 ∨ x.st = 2 := hL
  rcases nextX_cases hL' hn with ⟨_, _, e, rfl⟩ | ⟨_, s, e, rfl⟩ | ⟨hw, rfl⟩ | ⟨_, t, rfl⟩ | ⟨w3, s, t, rfl⟩ | ⟨_, _, t, rfl⟩
  · exact absurd hy (by simp [liveX, finX, XI.st])
  · exact .inl ⟨s, rfl, rfl, rfl⟩
  · by_cases e : x.at = 0
    · have hb : backX l x.1 x.2.1 x.at now = finX x.1 x.2.1 4 0 := if_pos e
      rw [hb] at hy
      exact absurd hy (by simp [liveX, finX, XI.st])
    · have hb : backX l x.1 x.2.1 x.at now = goX l x.1 x.2.1 2 (x.at - 1) 0 now := if_neg e
      rw [hb]
      exact .inr (.inl ⟨hw, rfl, rfl, rfl⟩)
  · exact .inr (.inr (.inl ⟨rfl, rfl, rfl⟩))
  · exact .inr (.inr (.inr ⟨w3, s, rfl, rfl, rfl⟩))
  · exact absurd hy (by simp [liveX, finX, XI.st])
theorem run_dead (l : List S53) (now : Int) (ws : List Int) (x : XI) (h : ¬ liveX x) : runX l now ws x = ([], x) := by
  cases ws with
  | nil => simp only [runX]; rw [if_neg h]
  | cons w ws => simp only [runX]; rw [if_neg h]
theorem run_chain {nm : ByteArray} {l : List S53} {now : Int} (n0 : 0 ≤ now) (n1 : now ≤ 1099511627776) : ∀ (ws : List Int), (∀ w ∈ ws, w = 1 ∨ w = 2 ∨ w = 3) → ∀ x : XI, RX nm l x → liveX x →
    ∃ L, (runX l now ws x).1 = cmdX x :: L ∧ Chain l ws (cmdX x) L := by
  intro ws
  induction ws with
  | nil =>
    intro _ x _ hL
    exact ⟨[], by simp only [runX]; rw [if_pos hL], trivial⟩
  | cons w ws ih =>
    intro hws x hr hL
    have hw := hws w (List.mem_cons_self ..)
    simp only [runX]
    rw [if_pos hL]
    by_cases hy : liveX (stepX l now x w)
    · obtain ⟨L, h1, h2⟩ := ih (fun v hv => hws v (List.mem_cons_of_mem _ hv)) _ (stepX_right hr hL n0 n1 hw).1 hy
      exact ⟨cmdX (stepX l now x w) :: L, by rw [h1], (show Rel _ _ _ _ ∧ _ from ⟨rel_step hr hL n0 n1 hw hy, h2⟩)⟩
    · rw [run_dead _ _ _ _ hy]
      exact ⟨[], rfl, trivial⟩

theorem rd35 (L : List S35) (i : Nat) (c : S35) (R : List S35) (h : L.drop i = c :: R) : rd_T35 L (i : Int) = c := by
  unfold rd_T35
  rw [Int.toNat_natCast, List.getD_eq_getElem?_getD]
  have : L[i]? = some c := by
    have := congrArg (·[0]?) h
    simpa using this
  rw [this]
  rfl
/-- The check of the commands goes through. -/
theorem order_l0 (l : List S53) (l1 : List Int) (L : List S35) (hv : ∀ v ∈ l1, -9223372036854775808 ≤ v ∧ v ≤ 9223372036854775807) (h6 : l.length ≤ 6) (hLL : L.length ≤ 1000) (c0 : S35) (h0 : L = c0 :: L.drop 1) (hc0 : c0.f0 = idA ∧ c0.f1 = 0 ∧ c0.f2 = 1 ∧ c0.f3 = 0) :
    ∀ (R : List S35) (i : Nat) (c : S35) (done undone : Int) (back : Bool), L.drop i = R → i + R.length = L.length → (0 < i) → rd_T35 L ((i : Int) - 1) = c →
      Chain l ((whatsX l1).drop (i - 1)) c R → (c.f2 = 1 ∧ back = false ∧ done = c.f1 ∨ c.f2 = 2 ∧ back = true ∧ undone = c.f1) → -10 ≤ done ∧ done ≤ 10 →
      ∃ K, ∀ k, K ≤ k → palinodelaw19_SagaOrder.l0 k l1 true L done undone back (i : Int) = some true := by
  intro R
  induction R with
  | nil =>
    intro i c done undone back hd hi h1 hrd hch hst hdn
    refine ⟨1, fun k hk => ?_⟩
    obtain ⟨k, rfl⟩ : ∃ m, k = m + 1 := ⟨k - 1, by omega⟩
    simp only [List.length_nil, Nat.add_zero] at hi
    simp only [palinodelaw19_SagaOrder.l0]
    have hz : rd_T35 L 0 = c0 := rd35 L 0 c0 (L.drop 1) (by rw [List.drop_zero]; exact h0)
    rw [if_neg (by omega), if_pos trivial, if_pos (by omega), hz, hc0.1, hc0.2.1, hc0.2.2.1, hc0.2.2.2]
    exact congrArg some (by decide +kernel : (idA.toList == ([97] : List UInt8) && ((0 : Int) == 0 && ((1 : Int) == 1 && (0 : Int) == 0))) = true)
  | cons c' R ih =>
    intro i c done undone back hd hi h1 hrd hch hst hdn
    rw [List.length_cons] at hi
    have hrd' : rd_T35 L (i : Int) = c' := rd35 L i c' R hd
    have hdr : L.drop (i + 1) = R := by
      have := congrArg (List.drop 1) hd
      rw [List.drop_drop, List.drop_one, List.tail_cons] at this
      rw [← this]
    have hww : ∃ w ws, (whatsX l1).drop (i - 1) = w :: ws := by
      cases h : (whatsX l1).drop (i - 1) with
      | nil => rw [h] at hch; exact hch.elim
      | cons w ws => exact ⟨w, ws, rfl⟩
    obtain ⟨w, ws, hww⟩ := hww
    rw [hww] at hch
    obtain ⟨hrel, hch⟩ := hch
    have hlen : i - 1 < (whatsX l1).length := by
      have := congrArg List.length hww
      rw [List.length_drop, List.length_cons] at this
      omega
    have hws : (whatsX l1).drop (i + 1 - 1) = ws := by
      have := congrArg (List.drop 1) hww
      rw [List.drop_drop, List.drop_one, List.tail_cons] at this
      rw [← this]
      congr 1
      omega
    have hlen2 : i - 1 < l1.length := by
      have := hlen
      rw [List.length_map, List.length_take] at this
      omega
    have hw : w = whatOf l1[i - 1] := by
      have e := List.drop_eq_getElem_cons hlen
      rw [hww] at e
      have e2 := (List.cons.inj e).1
      rw [e2, List.getElem_map, List.getElem_take]
    have hrr : rd l1 ((i : Int) - 1) = l1[i - 1] := by
      rw [show ((i : Int) - 1) = ((i - 1 : Nat) : Int) by omega]
      unfold rd
      rw [Int.toNat_natCast, List.getD_eq_getElem?_getD, List.getElem?_eq_getElem hlen2]
      rfl
    have hpick : palinodelaw19_pick.f (rd l1 ((i : Int) - 1)) 3 = some (w - 1) := by
      rw [hrr, pick_eq _ (hv _ (List.getElem_mem _)), hw]
    have HW := Aside0.mk hws
    have HP := Aside0.mk hpick
    have hw3 : w = 1 ∨ w = 2 ∨ w = 3 := by rw [hw]; exact whatOf_in _
    have HC := Aside0.mk hc0
    have HD := Aside0.mk h0
    clear hws hpick hw hrr hlen hww hd hc0 h0
    have wi : wrap64 ((i : Int) - 1) = (i : Int) - 1 := wrap_of _ (by omega) (by omega)
    have wj : wrap64 ((i : Int) + 1) = ((i + 1 : Nat) : Int) := by rw [wrap_of _ (by omega) (by omega)]; rfl
    have ww : wrap64 (w - 1 + 1) = w := by rw [wrap_of _ (by omega) (by omega)]; omega
    have wd : wrap64 (done - 1) = done - 1 := wrap_of _ (by omega) (by omega)
    have wd1 : wrap64 (done + 1) = done + 1 := wrap_of _ (by omega) (by omega)
    obtain ⟨a1, a2, a3, a4, a5, a6, hrel⟩ := hrel
    have HR := Aside0.mk hrel
    have HS := Aside0.mk hst
    clear hrel hst
    have wt : wrap64 (c.f3 + 1) = c.f3 + 1 := wrap_of _ (by omega) (by omega)
    have next : ∀ (done undone : Int) (back : Bool), (c'.f2 = 1 ∧ back = false ∧ done = c'.f1 ∨ c'.f2 = 2 ∧ back = true ∧ undone = c'.f1) → -10 ≤ done ∧ done ≤ 10 →
        ∃ K, ∀ k, K ≤ k → palinodelaw19_SagaOrder.l0 k l1 true L done undone back (((i + 1 : Nat)) : Int) = some true := by
      intro done undone back h2 h3
      refine ih (i + 1) c' done undone back hdr (by omega) (by omega) ?_ ?_ h2 h3
      · rw [show (((i + 1 : Nat)) : Int) - 1 = (i : Int) by omega, hrd']
      · rw [HW.out]
        exact hch
    have enter : ∀ k, palinodelaw19_SagaOrder.l0 (k + 1) l1 true L done undone back (i : Int) = palinodelaw19_SagaOrder.j2 k l1 true L done undone back (i : Int) (decide (c.f1 = c'.f1 ∧ c.f2 = c'.f2)) c'.f0 c'.f1 c'.f2 c'.f3 := by
      intro k
      simp only [palinodelaw19_SagaOrder.l0]
      rw [if_pos (by omega), if_pos (by omega), if_pos (by omega), wi, if_pos (by omega), if_pos (by omega), hrd, hrd']
      by_cases e : c.f1 = c'.f1
      · rw [if_pos e]
        congr 1
        by_cases e2 : c.f2 = c'.f2
        · simp [e, e2]
        · simp [e, e2]
      · rw [if_neg e]
        congr 1
        simp [e]
    rcases HR.out with ⟨s1, s2, s3, s4⟩ | ⟨hw2, s2, s3, s4⟩ | ⟨s2, s3, s4⟩ | ⟨w3, s1, s2, s3, s4⟩
    · -- one step on
      obtain ⟨b1, b2⟩ : back = false ∧ done = c.f1 := by
        rcases HS.out with h | h
        · exact h.2
        · omega
      subst b1 b2
      obtain ⟨K, hK⟩ := next (c.f1 + 1) undone false (.inl ⟨s3, rfl, s2.symm⟩) (by omega)
      refine ⟨K + 5, fun k hk => ?_⟩
      obtain ⟨k, rfl⟩ : ∃ m, k = m + 5 := ⟨k - 5, by omega⟩
      rw [enter, decide_eq_false (by omega)]
      simp only [palinodelaw19_SagaOrder.j2]
      rw [if_neg (by decide), s4]
      simp only [palinodelaw19_SagaOrder.j3]
      rw [if_neg (by decide), if_neg (by decide), if_pos s3, if_neg (by decide), wd1, s2]
      simp only [palinodelaw19_SagaOrder.j4]
      rw [if_pos (by simp), wd1, wj]
      exact hK _ (by omega)
    · by_cases b0 : c.f2 = 2
      · -- one step back
        obtain ⟨b1, b2⟩ : back = true ∧ undone = c.f1 := by
          rcases HS.out with h | h
          · omega
          · exact h.2
        subst b1 b2
        obtain ⟨K, hK⟩ := next done (c.f1 - 1) true (.inr ⟨s3, rfl, s2.symm⟩) hdn
        refine ⟨K + 6, fun k hk => ?_⟩
        obtain ⟨k, rfl⟩ : ∃ m, k = m + 6 := ⟨k - 6, by omega⟩
        rw [enter, decide_eq_false (by omega)]
        simp only [palinodelaw19_SagaOrder.j2]
        rw [if_neg (by decide), s4]
        simp only [palinodelaw19_SagaOrder.j3]
        rw [if_neg (by decide), if_neg (by decide), if_neg (by omega)]
        simp only [palinodelaw19_SagaOrder.j4]
        rw [if_neg (by decide), if_pos s3, if_pos trivial]
        simp only [palinodelaw19_SagaOrder.j5]
        rw [if_neg (by decide), if_pos s3, if_pos trivial, wrap_of (c.f1 - 1) (by omega) (by omega), if_pos s2, wj]
        exact hK _ (by omega)
      · -- it was refused
        obtain ⟨w2, b0⟩ : w = 2 ∧ c.f2 = 1 := by omega
        obtain ⟨b1, b2⟩ : back = false ∧ done = c.f1 := by
          rcases HS.out with h | h
          · exact h.2
          · omega
        subst b1 b2
        obtain ⟨K, hK⟩ := next c.f1 (c.f1 - 1) true (.inr ⟨s3, rfl, s2.symm⟩) hdn
        refine ⟨K + 6, fun k hk => ?_⟩
        obtain ⟨k, rfl⟩ : ∃ m, k = m + 6 := ⟨k - 6, by omega⟩
        rw [enter, decide_eq_false (by omega)]
        simp only [palinodelaw19_SagaOrder.j2]
        rw [if_neg (by decide), s4]
        simp only [palinodelaw19_SagaOrder.j3]
        rw [if_neg (by decide), if_neg (by decide), if_neg (by omega)]
        simp only [palinodelaw19_SagaOrder.j4]
        rw [if_neg (by decide), if_pos s3, if_neg (by decide), if_neg (by omega), wd, s2]
        simp only [palinodelaw19_SagaOrder.j5]
        rw [if_pos (by simp), wd, if_pos rfl, wi, if_pos (by omega), if_pos (by omega), HP.out]
        simp only [Option.bind_some]
        rw [ww, if_pos w2, if_neg (by omega), wj]
        exact hK _ (by omega)
    · -- tried again
      obtain ⟨K, hK⟩ := next done undone back (by rw [s2, s3]; exact HS.out) hdn
      refine ⟨K + 5, fun k hk => ?_⟩
      obtain ⟨k, rfl⟩ : ∃ m, k = m + 5 := ⟨k - 5, by omega⟩
      rw [enter, decide_eq_true ⟨s2.symm, s3.symm⟩]
      simp only [palinodelaw19_SagaOrder.j2]
      rw [if_pos trivial, wi, if_pos (by omega), if_pos (by omega), hrd, wt, if_pos s4]
      simp only [palinodelaw19_SagaOrder.j3]
      rw [if_neg (by decide), if_pos trivial, wj]
      exact hK _ (by omega)
    · -- it failed
      obtain ⟨b1, b2⟩ : back = false ∧ done = c.f1 := by
        rcases HS.out with h | h
        · exact h.2
        · omega
      subst b1 b2
      obtain ⟨K, hK⟩ := next c.f1 c.f1 true (.inr ⟨s3, rfl, s2.symm⟩) hdn
      refine ⟨K + 6, fun k hk => ?_⟩
      obtain ⟨k, rfl⟩ : ∃ m, k = m + 6 := ⟨k - 6, by omega⟩
      rw [enter, decide_eq_false (by omega)]
      simp only [palinodelaw19_SagaOrder.j2]
      rw [if_neg (by decide), s4]
      simp only [palinodelaw19_SagaOrder.j3]
      rw [if_neg (by decide), if_neg (by decide), if_neg (by omega)]
      simp only [palinodelaw19_SagaOrder.j4]
      rw [if_neg (by decide), if_pos s3, if_neg (by decide), if_pos s2, s2]
      simp only [palinodelaw19_SagaOrder.j5]
      rw [if_pos trivial, wd, if_neg (by omega), if_pos trivial, wi, if_pos (by omega), if_pos (by omega), HP.out]
      simp only [Option.bind_some]
      rw [ww, if_neg (by omega), wj]
      exact hK _ (by omega)

theorem chain_length (l : List S53) : ∀ (ws : List Int) (c : S35) (L : List S35), Chain l ws c L → L.length ≤ ws.length := by
  intro ws
  induction ws with
  | nil =>
    intro c L h
    cases L with
    | nil => exact Nat.le_refl _
    | cons _ _ => exact h.elim
  | cons w ws ih =>
    intro c L h
    cases L with
    | nil => exact Nat.zero_le _
    | cons c' L => exact Nat.succ_le_succ (ih c' L h.2)

theorem SagaOrder : palinodelaw19_SagaOrder.Pure := by
  refine ⟨examples_true, ?_⟩
  intro nm l l1 now v1 v2 v3 v4
  obtain ⟨K0, h0⟩ := examples_ev
  have hl : l.length ≤ 140737488351232 := by have := v2.2.1; omega
  have hll : l1.length ≤ 140737488351232 := by have := v3.2.1; omega
  have hv : ∀ v ∈ l1, -9223372036854775808 ≤ v ∧ v ≤ 9223372036854775807 := fun v hv => wf_i64 (v3.2.2 v hv)
  rcases run_ev nm l l1 now v1 hl hv hll with ⟨hd, n0, n1, K1, h1⟩ | ⟨hn, K1, h1⟩
  · have hr := begin_right hd n0 n1
    have hL : liveX (beginX nm l now) := .inl rfl
    obtain ⟨L, e1, hch⟩ := run_chain (nm := nm) (l := l) n0 n1 (whatsX l1) (fun w hw => by
      obtain ⟨v, _, rfl⟩ := List.mem_map.1 hw
      exact whatOf_in v) _ hr hL
    have h6 := hd.six
    have hlen := chain_length l _ _ _ hch
    have hlw : (whatsX l1).length ≤ 200 := by rw [List.length_map, List.length_take]; omega
    have hend : ∃ K, ∀ k, K ≤ k → palinodelaw19_SagaOrder.l0 k l1 true (cmdX (beginX nm l now) :: L) (-1) (-1) false 0 = some true := by
      obtain ⟨K, hK⟩ := order_l0 l l1 (cmdX (beginX nm l now) :: L) hv h6 (by rw [List.length_cons]; omega) (cmdX (beginX nm l now)) rfl ⟨rfl, rfl, rfl, rfl⟩ L 1 (cmdX (beginX nm l now)) 0 (-1) false rfl (by rw [List.length_cons]; omega) (by omega) rfl hch (.inl ⟨rfl, rfl, rfl⟩) (by decide)
      refine ⟨K + 5, fun k hk => ?_⟩
      obtain ⟨k, rfl⟩ : ∃ m, k = m + 5 := ⟨k - 5, by omega⟩
      have hlt : (0 : Int) < (((cmdX (beginX nm l now) :: L).length : Nat) : Int) := by rw [List.length_cons]; omega
      have hz : rd_T35 (cmdX (beginX nm l now) :: L) 0 = cmdX (beginX nm l now) := rfl
      simp only [palinodelaw19_SagaOrder.l0]
      rw [if_pos hlt, if_pos (by decide), if_neg (by decide), hz]
      simp only [palinodelaw19_SagaOrder.j2]
      rw [if_neg (by decide), show (cmdX (beginX nm l now)).f3 = 0 from rfl]
      simp only [palinodelaw19_SagaOrder.j3]
      rw [if_neg (by decide), if_neg (by decide), if_pos (by rfl), if_neg (by decide)]
      simp only [palinodelaw19_SagaOrder.j4]
      have e5 : wrap64 (-1 + 1) = 0 := by unfold wrap64; decide
      have e6 : wrap64 (0 + 1) = 1 := by unfold wrap64; decide
      rw [e5, e6, if_pos (by rfl)]
      exact hK _ (by omega)
    obtain ⟨K2, h2⟩ := hend
    refine ⟨K0 + K1 + K2 + 2, ?_⟩
    unfold palinodelaw19_SagaOrder.f
    rw [h0 _ (by omega), h1 _ (by omega), e1]
    simp only [Option.bind_some, if_true]
    have hne : (((cmdX (beginX nm l now) :: L).length : Int) == 0) = false := by
      rw [List.length_cons]
      simp only [beq_eq_false_iff_ne]
      omega
    rw [hne]
    simp only [palinodelaw19_SagaOrder.j0]
    rw [if_neg (by decide)]
    exact h2 _ (by omega)
  · obtain ⟨b, hb, K2, h2⟩ : ∃ b : Bool, (b = true ↔ DefP nm l) ∧ ∃ K, ∀ k, K ≤ k → define_Right.f k nm l = some b := ⟨defB nm l, defB_iff nm l, def_ev nm l v1 hl⟩
    refine ⟨K0 + K1 + K2 + 1, ?_⟩
    unfold palinodelaw19_SagaOrder.f
    rw [h0 _ (by omega), h1 _ (by omega)]
    simp only [Option.bind_some]
    rw [if_neg (by decide)]
    simp only [palinodelaw19_SagaOrder.j0]
    rw [if_pos trivial, if_pos trivial, h2 _ (by omega)]
    simp only [Option.bind_some]
    cases b with
    | false => rfl
    | true =>
      have hdp := hb.1 rfl
      rw [if_pos rfl]
      by_cases hn0 : now < 0
      · rw [if_pos hn0]
      · rw [if_neg hn0, decide_eq_true (show now > 1099511627776 from Classical.byContradiction fun h => hn ⟨hdp, by omega, by omega⟩)]
end Go.Proofs.Ytfhlpkcapohnoaa.Pure
