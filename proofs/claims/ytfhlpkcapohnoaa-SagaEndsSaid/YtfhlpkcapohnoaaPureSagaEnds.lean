/- Behind as many replies as there are commands at most a saga is over, and how: for all arguments that the row lets in. -/
import Derived.Test.YtfhlpkcapohnoaaSagaRun
import Derived.Test.YtfhlpkcapohnoaaPrint9
import Derived.Test.YtfhlpkcapohnoaaPrint9
namespace Go.Proofs.Ytfhlpkcapohnoaa.Pure
open Go.RowKit Go.Proofs.Ytfhlpkcapohnoaa.Print Go.Proofs.YtfhlpkcapohnoaaX Go.Proofs.YtfhlpkcapohnoaaW.PrintWords
set_option linter.unusedVariables false
set_option linter.unusedSimpArgs false

/-- How often the steps ahead of the n-th one may be tried. -/
def triesTo (l : List S53) : Nat → Int
  | 0 => 0
  | n + 1 => triesTo l n + ((rd_T53 l (n : Int)).f0 + 1)
def tt (l : List S53) (i : Int) : Int := triesTo l i.toNat
theorem tt_succ (l : List S53) (i : Int) (h : 0 ≤ i) : tt l (i + 1) = tt l i + ((rd_T53 l i).f0 + 1) := by
  obtain ⟨n, rfl⟩ := Int.eq_ofNat_of_zero_le h
  unfold tt
  rw [show ((n : Int) + 1).toNat = n + 1 by omega, show ((n : Int)).toNat = n by omega]
  rfl
theorem tt_le {nm : ByteArray} {l : List S53} (hd : DefP nm l) : ∀ n : Nat, n ≤ l.length → 0 ≤ triesTo l n ∧ triesTo l n ≤ 6 * n := by
  intro n
  induction n with
  | zero => intro _; exact ⟨Int.le_refl _, Int.le_refl _⟩
  | succ n ih =>
    intro h
    obtain ⟨h1, h2⟩ := ih (by omega)
    obtain ⟨o1, o2, _, _⟩ := hd.at (n : Int) (by omega) (by omega)
    simp only [triesTo]
    omega
theorem tt_mono {nm : ByteArray} {l : List S53} (hd : DefP nm l) : ∀ (d n : Nat), n + d ≤ l.length → triesTo l n ≤ triesTo l (n + d) := by
  intro d
  induction d with
  | zero => intro n _; exact Int.le_refl _
  | succ d ih =>
    intro n h
    have h1 := ih n (by omega)
    obtain ⟨o1, o2, _, _⟩ := hd.at ((n + d : Nat) : Int) (by omega) (by omega)
    rw [show n + (d + 1) = (n + d) + 1 by omega]
    simp only [triesTo]
    omega
theorem tt_mono' {nm : ByteArray} {l : List S53} (hd : DefP nm l) {i j : Int} (h0 : 0 ≤ i) (h1 : i ≤ j) (h2 : j ≤ l.length) : tt l i ≤ tt l j := by
  unfold tt
  have := tt_mono hd (j.toNat - i.toNat) i.toNat (by omega)
  rwa [show i.toNat + (j.toNat - i.toNat) = j.toNat by omega] at this
theorem tries_l0 (nm : ByteArray) (l : List S53) (hd : DefP nm l) : ∀ (d i k : Nat), i + d = l.length → d < k →
    define_Tries.l0 k (2 * triesTo l i) l (l.length : Int) (i : Int) = some (2 * triesTo l l.length) := by
  intro d
  have h6 := hd.six
  induction d with
  | zero =>
    intro i k hi hk
    obtain ⟨k, rfl⟩ : ∃ m, k = m + 1 := ⟨k - 1, by omega⟩
    simp only [define_Tries.l0]
    rw [if_neg (by omega), show i = l.length by omega]
  | succ d ih =>
    intro i k hi hk
    obtain ⟨k, rfl⟩ : ∃ m, k = m + 1 := ⟨k - 1, by omega⟩
    simp only [define_Tries.l0]
    obtain ⟨o1, o2, _, _⟩ := hd.at (i : Int) (by omega) (by omega)
    obtain ⟨t1, t2⟩ := tt_le hd i (by omega)
    rw [if_pos (by omega), if_pos (by omega), if_pos (by omega), wrap_of ((rd_T53 l (i : Int)).f0 + 1) (by omega) (by omega), wrap_of (2 * ((rd_T53 l (i : Int)).f0 + 1)) (by omega) (by omega), wrap_of _ (by omega) (by omega), wrap_of _ (by omega) (by omega)]
    have h := ih (i + 1) k (by omega) (by omega)
    simp only [triesTo] at h
    rw [show 2 * triesTo l i + 2 * ((rd_T53 l (i : Int)).f0 + 1) = 2 * (triesTo l i + ((rd_T53 l (i : Int)).f0 + 1)) by omega, show (i : Int) + 1 = ((i + 1 : Nat) : Int) by omega]
    exact h
theorem tries_ev (nm : ByteArray) (l : List S53) (hs : nm.size ≤ 140737488351232) (hl : l.length ≤ 140737488351232) (hd : DefP nm l) : ∃ K, ∀ k, K ≤ k → define_Tries.f k nm l = some (2 * triesTo l l.length) := by
  obtain ⟨K, hK⟩ := def_ev nm l hs hl
  refine ⟨K + l.length + 1, fun k hk => ?_⟩
  unfold define_Tries.f
  rw [hK k (by omega), (defB_iff nm l).2 hd]
  simp only [Option.bind_some, if_true]
  have := tries_l0 nm l hd l.length 0 k (by omega) (by omega)
  simp only [triesTo] at this
  exact this

/-- How many commands are to come at most. -/
def mu (l : List S53) (x : XI) : Int :=
  if x.st = 1 then tt l l.length + (tt l l.length - tt l x.at) - x.tr else if x.st = 2 then tt l (x.at + 1) - x.tr else 0
theorem mu_pos {nm : ByteArray} {l : List S53} {x : XI} (h : RX nm l x) (hL : liveX x) : 1 ≤ mu l x := by
  obtain ⟨hd, _, _, h3⟩ := h
  have hL' : x.st = 1 ∨ x.st = 2 := hL
  rw [if_pos hL'] at h3
  obtain ⟨a1, a2, a3, a4, _⟩ := h3
  have t1 := tt_succ l x.at a1
  have t2 := tt_mono' hd (i := x.at + 1) (j := l.length) (by omega) (by omega) (Int.le_refl _)
  have t3 := tt_mono' hd (i := 0) (j := x.at) (by omega) (by omega) (by omega)
  have t0 : tt l 0 = 0 := rfl
  unfold mu
  by_cases h1 : x.st = 1
  · rw [if_pos h1]; omega
  · rw [if_neg h1, if_pos (by omega)]; omega
theorem mu_step {nm : ByteArray} {l : List S53} {now : Int} {x : XI} {w : Int} (h : RX nm l x) (hL : liveX x) (n0 : 0 ≤ now) (n1 : now ≤ 1099511627776) (hw : w = 1 ∨ w = 2 ∨ w = 3) :
    mu l (stepX l now x w) + 1 ≤ mu l x := by
  have hp := mu_pos h hL
  have hn := stepX_next (l := l) (now := now) (x := x) hw
  have hr := (stepX_right h hL n0 n1 hw).1
  obtain ⟨hd, _, _, h3⟩ := h
  have hL' : x.st = 1 ∨ x.st = 2 := hL
  rw [if_pos hL'] at h3
  obtain ⟨a1, a2, a3, a4, _⟩ := h3
  have t1 := tt_succ l x.at a1
  have t2 := tt_mono' hd (i := x.at + 1) (j := l.length) (by omega) (by omega) (Int.le_refl _)
  have t3 := tt_mono' hd (i := 0) (j := x.at) (by omega) (by omega) (by omega)
  have t0 : tt l 0 = 0 := rfl
  generalize stepX l now x w = y at hn hr ⊢
  have dead : ∀ s a, s ≠ 1 → s ≠ 2 → mu l (finX x.1 x.2.1 s a) = 0 := by
    intro s a h1 h2
    unfold mu finX
    rw [if_neg h1, if_neg h2]
  rcases nextX_cases hL' hn with ⟨_, _, e, rfl⟩ | ⟨_, s, e, rfl⟩ | ⟨hw, rfl⟩ | ⟨_, t, rfl⟩ | ⟨w3, s, t, rfl⟩ | ⟨_, _, t, rfl⟩
  · rw [dead _ _ (by decide) (by decide)]; omega
  · have e1 : mu l (goX l x.1 x.2.1 1 (x.at + 1) 0 now) = tt l l.length + (tt l l.length - tt l (x.at + 1)) - 0 := rfl
    have e2 : mu l x = tt l l.length + (tt l l.length - tt l x.at) - x.tr := if_pos s
    rw [e1, e2]
    omega
  · by_cases e : x.at = 0
    · have hb : backX l x.1 x.2.1 x.at now = finX x.1 x.2.1 4 0 := if_pos e
      rw [hb, dead _ _ (by decide) (by decide)]; omega
    · have hb : backX l x.1 x.2.1 x.at now = goX l x.1 x.2.1 2 (x.at - 1) 0 now := if_neg e
      have e1 : mu l (goX l x.1 x.2.1 2 (x.at - 1) 0 now) = tt l (x.at - 1 + 1) - 0 := rfl
      rw [hb, e1, show x.at - 1 + 1 = x.at by omega]
      unfold mu at hp ⊢
      by_cases s : x.st = 1
      · rw [if_pos s]; omega
      · rw [if_neg s, if_pos (by omega)]; omega
  · have e1 : mu l (goX l x.1 x.2.1 x.st x.at (x.tr + 1) now) = if x.st = 1 then tt l l.length + (tt l l.length - tt l x.at) - (x.tr + 1) else if x.st = 2 then tt l (x.at + 1) - (x.tr + 1) else 0 := rfl
    rw [e1]
    unfold mu
    by_cases s : x.st = 1
    · rw [if_pos s, if_pos s]; omega
    · rw [if_neg s, if_neg s, if_pos (by omega), if_pos (by omega)]; omega
  · have e1 : mu l (goX l x.1 x.2.1 2 x.at 0 now) = tt l (x.at + 1) - 0 := rfl
    have e2 : mu l x = tt l l.length + (tt l l.length - tt l x.at) - x.tr := if_pos s
    rw [e1, e2]
    omega
  · rw [dead _ _ (by decide) (by decide)]; omega

theorem run_dead (l : List S53) (now : Int) (ws : List Int) (x : XI) (h : ¬ liveX x) : runX l now ws x = ([], x) := by
  cases ws with
  | nil => simp only [runX]; rw [if_neg h]
  | cons w ws => simp only [runX]; rw [if_neg h]
/-- Where it ends. -/
theorem run_end {nm : ByteArray} {l : List S53} {now : Int} (n0 : 0 ≤ now) (n1 : now ≤ 1099511627776) : ∀ (ws : List Int), (∀ w ∈ ws, w = 1 ∨ w = 2 ∨ w = 3) → ∀ x : XI, RX nm l x → liveX x → mu l x ≤ ws.length →
    ¬ liveX (runX l now ws x).2 ∧ 1 ≤ (runX l now ws x).1.length ∧ ((runX l now ws x).1.length : Int) ≤ mu l x ∧
    ∃ z w, RX nm l z ∧ liveX z ∧ ws[(runX l now ws x).1.length - 1]? = some w ∧ (w = 1 ∨ w = 2 ∨ w = 3) ∧ (runX l now ws x).2 = stepX l now z w ∧ (runX l now ws x).1[(runX l now ws x).1.length - 1]? = some (cmdX z) := by
  intro ws
  induction ws with
  | nil =>
    intro _ x hr hL hm
    have := mu_pos hr hL
    simp only [List.length_nil] at hm
    omega
  | cons w ws ih =>
    intro hws x hr hL hm
    have hw := hws w (List.mem_cons_self ..)
    have hp := mu_pos hr hL
    have hms := mu_step hr hL n0 n1 hw
    have e : runX l now (w :: ws) x = (cmdX x :: (runX l now ws (stepX l now x w)).1, (runX l now ws (stepX l now x w)).2) := by
      simp only [runX]
      rw [if_pos hL]
    rw [e]
    by_cases hy : liveX (stepX l now x w)
    · have hr2 := (stepX_right hr hL n0 n1 hw).1
      rw [List.length_cons] at hm
      obtain ⟨i1, i2, i3, z, v, i4, i5, i6, i7, i8, i9⟩ := ih (fun v hv => hws v (List.mem_cons_of_mem _ hv)) _ hr2 hy (by omega)
      generalize runX l now ws (stepX l now x w) = r at i1 i2 i3 i6 i8 i9 ⊢
      obtain ⟨r1, r2⟩ := r
      simp only at i1 i2 i3 i6 i8 i9 ⊢
      have e2 : (cmdX x :: r1).length - 1 = (r1.length - 1) + 1 := by rw [List.length_cons]; omega
      refine ⟨i1, by rw [List.length_cons]; omega, by rw [List.length_cons]; omega, z, v, i4, i5, ?_, i7, i8, ?_⟩
      · rw [e2, List.getElem?_cons_succ]; exact i6
      · rw [e2, List.getElem?_cons_succ]; exact i9
    · rw [run_dead _ _ _ _ hy]
      exact ⟨hy, Nat.le_refl _, by simpa using hp, x, w, hr, hL, rfl, hw, rfl, rfl⟩

theorem rd35_get (L : List S35) (i : Nat) (c : S35) (h : L[i]? = some c) : rd_T35 L (i : Int) = c := by
  unfold rd_T35
  rw [Int.toNat_natCast, List.getD_eq_getElem?_getD, h]
  rfl
/-- The check of the end. -/
theorem ends_j1 (nm : ByteArray) (l : List S53) (l1 : List Int) (now : Int) (L : List S35) (y z : XI) (w : Int) (k : Nat) (hv : ∀ v ∈ l1, -9223372036854775808 ≤ v ∧ v ≤ 9223372036854775807) (n0 : 0 ≤ now) (n1 : now ≤ 1099511627776)
    (hr : RX nm l z) (hL : liveX z) (hw : w = 1 ∨ w = 2 ∨ w = 3) (hws : (whatsX l1)[L.length - 1]? = some w) (hy : y = stepX l now z w) (hyd : ¬ liveX y) (hl1 : 1 ≤ L.length) (hl2 : L.length ≤ 1000) (hlast : L[L.length - 1]? = some (cmdX z)) :
    palinodelaw19_SagaEnds.j1 (k + 1) l1 true L false nm l y.1 y.2.1 y.st y.at y.tr y.due y.out = some true := by
  have hc := hr.cond hL n0 n1
  obtain ⟨q1, q2, q3, q4, q5, q6, q7⟩ := hc.bounds
  have h6 := q1.six
  have hn := stepX_next (l := l) (now := now) (x := z) hw
  rw [← hy] at hn
  have hi : L.length - 1 < l1.length := by
    obtain ⟨h, _⟩ := List.getElem?_eq_some_iff.1 hws
    rw [List.length_map, List.length_take] at h
    omega
  have hw2 : w = whatOf l1[L.length - 1] := by
    obtain ⟨h, e⟩ := List.getElem?_eq_some_iff.1 hws
    rw [List.getElem_map, List.getElem_take] at e
    exact e.symm
  have hcast : wrap64 ((L.length : Int) - 1) = ((L.length - 1 : Nat) : Int) := by rw [wrap_of _ (by omega) (by omega)]; omega
  have hrd : rd l1 ((L.length - 1 : Nat) : Int) = l1[L.length - 1] := by
    unfold rd
    rw [Int.toNat_natCast, List.getD_eq_getElem?_getD, List.getElem?_eq_getElem hi]
    rfl
  have hpick : palinodelaw19_pick.f (rd l1 ((L.length - 1 : Nat) : Int)) 3 = some (w - 1) := by
    rw [hrd, pick_eq _ (hv _ (List.getElem_mem _)), hw2]
  have hcmd := rd35_get L _ _ hlast
  have ww : wrap64 (1 + (w - 1)) = w := by rw [wrap_of _ (by omega) (by omega)]; omega
  have wl : wrap64 ((l.length : Int) - 1) = (l.length : Int) - 1 := wrap_of _ (by omega) (by omega)
  have hL' : z.st = 1 ∨ z.st = 2 := hL
  simp only [palinodelaw19_SagaEnds.j1]
  rw [if_neg (by decide), hcast, if_pos (by omega), if_pos (by omega), hpick]
  simp only [Option.bind_some]
  rw [hcmd, ww, wl, if_pos trivial, if_pos trivial, if_pos trivial]
  have hlt : ((L.length - 1 : Nat) : Int) < (L.length : Int) := by omega
  have f1 : (cmdX z).f1 = z.at := rfl
  have f2 : (cmdX z).f2 = z.st := rfl
  have f3 : (cmdX z).f3 = z.tr := rfl
  rw [f1, f2, f3]
  rcases nextX_cases hL' hn with ⟨w1, s, e, rfl⟩ | ⟨_, s, e, rfl⟩ | ⟨hw, rfl⟩ | ⟨_, t, rfl⟩ | ⟨w3, s, t, rfl⟩ | ⟨hw, s, t, rfl⟩
  · have e1 : XI.st (finX z.1 z.2.1 3 (z.at + 1)) = 3 := rfl
    rw [e1, if_pos rfl, if_pos hlt, if_pos s, if_pos (by omega), w1]
    rfl
  · exact absurd (show liveX _ from .inl rfl) hyd
  · by_cases e : z.at = 0
    · have hb : backX l z.1 z.2.1 z.at now = finX z.1 z.2.1 4 0 := if_pos e
      have e1 : XI.st (finX z.1 z.2.1 4 0) = 4 := rfl
      rw [hb, e1, if_neg (by decide), if_pos rfl, if_pos hlt, if_pos e]
      rcases hw with ⟨w1, s⟩ | ⟨w2, s⟩
      · rw [if_pos s, if_pos w1]
      · rw [if_neg (by omega), if_pos s, w2]
        rfl
    · have hb : backX l z.1 z.2.1 z.at now = goX l z.1 z.2.1 2 (z.at - 1) 0 now := if_neg e
      rw [hb] at hyd
      exact absurd (show liveX _ from .inr rfl) hyd
  · exact absurd (show liveX _ from hL) hyd
  · exact absurd (show liveX _ from .inr rfl) hyd
  · have e1 : XI.st (finX z.1 z.2.1 5 z.at) = 5 := rfl
    have e2 : XI.at (finX z.1 z.2.1 5 z.at) = z.at := rfl
    rw [e1, e2, if_neg (by decide), if_neg (by decide), if_pos rfl, if_pos hlt, if_pos s, if_neg (by omega), if_pos q2, if_pos q3, if_pos (show z.tr = (rd_T53 l z.at).f0 from Int.le_antisymm q5 (Int.not_lt.1 t))]
    simp

theorem SagaEnds : palinodelaw19_SagaEnds.Pure := by
  refine ⟨examples_true, ?_⟩
  intro nm l l1 now v1 v2 v3 v4
  obtain ⟨K0, h0⟩ := examples_ev
  have hl : l.length ≤ 140737488351232 := by have := v2.2.1; omega
  have hll : l1.length ≤ 140737488351232 := by have := v3.2.1; omega
  have hv : ∀ v ∈ l1, -9223372036854775808 ≤ v ∧ v ≤ 9223372036854775807 := fun v hv => wf_i64 (v3.2.2 v hv)
  obtain ⟨Kd, hdef⟩ := def_ev nm l v1 hl
  by_cases hd0 : ¬ DefP nm l
  · refine ⟨K0 + Kd + 1, ?_⟩
    unfold palinodelaw19_SagaEnds.f
    rw [h0 _ (by omega), hdef _ (by omega), show defB nm l = false from Bool.eq_false_iff.2 (fun h => hd0 ((defB_iff nm l).1 h))]
    simp only [Option.bind_some, palinodelaw19_SagaEnds.j0]
    rfl
  have hd := Classical.not_not.1 hd0
  have hdt := (defB_iff nm l).2 hd
  obtain ⟨Kt, ht⟩ := tries_ev nm l v1 hl hd
  have h6 := hd.six
  obtain ⟨tb1, tb2⟩ := tt_le hd l.length (Nat.le_refl _)
  have skip : ∀ k, palinodelaw19_SagaEnds.j0 (k + 1) l1 now true true nm l = some true := by
    intro k
    simp only [palinodelaw19_SagaEnds.j0]
    rw [if_pos trivial]
  by_cases n0 : now < 0
  · refine ⟨K0 + Kd + 1, ?_⟩
    unfold palinodelaw19_SagaEnds.f
    rw [h0 _ (by omega), hdef _ (by omega), hdt]
    simp only [Option.bind_some, if_true]
    rw [if_pos n0]
    exact skip _
  by_cases n1 : now > 1099511627776
  · refine ⟨K0 + Kd + 1, ?_⟩
    unfold palinodelaw19_SagaEnds.f
    rw [h0 _ (by omega), hdef _ (by omega), hdt]
    simp only [Option.bind_some, if_true]
    rw [if_neg n0, if_pos n1]
    exact skip _
  by_cases hlen : (l1.length : Int) < 2 * triesTo l l.length
  · refine ⟨K0 + Kd + Kt + 1, ?_⟩
    unfold palinodelaw19_SagaEnds.f
    rw [h0 _ (by omega), hdef _ (by omega), hdt, ht _ (by omega)]
    simp only [Option.bind_some, if_true]
    rw [if_neg n0, if_neg n1, decide_eq_true hlen]
    exact skip _
  rcases run_ev nm l l1 now v1 hl hv hll with ⟨_, m0, m1, K1, h1⟩ | ⟨hn, _⟩
  · have hr := begin_right hd m0 m1
    have hL : liveX (beginX nm l now) := .inl rfl
    have hmu : mu l (beginX nm l now) = 2 * triesTo l l.length := by
      have e1 : mu l (beginX nm l now) = tt l l.length + (tt l l.length - tt l 0) - 0 := rfl
      have t0 : tt l 0 = 0 := rfl
      have t1 : tt l l.length = triesTo l l.length := by unfold tt; rw [Int.toNat_natCast]
      rw [e1, t0, t1]
      omega
    have hwl : mu l (beginX nm l now) ≤ (whatsX l1).length := by
      rw [hmu, List.length_map, List.length_take]
      omega
    obtain ⟨e1, e2, e3, z, w, e4, e5, e6, e7, e8, e9⟩ := run_end (nm := nm) (l := l) m0 m1 (whatsX l1) (fun w hw => by
      obtain ⟨v, _, rfl⟩ := List.mem_map.1 hw
      exact whatOf_in v) _ hr hL hwl
    rw [hmu] at e3
    generalize runX l now (whatsX l1) (beginX nm l now) = r at e1 e2 e3 e6 e8 e9 h1
    obtain ⟨L, y⟩ := r
    simp only at e1 e2 e3 e6 e8 e9 h1
    refine ⟨K0 + Kd + Kt + K1 + 2, ?_⟩
    unfold palinodelaw19_SagaEnds.f
    rw [h0 _ (by omega), hdef _ (by omega), hdt, ht _ (by omega)]
    simp only [Option.bind_some, if_true]
    rw [if_neg n0, if_neg n1, decide_eq_false hlen]
    simp only [palinodelaw19_SagaEnds.j0]
    rw [if_neg (by decide), h1 _ (by omega)]
    simp only [Option.bind_some, if_true]
    have hlive : saga_Live.f y.1 y.2.1 y.st y.at y.tr y.due y.out = some false := by
      rw [live_eq, decide_eq_false (show ¬ (y.st = 1 ∨ y.st = 2) from e1)]
    have hlive2 : saga_Live.f y.1 y.2.1 y.2.2.1 y.2.2.2.1 y.2.2.2.2.1 y.2.2.2.2.2.1 y.2.2.2.2.2.2 = some false := hlive
    rw [hlive2]
    simp only [Option.bind_some]
    rw [if_neg (by decide), ht _ (by omega)]
    simp only [Option.bind_some]
    rw [decide_eq_false (by omega)]
    exact ends_j1 nm l l1 now L y z w _ hv m0 m1 e4 e5 e7 e6 e8 e1 e2 (by omega) e9
  · exact absurd ⟨hd, by omega, by omega⟩ hn
end Go.Proofs.Ytfhlpkcapohnoaa.Pure
