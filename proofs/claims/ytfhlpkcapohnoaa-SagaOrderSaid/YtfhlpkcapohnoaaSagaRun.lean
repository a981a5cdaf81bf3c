import Derived.Test.YtfhlpkcapohnoaaSagaNext
import Derived.Test.YtfhlpkcapohnoaaPrint7
namespace Go.Proofs.Ytfhlpkcapohnoaa.Print
open Go.RowKit Go.Proofs.YtfhlpkcapohnoaaX Go.Proofs.YtfhlpkcapohnoaaW.PrintWords
set_option linter.unusedVariables false
set_option linter.unusedSimpArgs false

/-- What the n-th number answers: 1, 2 or 3. -/
def whatOf (v : Int) : Int := (if v < 0 then Int.tmod (-(v + 1)) 3 else Int.tmod v 3) + 1
theorem whatOf_in (v : Int) : whatOf v = 1 ∨ whatOf v = 2 ∨ whatOf v = 3 := by
  unfold whatOf
  by_cases h : v < 0
  · rw [if_pos h]
    have h1 := Int.tmod_lt_of_pos (-(v + 1)) (show (0 : Int) < 3 by decide)
    have h2 := Int.tmod_nonneg 3 (show (0 : Int) ≤ -(v + 1) by omega)
    omega
  · rw [if_neg h]
    have h1 := Int.tmod_lt_of_pos v (show (0 : Int) < 3 by decide)
    have h2 := Int.tmod_nonneg 3 (show (0 : Int) ≤ v by omega)
    omega
theorem pick_eq (v : Int) (hv : -9223372036854775808 ≤ v ∧ v ≤ 9223372036854775807) : palinodelaw19_pick.f v 3 = some (whatOf v - 1) := by
  unfold palinodelaw19_pick.f whatOf
  by_cases h : v < 0
  · rw [if_pos h, if_pos h, if_neg (by decide), wrap_of (v + 1) (by omega) (by omega), wrap_of _ (by omega) (by omega)]
    congr 1
    omega
  · rw [if_neg h, if_neg h, if_neg (by decide)]
    congr 1
    omega
abbrev XI.st (x : XI) : Int := x.2.2.1
abbrev XI.at (x : XI) : Int := x.2.2.2.1
abbrev XI.tr (x : XI) : Int := x.2.2.2.2.1
abbrev XI.due (x : XI) : Int := x.2.2.2.2.2.1
abbrev XI.out (x : XI) : Bool := x.2.2.2.2.2.2
def liveX (x : XI) : Prop := x.st = 1 ∨ x.st = 2
instance (x : XI) : Decidable (liveX x) := inferInstanceAs (Decidable (_ ∨ _))
def cmdX (x : XI) : S35 := ⟨x.1, x.at, x.st, x.tr⟩
def stepX (l : List S53) (now : Int) (x : XI) (w : Int) : XI := (nextX l x.1 x.2.1 x.st x.at x.tr w now).getD x
def runX (l : List S53) (now : Int) : List Int → XI → List S35 × XI
  | [], x => (if liveX x then [cmdX x] else [], x)
  | w :: ws, x => if liveX x then (cmdX x :: (runX l now ws (stepX l now x w)).1, (runX l now ws (stepX l now x w)).2) else ([], x)
def RX (nm : ByteArray) (l : List S53) (x : XI) : Prop := RightP nm l x.1 x.2.1 x.st x.at x.tr x.due x.out
theorem RX.cond {nm : ByteArray} {l : List S53} {x : XI} (h : RX nm l x) (hL : liveX x) {now : Int} (n0 : 0 ≤ now) (n1 : now ≤ 1099511627776) : CondP nm l x.1 x.2.1 x.st x.at x.tr x.due x.out x.at x.st now :=
  ⟨hL, h, rfl, rfl, n0, n1⟩
theorem stepX_next {l : List S53} {now : Int} {x : XI} {w : Int} (hw : w = 1 ∨ w = 2 ∨ w = 3) : nextX l x.1 x.2.1 x.st x.at x.tr w now = some (stepX l now x w) := by
  obtain ⟨y, hy⟩ := nextX_some (l := l) (id := x.1) (df := x.2.1) (st := x.st) (at_ := x.at) (tr := x.tr) (now := now) hw
  unfold stepX
  rw [hy]
  rfl
theorem stepX_right {nm : ByteArray} {l : List S53} {now : Int} {x : XI} {w : Int} (h : RX nm l x) (hL : liveX x) (n0 : 0 ≤ now) (n1 : now ≤ 1099511627776) (hw : w = 1 ∨ w = 2 ∨ w = 3) :
    RX nm l (stepX l now x w) ∧ (stepX l now x w).1 = x.1 := by
  have := next_right (h.cond hL n0 n1) (stepX_next hw)
  exact ⟨this.1, this.2.1⟩

/-- The walk through the replies. -/
theorem run_l0 (nm : ByteArray) (l : List S53) (l1 : List Int) (now : Int) (hs : nm.size ≤ 140737488351232) (hl : l.length ≤ 140737488351232) (hv : ∀ v ∈ l1, -9223372036854775808 ≤ v ∧ v ≤ 9223372036854775807) (hll : l1.length ≤ 140737488351232) (n0 : 0 ≤ now) (n1 : now ≤ 1099511627776) :
    ∀ (d i : Nat) (acc : List S35) (x : XI), i + d = min l1.length 200 → acc.length ≤ i → RX nm l x → x.1.size ≤ 140737488351232 →
    ∃ K, ∀ k, K ≤ k → palinodelaw19_run.l0 k l1 now acc (i : Int) nm l x.1 x.2.1 x.st x.at x.tr x.due x.out =
      some (acc ++ (runX l now (((l1.take 200).map whatOf).drop i) x).1, (runX l now (((l1.take 200).map whatOf).drop i) x).2.1, (runX l now (((l1.take 200).map whatOf).drop i) x).2.2.1, (runX l now (((l1.take 200).map whatOf).drop i) x).2.st, (runX l now (((l1.take 200).map whatOf).drop i) x).2.at, (runX l now (((l1.take 200).map whatOf).drop i) x).2.tr, (runX l now (((l1.take 200).map whatOf).drop i) x).2.due, (runX l now (((l1.take 200).map whatOf).drop i) x).2.out, true) := by
  intro d
  induction d with
  | zero =>
    intro i acc x hi ha hr hid
    refine ⟨2, fun k hk => ?_⟩
    obtain ⟨k, rfl⟩ : ∃ m, k = m + 2 := ⟨k - 2, by omega⟩
    have hd : ((l1.take 200).map whatOf).drop i = [] := List.drop_of_length_le (by rw [List.length_map, List.length_take]; omega)
    rw [hd]
    have e : palinodelaw19_run.l0 (k + 2) l1 now acc (i : Int) nm l x.1 x.2.1 x.st x.at x.tr x.due x.out = palinodelaw19_run.j1 (k + 1) l1 now acc (i : Int) false nm l x.1 x.2.1 x.st x.at x.tr x.due x.out := by
      simp only [palinodelaw19_run.l0]
      by_cases h : (i : Int) < (l1.length : Int)
      · rw [if_pos h, decide_eq_false (by omega)]
      · rw [if_neg h]
    rw [e]
    simp only [palinodelaw19_run.j1]
    rw [if_neg (by decide), command_eq]
    by_cases hL : liveX x
    · have hL' : x.st = 1 ∨ x.st = 2 := hL
      rw [if_pos hL']
      simp only [Option.bind_some, if_true]
      rw [if_pos (by omega)]
      simp only [runX]
      rw [if_pos hL]
      rfl
    · have hL' : ¬ (x.st = 1 ∨ x.st = 2) := hL
      rw [if_neg hL']
      simp only [Option.bind_some]
      rw [if_neg (by decide)]
      simp only [runX]
      rw [if_neg hL, List.append_nil]
  | succ d ih =>
    intro i acc x hi ha hr hid
    have hlt : i < l1.length := by omega
    have hlt2 : i < 200 := by omega
    have hget : i < ((l1.take 200).map whatOf).length := by rw [List.length_map, List.length_take]; omega
    have hd : ((l1.take 200).map whatOf).drop i = whatOf l1[i] :: ((l1.take 200).map whatOf).drop (i + 1) := by
      rw [List.drop_eq_getElem_cons hget, List.getElem_map, List.getElem_take]
    rw [hd]
    simp only [runX]
    have e : ∀ k, palinodelaw19_run.l0 (k + 2) l1 now acc (i : Int) nm l x.1 x.2.1 x.st x.at x.tr x.due x.out = palinodelaw19_run.j1 (k + 1) l1 now acc (i : Int) true nm l x.1 x.2.1 x.st x.at x.tr x.due x.out := by
      intro k
      simp only [palinodelaw19_run.l0]
      rw [if_pos (by omega), decide_eq_true (by omega)]
    by_cases hL : liveX x
    · have hL' : x.st = 1 ∨ x.st = 2 := hL
      have hw := whatOf_in l1[i]
      obtain ⟨K1, h1⟩ := reply_true (what := whatOf l1[i]) hs hl hid (hr.cond hL n0 n1)
      obtain ⟨hr2, hid2⟩ := stepX_right hr hL n0 n1 hw
      have hn := stepX_next (l := l) (now := now) (x := x) hw
      generalize hy : stepX l now x (whatOf l1[i]) = y at hr2 hid2 hn ⊢
      obtain ⟨K2, h2⟩ := ih (i + 1) (acc ++ [cmdX x]) y (by omega) (by rw [List.length_append, List.length_cons, List.length_nil]; omega) hr2 (by rw [hid2]; exact hid)
      refine ⟨K1 + K2 + 2, fun k hk => ?_⟩
      obtain ⟨k, rfl⟩ : ∃ m, k = m + 2 := ⟨k - 2, by omega⟩
      rw [e]
      simp only [palinodelaw19_run.j1]
      rw [if_pos trivial, command_eq, if_pos hL']
      simp only [Option.bind_some, if_true]
      have hrd : rd l1 (i : Int) = l1[i] := by
        unfold rd
        rw [Int.toNat_natCast, List.getD_eq_getElem?_getD, List.getElem?_eq_getElem hlt]
        rfl
      rw [if_pos (by omega), if_pos (by omega), if_pos (by omega), hrd, pick_eq _ (hv _ (List.getElem_mem _))]
      simp only [Option.bind_some]
      have e3 : wrap64 (1 + (whatOf l1[i] - 1)) = whatOf l1[i] := by rw [wrap_of _ (by omega) (by omega)]; omega
      rw [e3, h1 _ (by omega), replyR_some hn]
      simp only [Option.bind_some, flat, if_true]
      rw [wrap_of _ (by omega) (by omega), if_pos hL]
      have h3 := h2 k (by omega)
      rw [show (((i + 1 : Nat)) : Int) = (i : Int) + 1 by omega] at h3
      have e4 : acc ++ [(⟨x.1, x.2.2.2.1, x.2.2.1, x.2.2.2.2.1⟩ : S35)] = acc ++ [cmdX x] := rfl
      rw [e4, h3]
      rw [List.append_assoc]
      rfl
    · have hL' : ¬ (x.st = 1 ∨ x.st = 2) := hL
      refine ⟨2, fun k hk => ?_⟩
      obtain ⟨k, rfl⟩ : ∃ m, k = m + 2 := ⟨k - 2, by omega⟩
      rw [e]
      simp only [palinodelaw19_run.j1]
      rw [if_pos trivial, command_eq, if_neg hL']
      simp only [Option.bind_some]
      rw [if_neg (by decide)]
      rw [if_neg (by decide), if_neg hL, List.append_nil]

/-- The first one. -/
def beginX (nm : ByteArray) (l : List S53) (now : Int) : XI := goX l idA nm 1 0 0 now
theorem begin_right {nm : ByteArray} {l : List S53} (hd : DefP nm l) {now : Int} (n0 : 0 ≤ now) (n1 : now ≤ 1099511627776) : RX nm l (beginX nm l now) := by
  have h1 := hd.one
  have hb := hd.at 0 (by omega) (by omega)
  exact go_right (st := 1) (at_ := 0) (tr := 0) hd nameA rfl (.inl rfl) (by omega) (by omega) (by omega) hb.1 n0 n1
abbrev whatsX (l1 : List Int) : List Int := (l1.take 200).map whatOf
theorem run_ev (nm : ByteArray) (l : List S53) (l1 : List Int) (now : Int) (hs : nm.size ≤ 140737488351232) (hl : l.length ≤ 140737488351232) (hv : ∀ v ∈ l1, -9223372036854775808 ≤ v ∧ v ≤ 9223372036854775807) (hll : l1.length ≤ 140737488351232) :
    (DefP nm l ∧ 0 ≤ now ∧ now ≤ 1099511627776 ∧ ∃ K, ∀ k, K ≤ k → palinodelaw19_run.f k nm l l1 now =
      some ((runX l now (whatsX l1) (beginX nm l now)).1, (runX l now (whatsX l1) (beginX nm l now)).2.1, (runX l now (whatsX l1) (beginX nm l now)).2.2.1, (runX l now (whatsX l1) (beginX nm l now)).2.st, (runX l now (whatsX l1) (beginX nm l now)).2.at, (runX l now (whatsX l1) (beginX nm l now)).2.tr, (runX l now (whatsX l1) (beginX nm l now)).2.due, (runX l now (whatsX l1) (beginX nm l now)).2.out, true)) ∨
    (¬ (DefP nm l ∧ 0 ≤ now ∧ now ≤ 1099511627776) ∧ ∃ K, ∀ k, K ≤ k → palinodelaw19_run.f k nm l l1 now = some ([], (⟨#[]⟩ : ByteArray), (⟨#[]⟩ : ByteArray), 0, 0, 0, 0, false, false)) := by
  obtain ⟨b, hb, K, hK⟩ := begin_ev nm l idA now hs hl (by decide)
  by_cases hc : DefP nm l ∧ 0 ≤ now ∧ now ≤ 1099511627776
  · obtain ⟨hd, n0, n1⟩ := hc
    have : b = true := hb.2 ⟨hd, nameA, n0, n1⟩
    subst this
    obtain ⟨K2, h2⟩ := run_l0 nm l l1 now hs hl hv hll n0 n1 (min l1.length 200) 0 [] (beginX nm l now) (by omega) (by simp) (begin_right hd n0 n1) (show idA.size ≤ 140737488351232 by decide)
    refine .inl ⟨hd, n0, n1, K + K2, fun k hk => ?_⟩
    unfold palinodelaw19_run.f
    rw [show (⟨#[97]⟩ : ByteArray) = idA from rfl, hK k (by omega), if_pos rfl]
    simp only [Option.bind_some]
    rw [if_pos (by rfl)]
    have h3 := h2 k (by omega)
    rw [List.drop_zero, List.nil_append] at h3
    exact h3
  · have : b = false := by
      cases b with
      | false => rfl
      | true => exact absurd ⟨(hb.1 rfl).1, (hb.1 rfl).2.2⟩ hc
    subst this
    refine .inr ⟨hc, K, fun k hk => ?_⟩
    unfold palinodelaw19_run.f
    rw [show (⟨#[97]⟩ : ByteArray) = idA from rfl, hK k (by omega)]
    rfl
end Go.Proofs.Ytfhlpkcapohnoaa.Print
