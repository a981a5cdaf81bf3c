/- Any bytes are the frame, and the frames, that the document says, or refused: for all arguments of bulk at most 1048576. -/
import Derived.Test.YtmmhdoaepdlmcaaFrameAll
import Derived.Test.YtmmhdoaepdlmcaaFrameRef
import Derived.Test.YtmmhdoaepdlmcaaPrint8
namespace Go.Proofs.Ytmmhdoaepdlmcaa.Pure
open Go.RowKit Go.Proofs.Ytmmhdoaepdlmcaa.Print Go.Proofs.YtmmhdoaepdlmcaaX Go.Proofs.YtmmhdoaepdlmcaaW.PrintWords Go.Proofs.YtmmhdoaepdlmcaaW.PrintLast
set_option linter.unusedVariables false
set_option linter.unusedSimpArgs false

theorem reftake_ev (b : ByteArray) (hb : b.size ≤ 1048576) : ∃ K, ∀ k, K ≤ k → palinoderef03_Take.f k b = some ((takeR b).1, (takeR b).2.1, (takeR b).2.2.getD 0) := by
  obtain ⟨K1, k1⟩ := refreadtext_ev b (by omega)
  unfold takeR
  rcases readText_cases b with ⟨e, he, hee⟩ | ⟨s, rest, hs, he, hr⟩
  · refine ⟨K1, fun k hk => ?_⟩
    unfold palinoderef03_Take.f
    rw [k1 k hk, refReadText, he]
    simp only [Option.bind_some, Option.getD_some]
    rw [if_neg (by omega)]
  · obtain ⟨K2, k2⟩ := refsum_ev s (by omega)
    refine ⟨K1 + K2, fun k hk => ?_⟩
    unfold palinoderef03_Take.f
    rw [k1 k (by omega), refReadText, he]
    simp only [Option.bind_some, Option.getD_none, if_true]
    by_cases c : rest.size < 4
    · rw [if_pos (by omega), if_pos c]
      rfl
    · rw [if_neg (by omega), if_neg c, if_pos (by omega), if_pos (by omega), k2 k (by omega)]
      have hf : palinoderef03_four.f (sumR s) = some (fourS (sumR s)) := rfl
      simp only [Option.bind_some]
      rw [hf]
      simp only [Option.bind_some]
      by_cases q : rest.extract 0 4 = fourS (sumR s)
      · rw [if_pos q, if_pos (toList_eq_iff.2 q)]
        rfl
      · rw [if_neg q, if_neg (fun h => q (toList_eq_iff.1 h))]
        rfl
theorem is_law (e : Option Int) (h : e ≠ some 0) : palinodelaw03_is.f e (e.getD 0) = some true := by
  unfold palinodelaw03_is.f
  cases e with
  | none => rfl
  | some x =>
    simp only [Option.getD_some]
    rw [if_neg (fun h0 => h (by rw [h0])), if_neg (by simp)]
    simp
/-- All frames: the program and the document. -/
theorem alls_ev (b : ByteArray) (hb : b.size ≤ 1048576) : ∀ (z : Nat) (rest : ByteArray) (acc : List ByteArray), rest.size = z → rest.size + acc.length ≤ 3000000 → rest.size ≤ b.size →
    ∃ L at_ e K, e ≠ some 0 ∧ L.length ≤ 3000000 ∧ ∀ k, K ≤ k → frame_All.l0 k b acc rest = some (L, at_, e) ∧ palinoderef03_All.l0 k b acc rest = some (L, at_, e.getD 0) := by
  intro z
  induction z using Nat.strongRecOn with
  | _ z ih =>
    intro rest acc hz hl hbs
    by_cases h0 : rest.size = 0
    · have hr := eq_nil_of_size h0
      refine ⟨acc, (b.size : Int), none, 1, by simp, by omega, fun k hk => ?_⟩
      obtain ⟨k, rfl⟩ : ∃ m, k = m + 1 := ⟨k - 1, by omega⟩
      refine ⟨by rw [hr]; exact all_end b acc k, ?_⟩
      simp only [palinoderef03_All.l0]
      rw [if_pos (toList_nil_iff.2 h0)]
      rfl
    · obtain ⟨K1, k1⟩ := reftake_ev rest (by omega)
      have hn := next_some rest (by omega) (by omega)
      rcases takeR_cases rest with ⟨e, he, hee⟩ | ⟨s, more, hs, he, hm⟩
      · refine ⟨acc, wrap64 ((b.size : Int) - (rest.size : Int)), some e, K1 + 1, fun h => hee (Option.some.inj h), by omega, fun k hk => ?_⟩
        obtain ⟨k, rfl⟩ : ∃ m, k = m + 1 := ⟨k - 1, by omega⟩
        constructor
        · conv => lhs; unfold frame_All.l0
          rw [hn, he]
          simp only [Option.bind_some, errors_Is.f]
          have hb0 : ((some e : Option Int) == some 0) = false := by
            rw [beq_eq_false_iff_ne]
            exact fun h => hee (Option.some.inj h)
          rw [hb0, if_neg (by decide), if_neg (by simp)]
          rfl
        · simp only [palinoderef03_All.l0]
          rw [if_neg (fun h => h0 (toList_nil_iff.1 h)), k1 k (by omega), he]
          simp only [Option.bind_some, Option.getD_some]
          rw [if_neg hee]
      · have hlt : more.size < rest.size := by
          rw [← hm, append_size, append_size, append_size, fourS_size]
          omega
        obtain ⟨L, at_, e, K2, g1, g2, g3⟩ := ih more.size (by omega) more (acc ++ [s]) rfl (by rw [List.length_append, List.length_cons, List.length_nil]; omega) (by omega)
        refine ⟨L, at_, e, K1 + K2 + 1, g1, g2, fun k hk => ?_⟩
        obtain ⟨k, rfl⟩ : ∃ m, k = m + 1 := ⟨k - 1, by omega⟩
        obtain ⟨g4, g5⟩ := g3 k (by omega)
        constructor
        · conv => lhs; unfold frame_All.l0
          rw [hn, he]
          simp only [Option.bind_some, errors_Is.f]
          have hb0 : ((none : Option Int) == some 0) = false := rfl
          rw [hb0, if_neg (by decide), if_pos (by rfl), if_pos (by omega)]
          exact g4
        · simp only [palinoderef03_All.l0]
          rw [if_neg (fun h => h0 (toList_nil_iff.1 h)), k1 k (by omega), he]
          simp only [Option.bind_some, Option.getD_none, if_true]
          rw [if_pos (by omega)]
          exact g5
/-- The rounds that compare, and overwrite what came. -/
theorem takes_l1 (b s r t u : ByteArray) (h right : Bool) (want : List ByteArray) (at_ g turn : Int) (hw : want.length ≤ 3000000) : ∀ (d i k : Nat) (l : List ByteArray), l.length = want.length → i + d = want.length → l.drop i = want.drop i →
    palinodelaw03_FrameTakes.l1 (k + d + 1) b h s r t u right want at_ g turn l (i : Int) = palinodelaw03_FrameTakes.l0 k b h s r t u right want at_ g (wrap64 (turn + 1)) := by
  intro d
  induction d with
  | zero =>
    intro i k l hl hi hd
    simp only [palinodelaw03_FrameTakes.l1, Nat.add_zero]
    rw [if_neg (by omega)]
  | succ d ih =>
    intro i k l hl hi hd
    rw [show k + (d + 1) + 1 = (k + d + 1) + 1 by omega]
    simp only [palinodelaw03_FrameTakes.l1]
    have hlt : i < l.length := by omega
    have hlt2 : i < want.length := by omega
    have e1 : l[i] = want[i] := by
      rw [List.drop_eq_getElem_cons hlt, List.drop_eq_getElem_cons hlt2] at hd
      exact (List.cons.inj hd).1
    have e2 : rdOf ByteArray.empty l (i : Int) = rdOf ByteArray.empty want (i : Int) := by
      unfold rdOf
      rw [Int.toNat_natCast, List.getD_eq_getElem?_getD, List.getD_eq_getElem?_getD, List.getElem?_eq_getElem hlt, List.getElem?_eq_getElem hlt2, e1]
    rw [if_pos (by omega), if_pos (by omega), if_pos (by omega), if_pos (by rw [e2]), wrap_of _ (by omega) (by omega), show (i : Int) + 1 = ((i + 1 : Nat) : Int) by omega]
    refine ih (i + 1) k _ (by rw [List.length_set, hl]) (by omega) ?_
    rw [Int.toNat_natCast, List.drop_set_of_lt (by omega)]
    rw [List.drop_eq_getElem_cons hlt, List.drop_eq_getElem_cons hlt2] at hd
    exact (List.cons.inj hd).2

theorem FrameTakes : palinodelaw03_FrameTakes.Pure := by
  refine ⟨examples_true, ?_⟩
  intro b v1 v2
  have hb : b.size ≤ 1048576 := by omega
  obtain ⟨K0, h0⟩ := examples_ev
  obtain ⟨K1, h1⟩ := reftake_ev b hb
  obtain ⟨L, at_, e, K2, g1, g2, g3⟩ := alls_ev b hb b.size b [] rfl (by simp; omega) (Nat.le_refl _)
  have het : (takeR b).2.2 ≠ some 0 := by
    rcases takeR_cases b with ⟨e, he, hee⟩ | ⟨s, more, hs, he, hm⟩
    · rw [he]; exact fun h => hee (Option.some.inj h)
    · rw [he]; simp
  have fin : ∀ k, palinodelaw03_FrameTakes.l0 (k + 1) b true (takeR b).1 (takeR b).2.1 (takeR b).1 (takeR b).2.1 true L at_ (e.getD 0) 2 = some true := by
    intro k
    simp only [palinodelaw03_FrameTakes.l0]
    rw [if_neg (by decide), if_pos trivial, if_pos trivial, if_pos trivial]
  have turn : ∀ (k : Nat) (i : Int), K2 ≤ k → i < 2 → palinodelaw03_FrameTakes.l0 (k + L.length + 3) b true (takeR b).1 (takeR b).2.1 (takeR b).1 (takeR b).2.1 true L at_ (e.getD 0) i =
      palinodelaw03_FrameTakes.l0 k b true (takeR b).1 (takeR b).2.1 (takeR b).1 (takeR b).2.1 true L at_ (e.getD 0) (wrap64 (i + 1)) := by
    intro k i hk hi
    have hl1 := takes_l1 b (takeR b).1 (takeR b).2.1 (takeR b).1 (takeR b).2.1 true true L at_ (e.getD 0) i g2 L.length 0 k L rfl (by omega) rfl
    rw [show ((0 : Nat) : Int) = 0 from rfl] at hl1
    have hj : palinodelaw03_FrameTakes.j1 (k + L.length + 2) b true (takeR b).1 (takeR b).2.1 (takeR b).1 (takeR b).2.1 true L at_ (e.getD 0) i L false =
        palinodelaw03_FrameTakes.l0 k b true (takeR b).1 (takeR b).2.1 (takeR b).1 (takeR b).2.1 true L at_ (e.getD 0) (wrap64 (i + 1)) := by
      simp only [palinodelaw03_FrameTakes.j1]
      rw [if_neg (by decide)]
      exact hl1
    generalize palinodelaw03_FrameTakes.l0 k b true (takeR b).1 (takeR b).2.1 (takeR b).1 (takeR b).2.1 true L at_ (e.getD 0) (wrap64 (i + 1)) = R at hj ⊢
    clear hl1 fin
    have hall : frame_All.f (k + L.length + 2) b = some (L, at_, e) := (g3 _ (by omega)).1
    rw [show k + L.length + 3 = (k + L.length + 2) + 1 by omega]
    simp only [palinodelaw03_FrameTakes.l0]
    rw [if_pos hi, hall]
    simp only [Option.bind_some]
    rw [is_law e g1]
    simp only [Option.bind_some, Bool.not_true]
    rw [if_pos trivial, if_pos trivial]
    exact hj
  refine ⟨(K0 + K1 + K2 + 1) + L.length + 3 + L.length + 3, ?_⟩
  unfold palinodelaw03_FrameTakes.f
  have hall : palinoderef03_All.f ((K0 + K1 + K2 + 1) + L.length + 3 + L.length + 3) b = some (L, at_, e.getD 0) := (g3 _ (by omega)).2
  rw [h0 _ (by omega), take_eq b (by omega), h1 _ (by omega), hall]
  simp only [Option.bind_some]
  rw [is_law _ het]
  simp only [Option.bind_some]
  have w1 : wrap64 ((0 : Int) + 1) = 1 := by unfold wrap64; decide
  have w2 : wrap64 ((1 : Int) + 1) = 2 := by unfold wrap64; decide
  rw [turn _ 0 (by omega) (by decide), w1, turn _ 1 (by omega) (by decide), w2]
  exact fin _
end Go.Proofs.Ytmmhdoaepdlmcaa.Pure
