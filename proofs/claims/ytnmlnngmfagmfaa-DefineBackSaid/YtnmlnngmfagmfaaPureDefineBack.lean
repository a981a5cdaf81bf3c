/- A definition that is written is read as it was; what was read is right, and written as it stood; cut, or with bytes behind, it is none: for all arguments that the row lets in. -/
import Derived.Test.YtnmlnngmfagmfaaDefineEnc
import Derived.Test.YtnmlnngmfagmfaaPrint11
namespace Go.Proofs.Ytnmlnngmfagmfaa.Pure
open Go.RowKit Go.Proofs.Ytnmlnngmfagmfaa.Print Go.Proofs.YtnmlnngmfagmfaaX Go.Proofs.YtnmlnngmfagmfaaW.PrintWords
set_option linter.unusedVariables false
set_option linter.unusedSimpArgs false

theorem defs_l0 (nm nm' : ByteArray) (l : List S43) (hl : l.length ≤ 1000) : ∀ (d i k : Nat), i + d = l.length → d < k → palinodelaw18_defs.l0 k (i : Int) nm l nm' l = some true := by
  intro d
  induction d with
  | zero =>
    intro i k hi hk
    obtain ⟨k, rfl⟩ : ∃ m, k = m + 1 := ⟨k - 1, by omega⟩
    simp only [palinodelaw18_defs.l0]
    rw [if_neg (by omega)]
  | succ d ih =>
    intro i k hi hk
    obtain ⟨k, rfl⟩ : ∃ m, k = m + 1 := ⟨k - 1, by omega⟩
    simp only [palinodelaw18_defs.l0]
    rw [if_pos (by omega), if_pos (by omega), if_pos (by omega), if_neg (by simp), wrap_of _ (by omega) (by omega)]
    exact ih (i + 1) k (by omega) (by omega)
theorem defs_same (nm : ByteArray) (l : List S43) (hl : l.length ≤ 1000) (k : Nat) (hk : l.length + 2 ≤ k) : palinodelaw18_defs.f k nm l nm l = some true := by
  obtain ⟨k, rfl⟩ : ∃ m, k = m + 1 := ⟨k - 1, by omega⟩
  unfold palinodelaw18_defs.f
  rw [if_pos rfl]
  simp only [palinodelaw18_defs.j0]
  rw [if_neg (by simp)]
  exact defs_l0 nm nm l hl l.length 0 k (by omega) (by omega)
theorem is3 : palinodelaw18_is.f (some 3) 3 = some true := by decide
/-- Of a definition's bytes no beginning, and with some behind none, is one. -/
theorem decode_cut {nm : ByteArray} {l : List S43} (hp : DefP nm l) (c : Nat) (hc : c < (encB nm l).size) : define_Decode.f ((encB nm l).extract 0 c) = some (⟨#[]⟩, [], some 3) := by
  rcases decode_cases ((encB nm l).extract 0 c) with h | ⟨nm', l', hp', _, h, _⟩
  · exact h
  · have e : encB nm' l' ++ (encB nm l).extract c (encB nm l).size = encB nm l ++ ⟨#[]⟩ := by
      rw [← h, app_empty]
      apply bytesOf_inj
      rw [bytesOf_append, bytesOf_extract, bytesOf_extract, List.drop_zero, Nat.sub_zero, List.take_of_length_le (l := (bytesOf (encB nm l)).drop c) (by rw [List.length_drop, bytesOf_length]; omega), List.take_append_drop]
    obtain ⟨_, _, h3⟩ := enc_prefix hp' hp e
    have := congrArg ByteArray.size h3
    have hz : ((encB nm l).extract c (encB nm l).size).size = (encB nm l).size - c := by
      rw [bytesOf_size, bytesOf_extract, List.length_take, List.length_drop, bytesOf_length]; omega
    rw [hz] at this
    have h0 : (⟨#[]⟩ : ByteArray).size = 0 := rfl
    omega
theorem decode_more {nm : ByteArray} {l : List S43} (hp : DefP nm l) (m : ByteArray) (hm : m.size ≠ 0) : define_Decode.f (encB nm l ++ m) = some (⟨#[]⟩, [], some 3) := by
  rcases decode_cases (encB nm l ++ m) with h | ⟨nm', l', hp', _, h, _⟩
  · exact h
  · obtain ⟨_, _, h3⟩ := enc_prefix hp hp' (r' := ⟨#[]⟩) (h.trans (app_empty _).symm)
    exact absurd (congrArg ByteArray.size h3) hm
theorem stepsB_size (l : List S43) (h : ∀ s ∈ l, okS s) : (stepsB l).size ≤ 16 * l.length := by
  induction l with
  | nil => exact Nat.le_refl _
  | cons s l ih =>
    obtain ⟨o1, o2, o3, o4⟩ := h s (List.mem_cons_self ..)
    have h1 := numB_size (n := s.f0) (by omega)
    have h2 := numB_size (n := s.f1) (by omega)
    have h3 := ih (fun x hx => h x (List.mem_cons_of_mem _ hx))
    simp only [stepsB, app_size, List.length_cons]
    omega
theorem encB_size {nm : ByteArray} {l : List S43} (hp : DefP nm l) : 1 ≤ (encB nm l).size ∧ (encB nm l).size ≤ 1000 := by
  have h6 := hp.six
  have hn := ((nameB_iff nm).1 hp.name).2.2
  have h1 := stepsB_size l hp.steps
  have h2 := numB_size (n := (l.length : Int)) (by omega)
  have h3 := bsize_text (n := nm.size) (by omega)
  unfold encB textB
  rw [app_size, app_size, app_size, size_strOfNums, numL_length]
  omega
/-- What is read is right, and written as it stood. -/
theorem back_j2 (b : ByteArray) (hb : b.size ≤ 140737488351232) : ∀ k, 200 ≤ k → palinodelaw18_DefineBack.j2 k b true = some true := by
  intro k hk
  obtain ⟨k, rfl⟩ : ∃ m, k = m + 1 := ⟨k - 1, by omega⟩
  simp only [palinodelaw18_DefineBack.j2]
  rcases decode_cases b with h | ⟨nm, l, hp, hs, he, h⟩
  · rw [h]
    simp only [Option.bind_some]
    rw [if_neg (by simp), if_pos trivial]
    exact congrArg some (by decide +kernel)
  · have h6 := hp.six
    rw [h]
    simp only [Option.bind_some]
    rw [if_pos (by rfl), enc_big nm l hs (by omega) k (by omega) (by omega), encR, if_pos ((defB_iff nm l).2 hp)]
    simp only [Option.bind_some]
    have hd : define_Right.f k nm l = some true := by
      have := def_l0 nm l hs (by omega) l.length 0 k (by omega) (by omega)
      rw [show ((0 : Nat) : Int) = 0 from rfl, List.drop_zero] at this
      unfold define_Right.f
      rw [this]
      exact congrArg some ((defB_iff nm l).2 hp)
    rw [if_pos trivial, if_pos (by rw [he]), if_pos (by rfl), hd]
    rfl

theorem DefineBack : palinodelaw18_DefineBack.Pure := by
  refine ⟨examples_true, ?_⟩
  intro nm l b cut more v1 v2 v3 v4 v5
  obtain ⟨K0, h0⟩ := examples_ev
  have hl : l.length ≤ 140737488351232 := by have := v2.2.1; omega
  obtain ⟨K1, h1⟩ := enc_ev nm l v1 hl
  have wc := wf_i64 v4
  refine ⟨K0 + K1 + 300, ?_⟩
  unfold palinodelaw18_DefineBack.f
  rw [h0 _ (by omega), h1 _ (by omega)]
  simp only [Option.bind_some]
  by_cases hd : defB nm l = true
  · have hp := (defB_iff nm l).1 hd
    obtain ⟨z1, z2⟩ := encB_size hp
    have h6 := hp.six
    rw [encR, if_pos hd]
    have hne : ((encB nm l).toList != ([] : List UInt8)) = true := by
      rw [bne_iff_ne]
      intro h
      have := toList_nil_iff.1 h
      omega
    simp only
    rw [if_pos (by rfl), hne, show K0 + K1 + 300 = (K0 + K1 + 298) + 2 by omega]
    simp only [palinodelaw18_DefineBack.j0]
    rw [if_pos trivial, decode_enc hp]
    simp only [Option.bind_some]
    rw [defs_same nm l (by omega) _ (by omega)]
    simp only [Option.bind_some]
    have key : ∀ c : Int, 0 ≤ c → palinodelaw18_DefineBack.j1 (K0 + K1 + 298 + 1) b c more true (encB nm l) none true = some true := by
      intro c hc
      have t1 := Int.tmod_nonneg ((encB nm l).size : Int) hc
      have t2 := Int.tmod_lt_of_pos c (show (0 : Int) < ((encB nm l).size : Int) by omega)
      simp only [palinodelaw18_DefineBack.j1]
      rw [if_neg (by omega), if_pos t1, if_pos (by omega), decode_cut hp _ (by omega)]
      simp only [Option.bind_some]
      have hend := back_j2 b v3 (K0 + K1 + 298) (by omega)
      by_cases hm : more.toList = ([] : List UInt8)
      · rw [if_pos (by omega)]
        obtain ⟨q, hq⟩ : ∃ q, define_Decode.f (encB nm l ++ more) = some q := by
          have hm2 := eq_nil_of_size (toList_nil_iff.1 hm)
          rw [hm2, app_empty]
          exact ⟨_, decode_enc hp⟩
        rw [hq]
        simp only [Option.bind_some]
        rw [if_pos trivial, if_pos (by rfl), is3]
        simp only [Option.bind_some]
        rw [if_pos trivial, if_pos hm]
        exact hend
      · have hm2 : more.size ≠ 0 := fun h => hm (toList_nil_iff.2 h)
        rw [if_pos (by omega)]
        have hq : define_Decode.f (encB nm l ++ more) = some (⟨#[]⟩, [], some 3) := decode_more hp more hm2
        rw [hq]
        simp only [Option.bind_some]
        rw [if_pos trivial, if_pos (by rfl), is3]
        simp only [Option.bind_some]
        rw [if_pos trivial, if_neg hm]
        exact hend
    by_cases hc : cut < 0
    · rw [if_pos hc, wrap_of (cut + 1) (by omega) (by omega), wrap_of _ (by omega) (by omega)]
      exact key _ (by omega)
    · rw [if_neg hc]
      exact key _ (by omega)
  · rw [encR, if_neg hd]
    simp only
    rw [if_neg (by simp), show K0 + K1 + 300 = (K0 + K1 + 299) + 1 by omega]
    simp only [palinodelaw18_DefineBack.j0]
    rw [if_neg (by decide)]
    exact back_j2 b v3 _ (by omega)
end Go.Proofs.Ytnmlnngmfagmfaa.Pure
