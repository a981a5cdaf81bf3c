import Derived.Test.YtnmlnngmfagmfaaDefineEnc
import Derived.Test.YtnmlnngmfagmfaaPackRef
import Derived.Test.YtnmlnngmfagmfaaPrint12
import Derived.Test.YtnmlnngmfagmfaaPrint13
namespace Go.Proofs.Ytnmlnngmfagmfaa.Print
open Go.RowKit Go.Proofs.YtnmlnngmfagmfaaX Go.Proofs.YtnmlnngmfagmfaaW.PrintWords
set_option linter.unusedVariables false
set_option linter.unusedSimpArgs false

/-! ## The document's own answer -/
theorem rnum_ev (n : Int) : ∃ K, ∀ k, K ≤ k → palinoderef18_num.f k n = some (numR n).1 := by
  obtain ⟨K, hK⟩ := refnum_ev n
  refine ⟨K, fun k hk => ?_⟩
  unfold palinoderef18_num.f
  rw [hK k hk]
  rfl
theorem renc_l0 (nm : ByteArray) (l : List S43) (hl : l.length ≤ 6) (hv : ∀ s ∈ l, okS s) : ∀ (d i : Nat) (acc : ByteArray), i + d = l.length → acc.size + 16 * d ≤ 4611686018427387904 →
    ∃ K, ∀ k, K ≤ k → palinoderef18_Encode.l0 k acc (i : Int) nm l = some (acc ++ stepsB (l.drop i), true) := by
  intro d
  induction d with
  | zero =>
    intro i acc hi hs
    refine ⟨1, fun k hk => ?_⟩
    obtain ⟨k, rfl⟩ : ∃ m, k = m + 1 := ⟨k - 1, by omega⟩
    simp only [palinoderef18_Encode.l0]
    rw [if_neg (by omega), List.drop_of_length_le (by omega), stepsB, app_empty]
  | succ d ih =>
    intro i acc hi hs
    have hlt : i < l.length := by omega
    obtain ⟨o1, o2, o3, o4⟩ := hv _ (List.getElem_mem hlt)
    have h1 := numB_size (n := l[i].f0) (by omega)
    have h2 := numB_size (n := l[i].f1) (by omega)
    obtain ⟨K1, k1⟩ := rnum_ev l[i].f0
    obtain ⟨K2, k2⟩ := rnum_ev l[i].f1
    obtain ⟨K3, k3⟩ := ih (i + 1) (acc ++ numB l[i].f0 ++ numB l[i].f1) (by omega) (by rw [app_size, app_size]; omega)
    refine ⟨K1 + K2 + K3 + 1, fun k hk => ?_⟩
    obtain ⟨k, rfl⟩ : ∃ m, k = m + 1 := ⟨k - 1, by omega⟩
    simp only [palinoderef18_Encode.l0]
    rw [if_pos (by omega), if_pos (by omega), rd_at l i hlt, k1 k (by omega), numR_of (by omega)]
    simp only [Option.bind_some]
    rw [if_pos (by omega), k2 k (by omega), numR_of (by omega)]
    simp only [Option.bind_some]
    rw [app_size, if_pos (by omega), wrap_of _ (by omega) (by omega), show (i : Int) + 1 = ((i + 1 : Nat) : Int) by omega, k3 k (by omega), List.drop_eq_getElem_cons hlt, stepsB]
    simp only [ByteArray.append_assoc]
theorem renc_ev (nm : ByteArray) (l : List S43) (hs : nm.size ≤ 140737488351232) : ∃ K, ∀ k, K ≤ k → palinoderef18_Encode.f k nm l = some ((encR nm l).1, defB nm l) := by
  obtain ⟨K1, k1⟩ := refdef_ev nm l hs
  by_cases hd : defB nm l = true
  · have hp := (defB_iff nm l).1 hd
    have h6 := hp.six
    have hn := ((nameB_iff nm).1 hp.name).2.2
    obtain ⟨K2, k2⟩ := reftext_ev nm
    obtain ⟨K3, k3⟩ := rnum_ev (l.length : Int)
    have hb := bsize_text (n := nm.size) (by omega)
    have hz := numB_size (n := (l.length : Int)) (by omega)
    have hts : (textB nm).size = bsize nm.size + 1 + nm.size := textL_size nm
    obtain ⟨K4, k4⟩ := renc_l0 nm l h6 hp.steps l.length 0 (textB nm ++ numB (l.length : Int)) (by omega) (by rw [app_size]; omega)
    refine ⟨K1 + K2 + K3 + K4, fun k hk => ?_⟩
    unfold palinoderef18_Encode.f
    rw [k1 k (by omega), hd, encR, if_pos hd]
    simp only [Option.bind_some, if_true]
    rw [k2 k (by omega), k3 k (by omega), textR, if_neg (by omega), numR_of (by omega)]
    simp only [Option.bind_some]
    have h4 := k4 k (by omega)
    rw [show ((0 : Nat) : Int) = 0 from rfl, List.drop_zero] at h4
    rw [show strOfNums (numL nm.size) ++ nm = textB nm from rfl, if_pos (by omega), h4]
    unfold encB
    simp only [ByteArray.append_assoc]
  · refine ⟨K1, fun k hk => ?_⟩
    unfold palinoderef18_Encode.f
    rw [k1 k hk, Bool.eq_false_iff.2 hd, encR, if_neg hd]
    rfl
/-- What the answer's loop ends with. -/
def DecOut (b : ByteArray) (nm : ByteArray) (r : Option (ByteArray × List S43 × Bool)) : Prop := r = some (⟨#[]⟩, [], false) ∨ ∃ l, DefP nm l ∧ b = encB nm l ∧ r = some (nm, l, true)
theorem readNum_less (b : ByteArray) (n : Int) (r : ByteArray) (h : readNum b = (n, r, none)) : r.size < b.size := by
  rcases readNum_cases b with ⟨e, h2, _⟩ | ⟨m, rest, h1, h2, h3⟩
  · rw [h2] at h; cases h
  · rw [h2] at h
    simp only [Prod.mk.injEq] at h
    obtain ⟨_, rfl, _⟩ := h
    rw [← h3, app_size, size_strOfNums, numL_length]
    omega
theorem rdec_l0 (b nm : ByteArray) (n : Int) (hn : n ≤ 9007199254740991) (hnm : nm.size ≤ 140737488351232) : ∀ (z : Nat) (more : ByteArray) (i : Int) (acc : List S43), more.size = z → 0 ≤ i → i ≤ 9007199254740991 → more.size + acc.length ≤ 10000000 →
    ∃ K r, DecOut b nm r ∧ ∀ k, K ≤ k → palinoderef18_Decode.l0 k b n more i (⟨#[]⟩ : ByteArray) nm acc = r := by
  intro z
  induction z using Nat.strongRecOn with
  | _ z ih =>
    intro more i acc hz h0 h1 hl
    by_cases hi : i < n
    · obtain ⟨K1, k1⟩ := refread_ev more (by omega)
      have hr := readNum_range more
      rcases hq : readNum more with ⟨a, r1, e1⟩
      have stop : (readNum more).2.2.isSome = true → ∃ K r, DecOut b nm r ∧ ∀ k, K ≤ k → palinoderef18_Decode.l0 k b n more i (⟨#[]⟩ : ByteArray) nm acc = r := by
        intro h
        refine ⟨K1 + 1, _, .inl rfl, fun k hk => ?_⟩
        obtain ⟨k, rfl⟩ : ∃ m, k = m + 1 := ⟨k - 1, by omega⟩
        simp only [palinoderef18_Decode.l0]
        rw [if_pos hi, k1 k (by omega)]
        simp only [Option.bind_some, refRead]
        have hne := readNum_err more
        cases he : (readNum more).2.2 with
        | none => rw [he] at h; cases h
        | some e => rw [he] at hne; simp only [Option.getD_some]; rw [if_neg (fun h => hne (by rw [h]))]
      cases e1 with
      | some e => exact stop (by rw [hq]; rfl)
      | none =>
        have hs1 := readNum_less more a r1 hq
        obtain ⟨K2, k2⟩ := refread_ev r1 (by omega)
        rcases hq2 : readNum r1 with ⟨t, r2, e2⟩
        cases e2 with
        | some e =>
          have hne := readNum_err r1
          rw [hq2] at hne
          refine ⟨K1 + K2 + 1, _, .inl rfl, fun k hk => ?_⟩
          obtain ⟨k, rfl⟩ : ∃ m, k = m + 1 := ⟨k - 1, by omega⟩
          simp only [palinoderef18_Decode.l0]
          rw [if_pos hi, k1 k (by omega), refRead, hq]
          simp only [Option.bind_some, Option.getD_none, if_true]
          rw [k2 k (by omega), refRead, hq2]
          simp only [Option.bind_some, Option.getD_some]
          rw [if_neg (fun h => hne (by rw [h]))]
        | none =>
          have hs2 := readNum_less r1 t r2 hq2
          obtain ⟨K3, r, hr3, k3⟩ := ih r2.size (by omega) r2 (i + 1) (acc ++ [(⟨a, t⟩ : S43)]) rfl (by omega) (by omega) (by rw [List.length_append, List.length_cons, List.length_nil]; omega)
          refine ⟨K1 + K2 + K3 + 1, r, hr3, fun k hk => ?_⟩
          obtain ⟨k, rfl⟩ : ∃ m, k = m + 1 := ⟨k - 1, by omega⟩
          simp only [palinoderef18_Decode.l0]
          rw [if_pos hi, k1 k (by omega), refRead, hq]
          simp only [Option.bind_some, Option.getD_none, if_true]
          rw [k2 k (by omega), refRead, hq2]
          simp only [Option.bind_some, Option.getD_none, if_true]
          rw [if_pos (by omega), wrap_of _ (by omega) (by omega)]
          exact k3 k (by omega)
    · obtain ⟨K1, k1⟩ := renc_ev nm acc hnm
      by_cases hd : defB nm acc = true
      · by_cases he : encB nm acc = b
        · refine ⟨K1 + 1, _, .inr ⟨acc, (defB_iff nm acc).1 hd, he.symm, rfl⟩, fun k hk => ?_⟩
          obtain ⟨k, rfl⟩ : ∃ m, k = m + 1 := ⟨k - 1, by omega⟩
          simp only [palinoderef18_Decode.l0]
          rw [if_neg hi, k1 k (by omega), hd, encR, if_pos hd]
          simp only [Option.bind_some, if_true]
          rw [if_pos (by rw [he])]
        · refine ⟨K1 + 1, _, .inl rfl, fun k hk => ?_⟩
          obtain ⟨k, rfl⟩ : ∃ m, k = m + 1 := ⟨k - 1, by omega⟩
          simp only [palinoderef18_Decode.l0]
          rw [if_neg hi, k1 k (by omega), hd, encR, if_pos hd]
          simp only [Option.bind_some, if_true]
          rw [if_neg (fun h => he (toList_eq_iff.1 h))]
      · refine ⟨K1 + 1, _, .inl rfl, fun k hk => ?_⟩
        obtain ⟨k, rfl⟩ : ∃ m, k = m + 1 := ⟨k - 1, by omega⟩
        simp only [palinoderef18_Decode.l0]
        rw [if_neg hi, k1 k (by omega), Bool.eq_false_iff.2 hd]
        simp only [Option.bind_some]
        rw [if_neg (by decide)]
/-- Its steps, where a definition's bytes stand. -/
theorem rdec_good (b nm : ByteArray) (l : List S43) (hp : DefP nm l) (hb : encB nm l = b) (hnm : nm.size ≤ 140737488351232) (hz : b.size ≤ 140737488351232) : ∀ (d i : Nat), i + d = l.length →
    (stepsB (l.drop i)).size ≤ 140737488351232 → ∃ K, ∀ k, K ≤ k → palinoderef18_Decode.l0 k b (l.length : Int) (stepsB (l.drop i)) (i : Int) (⟨#[]⟩ : ByteArray) nm (l.take i) = some (nm, l, true) := by
  intro d
  have h6 := hp.six
  induction d with
  | zero =>
    intro i hi hs
    obtain ⟨K1, k1⟩ := renc_ev nm l hnm
    have hd := (defB_iff nm l).2 hp
    refine ⟨K1 + 1, fun k hk => ?_⟩
    obtain ⟨k, rfl⟩ : ∃ m, k = m + 1 := ⟨k - 1, by omega⟩
    simp only [palinoderef18_Decode.l0]
    rw [if_neg (by omega), List.take_of_length_le (by omega), k1 k (by omega), hd, encR, if_pos hd]
    simp only [Option.bind_some, if_true]
    rw [if_pos (by rw [hb])]
  | succ d ih =>
    intro i hi hs
    have hlt : i < l.length := by omega
    obtain ⟨o1, o2, o3, o4⟩ := hp.steps _ (List.getElem_mem hlt)
    have e := List.drop_eq_getElem_cons hlt
    rw [e, stepsB] at hs
    rw [app_size, app_size] at hs
    obtain ⟨K1, k1⟩ := refread_ev (stepsB (l.drop i)) (by rw [e, stepsB, app_size, app_size]; omega)
    obtain ⟨K2, k2⟩ := refread_ev (numB l[i].f1 ++ stepsB (l.drop (i + 1))) (by rw [app_size]; omega)
    obtain ⟨K3, k3⟩ := ih (i + 1) (by omega) (by omega)
    have q1 : readNum (stepsB (l.drop i)) = (l[i].f0, numB l[i].f1 ++ stepsB (l.drop (i + 1)), none) := by
      rw [e, stepsB, readNum_B (by omega)]
    have q2 : readNum (numB l[i].f1 ++ stepsB (l.drop (i + 1))) = (l[i].f1, stepsB (l.drop (i + 1)), none) := readNum_B (by omega) _
    refine ⟨K1 + K2 + K3 + 1, fun k hk => ?_⟩
    obtain ⟨k, rfl⟩ : ∃ m, k = m + 1 := ⟨k - 1, by omega⟩
    simp only [palinoderef18_Decode.l0]
    rw [if_pos (by omega), k1 k (by omega), refRead, q1]
    simp only [Option.bind_some, Option.getD_none, if_true]
    rw [k2 k (by omega), refRead, q2]
    simp only [Option.bind_some, Option.getD_none, if_true]
    have ht : l.take (i + 1) = l.take i ++ [l[i]] := by rw [List.take_succ_eq_append_getElem hlt]
    rw [if_pos (by rw [List.length_take]; omega), wrap_of _ (by omega) (by omega), show (i : Int) + 1 = ((i + 1 : Nat) : Int) by omega]
    rw [ht] at k3
    exact k3 k (by omega)
/-- It is what the program reads. -/
theorem rdec_ev (b : ByteArray) (hb : b.size ≤ 1048576) : ∃ nm l e K, define_Decode.f b = some (nm, l, e) ∧ (e = none ∨ e = some 3) ∧ (e = none → l.length ≤ 6) ∧ (e = some 3 → nm = ⟨#[]⟩ ∧ l = []) ∧ ∀ k, K ≤ k → palinoderef18_Decode.f k b = some (nm, l, e.isNone) := by
  rcases decode_cases b with h | ⟨nm, l, hp, hs, he, h⟩
  · refine ⟨⟨#[]⟩, [], some 3, ?_⟩
    have hno : ∀ nm l, DefP nm l → b = encB nm l → False := by
      intro nm l hp e
      rw [e, decode_enc hp] at h
      cases h
    obtain ⟨K1, k1⟩ := refreadtext_ev b (by omega)
    have hte := readText_err b
    have hts := readText_size b
    rcases hq : readText b with ⟨t, r, e⟩
    rw [hq] at hte hts
    simp only at hte hts
    cases e with
    | some e =>
      refine ⟨K1, h, .inr rfl, fun h => (by cases h), fun _ => ⟨rfl, rfl⟩, fun k hk => ?_⟩
      unfold palinoderef18_Decode.f
      rw [k1 k (by omega), refReadText, hq]
      simp only [Option.bind_some, Option.getD_some]
      rw [if_neg (fun h => hte (by rw [h]))]
      rfl
    | none =>
      have hrs : r.size ≤ 1048576 := by
        have h0 := readNum_rest b
        have : r.size ≤ b.size := by
          unfold readText at hq
          rcases hn : readNum b with ⟨n, r0, e0⟩
          rw [hn] at hq h0
          simp only at h0
          cases e0 with
          | some e0 => simp only at hq; cases hq
          | none =>
            simp only at hq
            by_cases c1 : n > 1048576
            · rw [if_pos c1] at hq; cases hq
            rw [if_neg c1] at hq
            by_cases c2 : (r0.size : Int) < n
            · rw [if_pos c2] at hq; cases hq
            rw [if_neg c2] at hq
            simp only [Prod.mk.injEq] at hq
            rw [← hq.2.1]
            exact Nat.le_trans (extract_size _ _ _) h0
        omega
      obtain ⟨K2, k2⟩ := refread_ev r (by omega)
      have hne := readNum_err r
      have hrr := readNum_rest r
      have hrg := readNum_range r
      rcases hq2 : readNum r with ⟨n, m, e2⟩
      rw [hq2] at hne hrr hrg
      simp only at hne hrr hrg
      cases e2 with
      | some e =>
        refine ⟨K1 + K2, h, .inr rfl, fun h => (by cases h), fun _ => ⟨rfl, rfl⟩, fun k hk => ?_⟩
        unfold palinoderef18_Decode.f
        rw [k1 k (by omega), refReadText, hq]
        simp only [Option.bind_some, Option.getD_none, if_true]
        rw [k2 k (by omega), refRead, hq2]
        simp only [Option.bind_some, Option.getD_some]
        rw [if_neg (fun h => hne (by rw [h]))]
        rfl
      | none =>
        obtain ⟨K3, r3, hr3, k3⟩ := rdec_l0 b t n hrg.2 (by omega) m.size m 0 [] rfl (by omega) (by omega) (by simp; omega)
        refine ⟨K1 + K2 + K3, h, .inr rfl, fun h => (by cases h), fun _ => ⟨rfl, rfl⟩, fun k hk => ?_⟩
        unfold palinoderef18_Decode.f
        rw [k1 k (by omega), refReadText, hq]
        simp only [Option.bind_some, Option.getD_none, if_true]
        rw [k2 k (by omega), refRead, hq2]
        simp only [Option.bind_some, Option.getD_none, if_true]
        rw [k3 k (by omega)]
        rcases hr3 with h3 | ⟨l, hp, he, _⟩
        · exact h3
        · exact (hno _ _ hp he).elim
  · have h1 := hp.one
    have h6 := hp.six
    have hn := ((nameB_iff nm).1 hp.name).2.2
    have e1 : readText (encB nm l) = (nm, numB (l.length : Int) ++ stepsB l, none) := readText_text nm (by omega) _
    have hbs : b.size = (textB nm).size + ((numB (l.length : Int)).size + (stepsB l).size) := by rw [he]; unfold encB; rw [app_size, app_size]
    obtain ⟨K1, k1⟩ := refreadtext_ev b (by omega)
    obtain ⟨K2, k2⟩ := refread_ev (numB (l.length : Int) ++ stepsB l) (by rw [app_size]; omega)
    obtain ⟨K3, k3⟩ := rdec_good b nm l hp he.symm hs (by omega) l.length 0 (by omega) (by rw [List.drop_zero]; omega)
    refine ⟨nm, l, none, K1 + K2 + K3, h, .inl rfl, fun _ => h6, fun h => (by cases h), fun k hk => ?_⟩
    unfold palinoderef18_Decode.f
    rw [k1 k (by omega), refReadText]
    have e1' : readText b = (nm, numB (l.length : Int) ++ stepsB l, none) := by rw [he]; exact e1
    rw [e1']
    simp only [Option.bind_some, Option.getD_none, if_true]
    rw [k2 k (by omega), refRead, readNum_B (by omega)]
    simp only [Option.bind_some, Option.getD_none, if_true]
    have h4 := k3 k (by omega)
    rw [List.drop_zero, List.take_zero, show ((0 : Nat) : Int) = 0 from rfl] at h4
    rw [h4]
    rfl
end Go.Proofs.Ytnmlnngmfagmfaa.Print
