import Derived.Test.YtnmlnngmfagmfaaDefineLib
import Derived.Test.YtnmlnngmfagmfaaPackText
import Derived.Test.YtnmlnngmfagmfaaPrint5
import Derived.Test.YtnmlnngmfagmfaaHDefineDecode
namespace Go.Proofs.Ytnmlnngmfagmfaa.Print
open Go.RowKit Go.Proofs.YtnmlnngmfagmfaaX Go.Proofs.YtnmlnngmfagmfaaW.PrintWords
set_option linter.unusedVariables false
set_option linter.unusedSimpArgs false

/-! ## A definition's bytes -/
def numB (n : Int) : ByteArray := strOfNums (numL n.toNat)
def numsB : List Int → ByteArray
  | [] => ⟨#[]⟩
  | n :: l => numB n ++ numsB l
def flatS : List S43 → List Int
  | [] => []
  | s :: l => s.f0 :: s.f1 :: flatS l
def stepsB : List S43 → ByteArray
  | [] => ⟨#[]⟩
  | s :: l => numB s.f0 ++ (numB s.f1 ++ stepsB l)
def textB (nm : ByteArray) : ByteArray := strOfNums (numL nm.size) ++ nm
def encB (nm : ByteArray) (l : List S43) : ByteArray := textB nm ++ (numB (l.length : Int) ++ stepsB l)
def encR (nm : ByteArray) (l : List S43) : ByteArray × Option Int := if defB nm l = true then (encB nm l, none) else (⟨#[]⟩, some 1)
theorem flat_append (l m : List S43) : flatS (l ++ m) = flatS l ++ flatS m := by
  induction l with
  | nil => rfl
  | cons s l ih => simp [flatS, ih]
theorem flat_length (l : List S43) : (flatS l).length = 2 * l.length := by
  induction l with
  | nil => rfl
  | cons s l ih => simp only [flatS, List.length_cons, ih]; omega
theorem nums_flat (l : List S43) : numsB (flatS l) = stepsB l := by
  induction l with
  | nil => rfl
  | cons s l ih => simp only [flatS, numsB, stepsB, ih]
theorem empty_app (b : ByteArray) : (⟨#[]⟩ : ByteArray) ++ b = b := ByteArray.empty_append
theorem app_empty (b : ByteArray) : b ++ (⟨#[]⟩ : ByteArray) = b := ByteArray.append_empty
theorem app_size (a b : ByteArray) : (a ++ b).size = a.size + b.size := by rw [bytesOf_size, bytesOf_append, List.length_append, bytesOf_length, bytesOf_length]
theorem numB_size {n : Int} (h : 0 ≤ n ∧ n ≤ 9007199254740991) : (numB n).size ≤ 8 := by
  unfold numB
  rw [size_strOfNums, numL_length]
  have := bsize_7 (n := n.toNat) (by omega)
  omega
theorem numR_of {n : Int} (h : 0 ≤ n ∧ n ≤ 9007199254740991) : numR n = (numB n, none) := by
  unfold numR numB
  rw [if_neg (by omega)]
theorem enc_l1 (L : List Int) (hL : ∀ x ∈ L, 0 ≤ x ∧ x ≤ 9007199254740991) (hlen : L.length ≤ 1000) : ∀ (d i k : Nat) (acc : ByteArray), i + d = L.length → d + 10 ≤ k → acc.size + 8 * d ≤ 4611686018427387904 →
    define_Encode.l1 k acc L (L.length : Int) (i : Int) = some (acc ++ numsB (L.drop i), none) := by
  intro d
  induction d with
  | zero =>
    intro i k acc hi hk hs
    obtain ⟨k, rfl⟩ : ∃ m, k = m + 1 := ⟨k - 1, by omega⟩
    simp only [define_Encode.l1]
    rw [if_neg (by omega), List.drop_of_length_le (by omega), numsB, app_empty]
  | succ d ih =>
    intro i k acc hi hk hs
    obtain ⟨k, rfl⟩ : ∃ m, k = m + 1 := ⟨k - 1, by omega⟩
    simp only [define_Encode.l1]
    have hlt : i < L.length := by omega
    have hrd : rd L (i : Int) = L[i] := by
      unfold rd
      rw [Int.toNat_natCast, List.getD_eq_getElem?_getD, List.getElem?_eq_getElem hlt]
      rfl
    have hx := hL _ (List.getElem_mem hlt)
    have hz := numB_size hx
    rw [if_pos (by omega), if_pos (by omega), if_pos (by omega), hrd, num_big _ k (by omega), numR_of hx]
    simp only [Option.bind_some]
    rw [if_pos (by omega), wrap_of _ (by omega) (by omega), show (i : Int) + 1 = ((i + 1 : Nat) : Int) by omega, ih (i + 1) k _ (by omega) (by omega) (by rw [app_size]; omega), List.drop_eq_getElem_cons hlt, numsB, ByteArray.append_assoc]
theorem enc_l0 (l : List S43) (hl : l.length ≤ 6) (hv : ∀ s ∈ l, okS s) (acc : ByteArray) (hs : acc.size ≤ 4611686018427387000) : ∀ (d i k : Nat) (x : List Int), i + d = l.length → d + 60 ≤ k → x.length + 2 * d ≤ 40 → (∀ n ∈ x, 0 ≤ n ∧ n ≤ 9007199254740991) →
    define_Encode.l0 k acc x l (l.length : Int) (i : Int) = some (acc ++ numsB (x ++ flatS (l.drop i)), none) := by
  intro d
  induction d with
  | zero =>
    intro i k x hi hk hx hn
    obtain ⟨k, rfl⟩ : ∃ m, k = m + 1 := ⟨k - 1, by omega⟩
    simp only [define_Encode.l0]
    have := enc_l1 x hn (by omega) x.length 0 k acc (by omega) (by omega) (by omega)
    rw [show ((0 : Nat) : Int) = 0 from rfl, List.drop_zero] at this
    rw [if_neg (by omega), this, List.drop_of_length_le (by omega), flatS, List.append_nil]
  | succ d ih =>
    intro i k x hi hk hx hn
    obtain ⟨k, rfl⟩ : ∃ m, k = m + 1 := ⟨k - 1, by omega⟩
    simp only [define_Encode.l0]
    have hlt : i < l.length := by omega
    obtain ⟨o1, o2, o3, o4⟩ := hv _ (List.getElem_mem hlt)
    rw [if_pos (by omega), if_pos (by omega), if_pos (by omega), rd_at l i hlt]
    simp only [Option.bind_some, List.length_cons, List.length_nil]
    rw [if_pos (by omega), wrap_of _ (by omega) (by omega), show (i : Int) + 1 = ((i + 1 : Nat) : Int) by omega, ih (i + 1) k _ (by omega) (by omega) (by rw [List.length_append, List.length_cons, List.length_cons, List.length_nil]; omega) (by
      intro n hn'
      rcases List.mem_append.1 hn' with h | h
      · exact hn n h
      · simp only [List.mem_cons, List.not_mem_nil, or_false] at h
        rcases h with rfl | rfl <;> omega), List.drop_eq_getElem_cons hlt, flatS]
    simp only [List.append_assoc, List.cons_append, List.nil_append]
theorem enc_big (nm : ByteArray) (l : List S43) (hs : nm.size ≤ 140737488351232) (hl : l.length ≤ 140737488351232) (k : Nat) (hk : 80 ≤ k) (hk2 : l.length < k) : define_Encode.f k nm l = some (encR nm l) := by
  have hd0 : define_Right.f k nm l = some (defB nm l) := by
    have := def_l0 nm l hs hl l.length 0 k (by omega) (by omega)
    rw [show ((0 : Nat) : Int) = 0 from rfl, List.drop_zero] at this
    unfold define_Right.f
    rw [this]
    rfl
  unfold define_Encode.f encR
  rw [hd0]
  simp only [Option.bind_some]
  by_cases hd : defB nm l = true
  · rw [if_pos hd, if_pos hd]
    have hp := (defB_iff nm l).1 hd
    have h6 := hp.six
    have hn := ((nameB_iff nm).1 hp.name).2.2
    rw [text_big nm k (by omega), textR, if_neg (by omega)]
    simp only [Option.bind_some]
    have hb := bsize_text (n := nm.size) (by omega)
    have := enc_l0 l h6 hp.steps (strOfNums (numL nm.size) ++ nm) (by rw [textL_size]; omega) l.length 0 k [(l.length : Int)] (by omega) (by omega) (by simp; omega) (by simp; omega)
    rw [show ((0 : Nat) : Int) = 0 from rfl, List.drop_zero] at this
    rw [this]
    simp only [List.cons_append, List.nil_append, numsB, nums_flat]
    rfl
  · rw [if_neg hd, if_neg hd]
theorem enc_ev (nm : ByteArray) (l : List S43) (hs : nm.size ≤ 140737488351232) (hl : l.length ≤ 140737488351232) : ∃ K, ∀ k, K ≤ k → define_Encode.f k nm l = some (encR nm l) := ⟨l.length + 80, fun k hk => enc_big nm l hs hl k (by omega) (by omega)⟩

/-! ## Bytes read as a definition -/
theorem readNum_B {n : Int} (h : 0 ≤ n ∧ n ≤ 9007199254740991) (r : ByteArray) : readNum (numB n ++ r) = (n, r, none) := by
  unfold numB
  rw [readNum_num _ (by omega), Int.toNat_of_nonneg h.1]
theorem next_B {n : Int} (h : 0 ≤ n ∧ n ≤ 9007199254740991) (r : ByteArray) : nextNum (numB n ++ r) none = (n, r, none) := readNum_B h r
theorem decR_B (l : List S43) (hv : ∀ s ∈ l, okS s) (r : ByteArray) : ∀ acc, decR l.length (stepsB l ++ r) none acc = (r, none, acc ++ l) := by
  induction l with
  | nil => intro acc; simp only [List.length_nil, decR, stepsB, empty_app, List.append_nil]
  | cons s l ih =>
    intro acc
    obtain ⟨o1, o2, o3, o4⟩ := hv s (List.mem_cons_self ..)
    simp only [List.length_cons, decR, stepsB]
    rw [ByteArray.append_assoc, ByteArray.append_assoc, next_B (by omega), next_B (by omega)]
    simp only
    rw [ih (fun x hx => hv x (List.mem_cons_of_mem _ hx)), List.append_assoc]
    rfl
theorem decR_length : ∀ (m : Nat) (r : ByteArray) (e : Option Int) (acc : List S43), (decR m r e acc).2.2.length = acc.length + m := by
  intro m
  induction m with
  | zero => intro r e acc; rfl
  | succ m ih =>
    intro r e acc
    simp only [decR]
    rw [ih, List.length_append, List.length_cons, List.length_nil]
    omega
theorem readNum_range (b : ByteArray) : 0 ≤ (readNum b).1 ∧ (readNum b).1 ≤ 9007199254740991 := by
  rcases readNum_cases b with ⟨e, h, _⟩ | ⟨n, rest, h1, h, _⟩
  · rw [h]; exact ⟨Int.le_refl 0, (by decide : (0 : Int) ≤ 9007199254740991)⟩
  · rw [h]; exact ⟨by simp, by simp; omega⟩
theorem extract_size (b : ByteArray) (i j : Nat) : (b.extract i j).size ≤ b.size := by
  rw [bytesOf_size, bytesOf_size b, bytesOf_extract, List.length_take, List.length_drop]
  omega
theorem readNum_rest (b : ByteArray) : (readNum b).2.1.size ≤ b.size := by
  rcases readNum_cases b with ⟨e, h, _⟩ | ⟨n, rest, h1, h, h2⟩
  · rw [h]; exact Nat.zero_le _
  · rw [h, ← h2, app_size]; exact Nat.le_add_left _ _
theorem readText_size (b : ByteArray) : (readText b).1.size ≤ 1048576 := by
  unfold readText
  generalize readNum b = r
  obtain ⟨n, r, e⟩ := r
  cases e with
  | some e => exact Nat.zero_le _
  | none =>
    simp only
    by_cases h1 : n > 1048576
    · rw [if_pos h1]; exact Nat.zero_le _
    · rw [if_neg h1]
      by_cases h2 : (r.size : Int) < n
      · rw [if_pos h2]; exact Nat.zero_le _
      · rw [if_neg h2]
        show (r.extract 0 n.toNat).size ≤ 1048576
        rw [bytesOf_size, bytesOf_extract, List.length_take]
        omega
/-- What is read: what was written, or nothing. -/
theorem decode_cases (b : ByteArray) : define_Decode.f b = some (⟨#[]⟩, [], some 3) ∨ ∃ nm l, DefP nm l ∧ nm.size ≤ 140737488351232 ∧ b = encB nm l ∧ define_Decode.f b = some (nm, l, none) := by
  have ht := readText_eq b
  have hts := readText_size b
  unfold define_Decode.f
  rw [ht]
  simp only [Option.bind_some]
  by_cases h1 : (readText b).2.2.isNone = true
  · rw [if_pos h1]
    have hn := readNum_range (readText b).2.1
    have hnn : nextNum (readText b).2.1 none = readNum (readText b).2.1 := rfl
    rw [hnn]
    generalize readNum (readText b).2.1 = q at hn ⊢
    obtain ⟨n, r, e⟩ := q
    simp only at hn ⊢
    by_cases h2 : e.isNone = true ∧ 0 ≤ n ∧ n ≤ 6
    · rw [if_pos h2]
      have hl := decR_length n.toNat r none []
      rw [List.length_nil, Nat.zero_add] at hl
      rw [enc_big _ _ (by omega) (by omega) 100 (by decide) (by omega)]
      simp only [Option.bind_some]
      unfold encR
      by_cases h3 : defB (readText b).1 (decR n.toNat r none []).2.2 = true
      · rw [if_pos h3]
        by_cases h4 : (decR n.toNat r none []).2.1.isNone = true ∧ (none : Option Int).isNone = true ∧ (encB (readText b).1 (decR n.toNat r none []).2.2).toList = b.toList
        · rw [if_pos h4]
          exact .inr ⟨_, _, (defB_iff _ _).1 h3, by omega, (toList_eq_iff.1 h4.2.2).symm, rfl⟩
        · rw [if_neg h4]; exact .inl rfl
      · rw [if_neg h3, if_neg (fun h => by cases h.2.1)]
        exact .inl rfl
    · rw [if_neg h2, if_neg (fun h => by omega)]
      exact .inl rfl
  · rw [if_neg h1]
    exact .inl rfl
theorem decode_enc {nm : ByteArray} {l : List S43} (hp : DefP nm l) : define_Decode.f (encB nm l) = some (nm, l, none) := by
  have h1 := hp.one
  have h6 := hp.six
  have hn := ((nameB_iff nm).1 hp.name).2.2
  unfold define_Decode.f
  rw [readText_eq]
  have e1 : readText (encB nm l) = (nm, numB (l.length : Int) ++ stepsB l, none) := readText_text nm (by omega) _
  rw [e1]
  simp only [Option.bind_some]
  rw [if_pos (by rfl), next_B (by omega)]
  simp only
  rw [if_pos ⟨rfl, by omega, by omega⟩, Int.toNat_natCast]
  have e2 : decR l.length (stepsB l) none [] = (⟨#[]⟩, none, l) := by
    have := decR_B l hp.steps ⟨#[]⟩ []
    rwa [app_empty, List.nil_append] at this
  rw [e2]
  simp only
  rw [enc_big _ _ (by omega) (by omega) 100 (by decide) (by omega), encR, if_pos ((defB_iff nm l).2 hp)]
  simp only [Option.bind_some]
  rw [if_pos ⟨rfl, rfl, trivial⟩]
/-- No definition's bytes begin with another one's. -/
theorem enc_prefix {nm nm' : ByteArray} {l l' : List S43} (hp : DefP nm l) (hp' : DefP nm' l') {r r' : ByteArray} (h : encB nm l ++ r = encB nm' l' ++ r') : nm = nm' ∧ l = l' ∧ r = r' := by
  have p : ∀ {nm : ByteArray} {l : List S43} (hp : DefP nm l) (r : ByteArray), readText (encB nm l ++ r) = (nm, numB (l.length : Int) ++ (stepsB l ++ r), none) := by
    intro nm l hp r
    have hn := ((nameB_iff nm).1 hp.name).2.2
    have e : encB nm l ++ r = strOfNums (numL nm.size) ++ nm ++ (numB (l.length : Int) ++ (stepsB l ++ r)) := by
      unfold encB textB
      simp only [ByteArray.append_assoc]
    rw [e, readText_text nm (by omega)]
  have e1 := p hp r
  rw [h, p hp' r'] at e1
  simp only [Prod.mk.injEq] at e1
  obtain ⟨rfl, e2, _⟩ := e1
  have h6 := hp.six
  have h6' := hp'.six
  have e3 := congrArg readNum e2
  rw [readNum_B (by omega), readNum_B (by omega)] at e3
  simp only [Prod.mk.injEq] at e3
  obtain ⟨e4, e5, _⟩ := e3
  have e6 := decR_B l hp.steps r []
  have e7 := decR_B l' hp'.steps r' []
  rw [show l'.length = l.length by omega, e5, e6] at e7
  simp only [Prod.mk.injEq, List.nil_append] at e7
  exact ⟨rfl, e7.2.2, e7.1⟩
end Go.Proofs.Ytnmlnngmfagmfaa.Print
