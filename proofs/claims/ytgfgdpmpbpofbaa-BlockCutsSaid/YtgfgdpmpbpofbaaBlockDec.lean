import Derived.Test.YtgfgdpmpbpofbaaBlockEnc
import Derived.Test.YtgfgdpmpbpofbaaPackText
import Derived.Test.YtgfgdpmpbpofbaaHBlockDecode
import Derived.Test.YtgfgdpmpbpofbaaPrint10
namespace Go.Proofs.Ytgfgdpmpbpofbaa.Print
open Go.RowKit Go.Proofs.YtgfgdpmpbpofbaaX Go.Proofs.YtgfgdpmpbpofbaaW.PrintWords Go.Proofs.YtgfgdpmpbpofbaaW.PrintLast
set_option linter.unusedVariables false
set_option linter.unusedSimpArgs false

theorem SN_append (xs ys : List Int) : strOfNums (xs ++ ys) = strOfNums xs ++ strOfNums ys := by
  unfold strOfNums
  apply ByteArray.ext
  simp [ByteArray.data_append]
theorem SN_bytes (s : ByteArray) : strOfNums (bytesOf s) = s := bytesOf_inj (bytesOf_strOfNums (bytesOf_range s))
theorem SN_text (s : ByteArray) : strOfNums (textL s) = strOfNums (numL s.size) ++ s := by unfold textL; rw [SN_append, SN_bytes]
theorem SN_nil : strOfNums [] = (⟨#[]⟩ : ByteArray) := rfl
theorem app_nil (s : ByteArray) : s ++ (⟨#[]⟩ : ByteArray) = s := by apply bytesOf_inj; rw [bytesOf_append, bytesOf_nil, List.append_nil]
theorem app_assoc (a b c : ByteArray) : a ++ b ++ c = a ++ (b ++ c) := by apply bytesOf_inj; simp only [bytesOf_append, List.append_assoc]

/-! ## Reading -/
def rdN (b : ByteArray) : Option (Int × ByteArray) := match (readNum b).2.2 with | some _ => none | none => some ((readNum b).1, (readNum b).2.1)
def rdT (b : ByteArray) : Option (ByteArray × ByteArray) := match (readText b).2.2 with | some _ => none | none => some ((readText b).1, (readText b).2.1)
theorem rdN_num (m : Nat) (hm : m ≤ 9007199254740991) (rest : ByteArray) : rdN (strOfNums (numL m) ++ rest) = some ((m : Int), rest) := by unfold rdN; rw [readNum_num m hm]
theorem rdT_text (s : ByteArray) (h : s.size ≤ 1048576) (rest : ByteArray) : rdT (strOfNums (textL s) ++ rest) = some (s, rest) := by unfold rdT; rw [SN_text, readText_text s h]
theorem rdN_pos {b : ByteArray} {r : Int × ByteArray} (h : rdN b = some r) : 0 ≤ r.1 ∧ r.1 ≤ 9007199254740991 := by
  unfold rdN at h
  rcases readNum_cases b with ⟨e, he, _⟩ | ⟨n, rest, hn, he, hr⟩
  · rw [he] at h; cases h
  · rw [he] at h
    obtain rfl := Option.some.inj h
    exact ⟨by simp, by simp; omega⟩
theorem rdT_size {b : ByteArray} {r : ByteArray × ByteArray} (h : rdT b = some r) : r.1.size ≤ 1048576 := by
  unfold rdT readText at h
  rcases readNum_cases b with ⟨e, he, _⟩ | ⟨n, rest, hn, he, hr⟩
  · rw [he] at h; cases h
  · rw [he] at h
    simp only at h
    by_cases c1 : 1048576 < (n : Int)
    · rw [if_pos c1] at h; cases h
    · rw [if_neg c1] at h
      by_cases c2 : (rest.size : Int) < (n : Int)
      · rw [if_pos c2] at h; cases h
      · rw [if_neg c2] at h
        obtain rfl := Option.some.inj h
        rw [Int.toNat_natCast, ByteArray.size_extract]
        omega
def decEnt (s last : ByteArray) : Option (Ent × ByteArray) :=
  (rdN s).bind fun r1 => if r1.1 ≤ (last.size : Int) then (rdT r1.2).bind fun r2 => (rdN r2.2).bind fun r3 => (rdN r3.2).bind fun r4 =>
    if r4.1 = 0 then (rdT r4.2).bind fun r5 => some (⟨last.extract 0 r1.1.toNat ++ r2.1, r3.1, false, r5.1⟩, r5.2)
    else if r4.1 = 1 then some (⟨last.extract 0 r1.1.toNat ++ r2.1, r3.1, true, ⟨#[]⟩⟩, r4.2) else none
  else none
theorem rdN_some {b : ByteArray} (h : (readNum b).2.2 = none) : rdN b = some ((readNum b).1, (readNum b).2.1) := by unfold rdN; rw [h]
theorem rdN_none {b : ByteArray} {e : Int} (h : (readNum b).2.2 = some e) : rdN b = none := by unfold rdN; rw [h]
theorem rdN_of {b : ByteArray} {n : Int} {s : ByteArray} (h : readNum b = (n, s, none)) : rdN b = some (n, s) := by unfold rdN; rw [h]
theorem rdN_not {b : ByteArray} {n e : Int} {s : ByteArray} (h : readNum b = (n, s, some e)) : rdN b = none := by unfold rdN; rw [h]
theorem rdT_of {b t s : ByteArray} (h : readText b = (t, s, none)) : rdT b = some (t, s) := by unfold rdT; rw [h]
theorem rdT_not {b t s : ByteArray} {e : Int} (h : readText b = (t, s, some e)) : rdT b = none := by unfold rdT; rw [h]
theorem fN {b : ByteArray} {r : Int × ByteArray × Option Int} (h : readNum b = r) : pack_ReadNum.f b = some r := by unfold pack_ReadNum.f; rw [h]
theorem fT {b : ByteArray} {r : ByteArray × ByteArray × Option Int} (h : readText b = r) : pack_ReadText.f b = some r := by rw [readText_eq, h]
theorem none_yes : (none : Option Int).isNone = true := rfl
theorem some_no (e : Int) : ¬ (some e : Option Int).isNone = true := by simp
theorem dec_entry (s last : ByteArray) (hl : last.size ≤ 1152921504606846976) : decEntry s last = some (decEnt s last) := by
  unfold decEntry decEnt
  rcases h1 : readNum s with ⟨n, s1, _ | e⟩
  rotate_left
  · rw [fN h1, rdN_not h1, Option.bind_some, if_neg (some_no e)]; rfl
  have h1' := rdN_of h1
  have hp := rdN_pos h1'
  rw [fN h1, h1', Option.bind_some, Option.bind_some, if_pos none_yes]
  simp only at hp ⊢
  rw [if_neg (show ¬ n < 0 by omega)]
  by_cases c1 : n ≤ (last.size : Int)
  rotate_left
  · rw [if_pos c1, if_neg c1]
  rw [if_neg (not_not_intro c1), if_pos c1]
  rcases h2 : readText s1 with ⟨t, s2, _ | e⟩
  rotate_left
  · rw [fT h2, rdT_not h2, Option.bind_some, if_neg (some_no e)]; rfl
  have h2' := rdT_of h2
  have hz := rdT_size h2'
  rw [fT h2, h2', Option.bind_some, Option.bind_some, if_pos none_yes]
  simp only at hz ⊢
  rw [if_pos (show (last.extract 0 n.toNat).size + t.size ≤ 9223372036854775807 by rw [ByteArray.size_extract]; omega)]
  rcases h3 : readNum s2 with ⟨q, s3, _ | e⟩
  rotate_left
  · rw [fN h3, rdN_not h3, Option.bind_some, if_neg (some_no e)]; rfl
  rw [fN h3, rdN_of h3, Option.bind_some, Option.bind_some, if_pos none_yes]
  simp only
  rcases h4 : readNum s3 with ⟨d, s4, _ | e⟩
  rotate_left
  · rw [fN h4, rdN_not h4, Option.bind_some, if_neg (some_no e)]; rfl
  rw [fN h4, rdN_of h4, Option.bind_some, Option.bind_some, if_pos none_yes]
  simp only
  by_cases c4 : d = 0
  · rw [if_pos c4, if_pos c4]
    rcases h5 : readText s4 with ⟨v, s5, _ | e⟩
    rotate_left
    · rw [fT h5, rdT_not h5, Option.bind_some, if_neg (some_no e)]; rfl
    rw [fT h5, rdT_of h5, Option.bind_some, Option.bind_some, if_pos none_yes]
  · rw [if_neg c4, if_neg c4]
    by_cases c5 : d = 1
    · rw [if_pos c5, if_pos c5]
    · rw [if_neg c5, if_neg c5]
theorem decEnt_key {s last : ByteArray} {r : Ent × ByteArray} (h : decEnt s last = some r) : r.1.f0.size ≤ last.size + 1048576 := by
  unfold decEnt at h
  obtain ⟨r1, h1, h⟩ := Option.bind_eq_some_iff.1 h
  by_cases c1 : r1.1 ≤ (last.size : Int)
  · rw [if_pos c1] at h
    obtain ⟨r2, h2, h⟩ := Option.bind_eq_some_iff.1 h
    obtain ⟨r3, h3, h⟩ := Option.bind_eq_some_iff.1 h
    obtain ⟨r4, h4, h⟩ := Option.bind_eq_some_iff.1 h
    have hz := rdT_size h2
    have hk : (last.extract 0 r1.1.toNat ++ r2.1).size ≤ last.size + 1048576 := by rw [ByteArray.size_append, ByteArray.size_extract]; omega
    by_cases c4 : r4.1 = 0
    · rw [if_pos c4] at h
      obtain ⟨r5, h5, h⟩ := Option.bind_eq_some_iff.1 h
      obtain rfl := Option.some.inj h
      exact hk
    · rw [if_neg c4] at h
      by_cases c5 : r4.1 = 1
      · rw [if_pos c5] at h
        obtain rfl := Option.some.inj h
        exact hk
      · rw [if_neg c5] at h; cases h
  · rw [if_neg c1] at h; cases h
def decAll : Nat → ByteArray → ByteArray → List Ent → Option (List Ent × ByteArray)
  | 0, s, _, acc => some (acc, s)
  | m + 1, s, last, acc => (decEnt s last).bind fun r => decAll m r.2 r.1.f0 (acc ++ [r.1])
theorem decLoop_eq : ∀ (m : Nat) (s last : ByteArray) (acc : List Ent), last.size + m * 1048576 ≤ 1152921504606846976 → acc.length + m ≤ 900 → decLoop m s last acc = some ((decAll m s last acc).map (·.1)) := by
  intro m
  induction m with
  | zero => intro s last acc _ _; rfl
  | succ m ih =>
    intro s last acc h1 h2
    simp only [decLoop, decAll]
    rw [dec_entry s last (by omega), Option.bind_some]
    cases h : decEnt s last with
    | none => rfl
    | some r =>
      obtain ⟨e, rest⟩ := r
      have := decEnt_key h
      simp only at this ⊢
      rw [if_pos (by omega), Option.bind_some, ih _ _ _ (by omega) (by rw [List.length_append]; simp only [List.length_singleton]; omega)]
def decodeR (b : ByteArray) : List Ent × Option Int :=
  match rdN b with
  | none => ([], some 3)
  | some r => if r.1 ≤ 200 then (match decAll r.1.toNat r.2 ⟨#[]⟩ [] with
      | none => ([], some 3)
      | some l => if (encR l.1).2.isNone = true ∧ (encR l.1).1.toList = b.toList then (l.1, none) else ([], some 3))
    else ([], some 3)
theorem decode_eq (b : ByteArray) : block_Decode.f b = some (decodeR b) := by
  unfold block_Decode.f decodeR pack_ReadNum.f
  rw [Option.bind_some]
  cases h1 : (readNum b).2.2 with
  | some e => rw [rdN_none h1, if_neg (by simp)]
  | none =>
    have h1' := rdN_some h1
    have hp := rdN_pos h1'
    rw [h1', if_pos (show (none : Option Int).isNone = true from rfl)]
    simp only at hp ⊢
    by_cases c : (readNum b).1 ≤ 200
    · have hz : (⟨#[]⟩ : ByteArray).size = 0 := rfl
      rw [if_pos c, if_pos c, decLoop_eq _ _ _ _ (by rw [hz]; omega) (by simp only [List.length_nil]; omega), Option.bind_some]
      cases h2 : decAll (readNum b).1.toNat (readNum b).2.1 ⟨#[]⟩ [] with
      | none => rfl
      | some l =>
        obtain ⟨l, rest⟩ := l
        simp only [Option.map_some]
        rw [encode_eq, Option.bind_some]
        split <;> rfl
    · rw [if_neg c, if_neg c]
/-! ## What was written is read -/
theorem pre_take : ∀ x y : List Int, x.take (pre x y) = y.take (pre x y)
  | [], y => by simp [pre]
  | a :: x, [] => by simp [pre]
  | a :: x, b :: y => by
    simp only [pre]
    split
    · rename_i h; subst h; rw [List.take_succ_cons, List.take_succ_cons, pre_take x y]
    · rfl
theorem key_back (last key : ByteArray) (n : Nat) (h : (bytesOf last).take n = (bytesOf key).take n) : last.extract 0 n ++ cutK key n = key := by
  apply bytesOf_inj
  unfold cutK
  rw [bytesOf_append, bytesOf_extract, bytesOf_extract, List.drop_zero, Nat.sub_zero, h, List.take_of_length_le (l := List.drop n (bytesOf key)) (by rw [List.length_drop, bytesOf_length]; omega), List.take_append_drop]
theorem decEnt_back (n : Nat) (e : Ent) (last rest : ByteArray) (hr : rightB e = true) (hn : n ≤ last.size) (hn2 : n ≤ 80) (hk : (bytesOf last).take n = (bytesOf e.f0).take n) : decEnt (strOfNums (entL n e) ++ rest) last = some (e, rest) := by
  obtain ⟨h1, h2, h3, h4, h5, h6⟩ := right_iff.1 hr
  obtain ⟨q, hq⟩ := Int.eq_ofNat_of_zero_le (show 0 ≤ e.f1 by omega)
  obtain ⟨k, sq, dr, v⟩ := e
  simp only at h1 h2 h3 h4 h5 h6 hq hk
  unfold decEnt entL
  simp only [SN_append, app_assoc]
  rw [rdN_num n (by omega), Option.bind_some]
  simp only
  rw [if_pos (by omega), rdT_text _ (by rw [cutK_size]; omega), Option.bind_some]
  simp only
  rw [hq, Int.toNat_natCast, rdN_num q (by omega), Option.bind_some]
  simp only
  cases dr with
  | true =>
    have hv : v = ⟨#[]⟩ := by
      have := h1 rfl
      exact toList_eq_iff.1 (this.trans (by rw [ByteArray.toList_eq]))
    rw [if_pos rfl, rdN_num 1 (by omega), Option.bind_some]
    simp only
    rw [if_neg (by decide), if_pos (show ((1 : Nat) : Int) = 1 from rfl), Int.toNat_natCast, key_back _ _ _ hk, hv]
  | false =>
    rw [if_neg (by simp)]
    simp only [SN_append, app_assoc]
    rw [rdN_num 0 (by omega), Option.bind_some]
    simp only
    rw [if_pos (show ((0 : Nat) : Int) = 0 from rfl), rdT_text _ (by omega), Option.bind_some, Int.toNat_natCast, key_back _ _ _ hk]
def lastK (l : List Ent) (i : Nat) : ByteArray := if i = 0 then ⟨#[]⟩ else (gt l (i - 1)).f0
theorem decAll_back (l : List Ent) (hs : sortedB l = true) (rest : ByteArray) : ∀ (m i : Nat) (acc : List Ent), i + m = l.length → decAll m (strOfNums (encFrom l m i) ++ rest) (lastK l i) acc = some (acc ++ l.drop i, rest) := by
  intro m
  induction m with
  | zero =>
    intro i acc hi
    simp only [decAll, encFrom]
    have e : (⟨#[]⟩ : ByteArray) ++ rest = rest := by apply bytesOf_inj; rw [bytesOf_append, bytesOf_nil, List.nil_append]
    rw [SN_nil, List.drop_eq_nil_of_le (by omega), List.append_nil, e]
  | succ m ih =>
    intro i acc hi
    have hr := (sAt_iff.1 (sortedB_iff.1 hs i (by omega))).1
    have hn := nAt_le l i hr
    simp only [decAll, encFrom]
    rw [SN_append, app_assoc]
    have hk : nAt l i ≤ (lastK l i).size ∧ (bytesOf (lastK l i)).take (nAt l i) = (bytesOf (gt l i).f0).take (nAt l i) := by
      unfold nAt lastK
      by_cases c : i % 4 = 0
      · rw [if_pos c]; exact ⟨Nat.zero_le _, by simp⟩
      · rw [if_neg c, if_neg (by omega)]
        exact ⟨(shN_le _ _).1, pre_take _ _⟩
    rw [decEnt_back _ _ _ _ hr hk.1 hn.2 hk.2, Option.bind_some]
    simp only
    have hl : (gt l i).f0 = lastK l (i + 1) := by unfold lastK; rw [if_neg (by omega), Nat.add_sub_cancel]
    rw [hl, ih (i + 1) _ (by omega), List.append_assoc]
    congr 3
    rw [List.drop_eq_getElem_cons (show i < l.length by omega), gt_get (show i < l.length by omega)]
    rfl
theorem dec_back (l : List Ent) (hs : sortedB l = true) (hl : l.length ≤ 200) (rest : ByteArray) : rdN (strOfNums (encL l) ++ rest) = some ((l.length : Int), strOfNums (encFrom l l.length 0) ++ rest) ∧ decAll l.length (strOfNums (encFrom l l.length 0) ++ rest) ⟨#[]⟩ [] = some (l, rest) := by
  constructor
  · unfold encL
    rw [SN_append, app_assoc, rdN_num _ (by omega)]
  · have := decAll_back l hs rest l.length 0 [] (by omega)
    rw [List.nil_append, List.drop_zero] at this
    exact this
theorem encR_ok (l : List Ent) (h : (encR l).2.isNone = true) : sortedB l = true ∧ l.length ≤ 200 ∧ encR l = (strOfNums (encL l), none) := by
  unfold encR at h ⊢
  by_cases c : 200 < l.length
  · rw [if_pos c] at h; cases h
  · rw [if_neg c] at h ⊢
    by_cases d : sortedB l = true
    · rw [if_pos d]; exact ⟨d, by omega, rfl⟩
    · rw [if_neg d] at h; cases h
theorem decode_back (l : List Ent) (hs : sortedB l = true) (hl : l.length ≤ 200) : decodeR (strOfNums (encL l)) = (l, none) := by
  obtain ⟨h1, h2⟩ := dec_back l hs hl ⟨#[]⟩
  rw [app_nil] at h1 h2
  unfold decodeR
  rw [h1]
  simp only
  rw [app_nil, if_pos (by omega), Int.toNat_natCast, h2]
  simp only
  have he : encR l = (strOfNums (encL l), none) := by unfold encR; rw [if_neg (by omega), if_pos hs]
  rw [he, if_pos ⟨rfl, rfl⟩]
theorem decode_ok {b : ByteArray} (h : (decodeR b).2.isNone = true) : sortedB (decodeR b).1 = true ∧ (decodeR b).1.length ≤ 200 ∧ strOfNums (encL (decodeR b).1) = b ∧ decodeR b = ((decodeR b).1, none) := by
  unfold decodeR at h ⊢
  cases h1 : rdN b with
  | none => rw [h1] at h; cases h
  | some r =>
    rw [h1] at h
    simp only at h ⊢
    by_cases c : r.1 ≤ 200
    · rw [if_pos c] at h ⊢
      cases h2 : decAll r.1.toNat r.2 ⟨#[]⟩ [] with
      | none => rw [h2] at h; cases h
      | some l =>
        rw [h2] at h
        simp only at h ⊢
        by_cases d : (encR l.1).2.isNone = true ∧ (encR l.1).1.toList = b.toList
        · rw [if_pos d]
          obtain ⟨hs, hl, he⟩ := encR_ok l.1 d.1
          refine ⟨hs, hl, ?_, rfl⟩
          have := d.2
          rw [he] at this
          exact toList_eq_iff.1 this
        · rw [if_neg d] at h; cases h
    · rw [if_neg c] at h; cases h
theorem decode_bad {b : ByteArray} (h : ¬ (decodeR b).2.isNone = true) : decodeR b = ([], some 3) := by
  unfold decodeR at h ⊢
  cases h1 : rdN b with
  | none => rfl
  | some r =>
    rw [h1] at h
    simp only at h ⊢
    by_cases c : r.1 ≤ 200
    · rw [if_pos c] at h ⊢
      cases h2 : decAll r.1.toNat r.2 ⟨#[]⟩ [] with
      | none => rfl
      | some l =>
        rw [h2] at h
        simp only at h ⊢
        by_cases d : (encR l.1).2.isNone = true ∧ (encR l.1).1.toList = b.toList
        · rw [if_pos d] at h; exact absurd rfl h
        · rw [if_neg d]
    · rw [if_neg c]
/-- No block begins with another one. -/
theorem enc_prefix {l m : List Ent} (hl : sortedB l = true) (hm : sortedB m = true) (h1 : l.length ≤ 200) (h2 : m.length ≤ 200) {rest : ByteArray} (h : strOfNums (encL l) ++ rest = strOfNums (encL m)) : rest = ⟨#[]⟩ := by
  obtain ⟨a1, a2⟩ := dec_back l hl h1 rest
  obtain ⟨b1, b2⟩ := dec_back m hm h2 ⟨#[]⟩
  rw [app_nil] at b1
  rw [h, b1] at a1
  have e := Option.some.inj a1
  have e1 : m.length = l.length := by have := congrArg Prod.fst e; simp only at this; omega
  have e2 := congrArg Prod.snd e
  simp only at e2
  rw [← e2, ← e1, b2] at a2
  have := congrArg Prod.snd (Option.some.inj a2)
  exact this.symm
end Go.Proofs.Ytgfgdpmpbpofbaa.Print
