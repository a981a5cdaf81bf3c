import Derived.Test.YtmmhdoaepdlmcaaPackText
import Derived.Test.YtmmhdoaepdlmcaaHFrameSum
import Derived.Test.YtmmhdoaepdlmcaaHFrameFour
import Derived.Test.YtmmhdoaepdlmcaaPrint4
import Derived.Test.YtmmhdoaepdlmcaaPrint7
namespace Go.Proofs.Ytmmhdoaepdlmcaa.Print
open Go.RowKit Go.Proofs.YtmmhdoaepdlmcaaX Go.Proofs.YtmmhdoaepdlmcaaW.PrintWords Go.Proofs.YtmmhdoaepdlmcaaW.PrintLast
set_option linter.unusedVariables false
set_option linter.unusedSimpArgs false

/-! ## One bit's step, over natural numbers -/
def stN (n : Nat) : Nat := if n % 2 = 1 then (n / 2) ^^^ 2197175160 else n / 2
def stsN : Nat → Nat → Nat
  | 0, n => n
  | k + 1, n => stsN k (stN n)
theorem xor_lt32 {a b : Nat} (ha : a < 4294967296) (hb : b < 4294967296) : a ^^^ b < 4294967296 := Nat.xor_lt_two_pow (n := 32) ha hb
theorem stN_lt {n : Nat} (h : n < 4294967296) : stN n < 4294967296 := by
  unfold stN
  split
  · exact xor_lt32 (by omega) (by decide)
  · omega
theorem stsN_lt (k : Nat) : ∀ {n : Nat}, n < 4294967296 → stsN k n < 4294967296 := by
  induction k with
  | zero => exact fun h => h
  | succ k ih => exact fun h => ih (stN_lt h)
theorem bits_xor (a b : Nat) (ha : a < 4294967296) (hb : b < 4294967296) : bits .xor .u32 (a : Int) (b : Int) = ((a ^^^ b : Nat) : Int) := by
  have h : bits .xor .u32 (a : Int) (b : Int) = IntKind.u32.wrap (((a : Int) % 2 ^ 32).toNat ^^^ ((b : Int) % 2 ^ 32).toNat : Nat) := rfl
  have e1 : ((a : Int) % 2 ^ 32).toNat = a := by omega
  have e2 : ((b : Int) % 2 ^ 32).toNat = b := by omega
  have := xor_lt32 ha hb
  rw [h, e1, e2, IntKind.wrap_u32]
  omega
theorem bits_xor8 (a b : Nat) (ha : a < 256) (hb : b < 256) : bits .xor .u8 (a : Int) (b : Int) = ((a ^^^ b : Nat) : Int) := by
  have h : bits .xor .u8 (a : Int) (b : Int) = IntKind.u8.wrap (((a : Int) % 2 ^ 8).toNat ^^^ ((b : Int) % 2 ^ 8).toNat : Nat) := rfl
  have e1 : ((a : Int) % 2 ^ 8).toNat = a := by omega
  have e2 : ((b : Int) % 2 ^ 8).toNat = b := by omega
  have : a ^^^ b < 256 := Nat.xor_lt_two_pow (n := 8) ha hb
  rw [h, e1, e2, IntKind.wrap_u8]
  omega
theorem bits_and (a b : Nat) (ha : a < 4294967296) (hb : b < 4294967296) : bits .and .u32 (a : Int) (b : Int) = ((a &&& b : Nat) : Int) := by
  have h : bits .and .u32 (a : Int) (b : Int) = IntKind.u32.wrap (((a : Int) % 2 ^ 32).toNat &&& ((b : Int) % 2 ^ 32).toNat : Nat) := rfl
  have e1 : ((a : Int) % 2 ^ 32).toNat = a := by omega
  have e2 : ((b : Int) % 2 ^ 32).toNat = b := by omega
  have : a &&& b ≤ a := Nat.and_le_left
  rw [h, e1, e2, IntKind.wrap_u32]
  omega
theorem tstep_nat (n : Nat) (h : n < 4294967296) : tstep (n : Int) = (stN n : Int) := by
  unfold tstep stN
  have h1 := bits_and n 1 h (by decide)
  rw [show ((1 : Nat) : Int) = 1 from rfl, Nat.and_one_is_mod] at h1
  rw [h1]
  have hd : (n : Int) / 2 = ((n / 2 : Nat) : Int) := by omega
  by_cases c : n % 2 = 1
  · rw [if_pos c, c]
    have h2 := bits_and 2197175160 4294967295 (by decide) (by decide)
    have e : (-((1 : Nat) : Int)) % 4294967296 = ((4294967295 : Nat) : Int) := by decide
    rw [e, show (2197175160 : Int) = ((2197175160 : Nat) : Int) from rfl, h2, hd, bits_xor _ _ (by omega) (by decide)]
    rfl
  · rw [if_neg c, show n % 2 = 0 by omega]
    have h2 := bits_and 2197175160 0 (by decide) (by decide)
    have e : (-((0 : Nat) : Int)) % 4294967296 = ((0 : Nat) : Int) := by decide
    rw [e, show (2197175160 : Int) = ((2197175160 : Nat) : Int) from rfl, h2, hd, bits_xor _ _ (by omega) (by decide)]
    simp
theorem tsteps_nat (k : Nat) : ∀ (n : Nat), n < 4294967296 → tsteps k (n : Int) = (stsN k n : Int) := by
  induction k with
  | zero => exact fun _ _ => rfl
  | succ k ih =>
    intro n h
    show tsteps k (tstep (n : Int)) = _
    rw [tstep_nat n h, ih _ (stN_lt h)]
    rfl
theorem xor_mod2 (a b : Nat) : (a ^^^ b) % 2 = (a % 2 + b % 2) % 2 := by
  have := Nat.testBit_xor a b 0
  simp only [Nat.testBit_zero] at this
  have ha : a % 2 = 0 ∨ a % 2 = 1 := by omega
  have hb : b % 2 = 0 ∨ b % 2 = 1 := by omega
  have hc : (a ^^^ b) % 2 = 0 ∨ (a ^^^ b) % 2 = 1 := by omega
  rcases ha with ha | ha <;> rcases hb with hb | hb <;> rcases hc with hc | hc <;> simp_all
theorem xor_div2 (a b : Nat) : (a ^^^ b) / 2 = (a / 2) ^^^ (b / 2) := by
  apply Nat.eq_of_testBit_eq
  intro i
  rw [Nat.testBit_div_two, Nat.testBit_xor, Nat.testBit_xor, Nat.testBit_div_two, Nat.testBit_div_two]
theorem stN_xor (a b : Nat) : stN (a ^^^ b) = stN a ^^^ stN b := by
  unfold stN
  rw [xor_mod2, xor_div2]
  have ha : a % 2 = 0 ∨ a % 2 = 1 := by omega
  have hb : b % 2 = 0 ∨ b % 2 = 1 := by omega
  rcases ha with ha | ha <;> rcases hb with hb | hb <;> rw [ha, hb] <;> simp
  · rw [Nat.xor_assoc]
  · rw [Nat.xor_assoc, Nat.xor_assoc, Nat.xor_comm 2197175160 (b / 2)]
  · rw [Nat.xor_assoc, ← Nat.xor_assoc 2197175160 (b / 2) 2197175160, Nat.xor_comm 2197175160 (b / 2), Nat.xor_assoc (b / 2), Nat.xor_self, Nat.xor_zero]
theorem stsN_xor (k : Nat) : ∀ (a b : Nat), stsN k (a ^^^ b) = stsN k a ^^^ stsN k b := by
  induction k with
  | zero => exact fun _ _ => rfl
  | succ k ih => intro a b; show stsN k (stN (a ^^^ b)) = _; rw [stN_xor, ih]; rfl
theorem stsN_high (k : Nat) : ∀ x : Nat, stsN k (x * 2 ^ k) = x := by
  induction k with
  | zero => intro x; simp [stsN]
  | succ k ih =>
    intro x
    show stsN k (stN (x * 2 ^ (k + 1))) = x
    have e : x * 2 ^ (k + 1) = 2 * (x * 2 ^ k) := by rw [Nat.pow_succ, ← Nat.mul_assoc, Nat.mul_comm]
    have : stN (x * 2 ^ (k + 1)) = x * 2 ^ k := by
      unfold stN
      rw [e, if_neg (by omega)]
      omega
    rw [this, ih]
theorem split8 (v : Nat) : v = (v / 256 * 2 ^ 8) ^^^ (v % 256) := by
  apply Nat.eq_of_testBit_eq
  intro i
  rw [Nat.testBit_xor, Nat.testBit_mul_two_pow, show (256 : Nat) = 2 ^ 8 from rfl, Nat.testBit_mod_two_pow, Nat.testBit_div_two_pow]
  by_cases h : i < 8
  · simp [h, show ¬ 8 ≤ i by omega]
  · simp [h, show 8 ≤ i by omega]
theorem sts8 (v : Nat) : stsN 8 v = (v / 256) ^^^ stsN 8 (v % 256) := by
  conv => lhs; rw [split8 v]
  rw [stsN_xor, stsN_high]
theorem stN_inj {a b : Nat} (ha : a < 4294967296) (hb : b < 4294967296) (h : stN a = stN b) : a = b := by
  have hx : stN (a ^^^ b) = 0 := by rw [stN_xor, h, Nat.xor_self]
  have hlt := xor_lt32 ha hb
  have : a ^^^ b = 0 := by
    generalize a ^^^ b = n at hx hlt
    unfold stN at hx
    by_cases c : n % 2 = 1
    · rw [if_pos c] at hx
      have e : n / 2 = 2197175160 := by
        have h2 : (n / 2) ^^^ 2197175160 ^^^ 2197175160 = 0 ^^^ 2197175160 := by rw [hx]
        rw [Nat.xor_assoc, Nat.xor_self, Nat.xor_zero, Nat.zero_xor] at h2
        exact h2
      omega
    · rw [if_neg c] at hx
      omega
  have h2 : (a ^^^ b) ^^^ b = 0 ^^^ b := by rw [this]
  rw [Nat.xor_assoc, Nat.xor_self, Nat.xor_zero, Nat.zero_xor] at h2
  exact h2
theorem stsN_inj (k : Nat) : ∀ {a b : Nat}, a < 4294967296 → b < 4294967296 → stsN k a = stsN k b → a = b := by
  induction k with
  | zero => exact fun _ _ h => h
  | succ k ih => exact fun ha hb h => stN_inj ha hb (ih (stN_lt ha) (stN_lt hb) h)

/-! ## Sums -/
def sumN (s : ByteArray) : Nat → Nat
  | 0 => 4294967295
  | k + 1 => stsN 8 (sumN s k ^^^ (bt s k).toNat)
theorem bt_nat (s : ByteArray) (i : Int) : (((bt s i).toNat : Nat) : Int) = bt s i ∧ (bt s i).toNat < 256 := by
  have := bt_range s i
  omega
theorem sumN_lt (s : ByteArray) (k : Nat) : sumN s k < 4294967296 := by
  induction k with
  | zero => show 4294967295 < 4294967296; omega
  | succ k ih => exact stsN_lt 8 (xor_lt32 ih (by have := bt_nat s k; omega))
theorem sumTo_nat (s : ByteArray) (k : Nat) : sumTo s k = (sumN s k : Int) := by
  induction k with
  | zero => rfl
  | succ k ih =>
    have hb := bt_nat s (k : Int)
    have hl := sumN_lt s k
    simp only [sumTo, sumN]
    rw [ih, ← hb.1, show (sumN s k : Int) % 256 = ((sumN s k % 256 : Nat) : Int) by omega, bits_xor8 _ _ (by omega) hb.2]
    simp only [Int.toNat_natCast]
    have hx : (sumN s k % 256) ^^^ (bt s k).toNat < 256 := Nat.xor_lt_two_pow (n := 8) (by omega) hb.2
    unfold tab
    rw [tsteps_nat 8 _ (by omega), show (sumN s k : Int) / 256 = ((sumN s k / 256 : Nat) : Int) by omega, bits_xor _ _ (by omega) (stsN_lt 8 (by omega))]
    congr 1
    rw [sts8 (sumN s k ^^^ (bt s k).toNat)]
    have d : (sumN s k ^^^ (bt s k).toNat) / 256 = sumN s k / 256 := by
      rw [show (256 : Nat) = 2 ^ 8 from rfl, Nat.xor_div_two_pow]
      rw [Nat.div_eq_of_lt (a := (bt s k).toNat) (by omega), Nat.xor_zero]
    have m : (sumN s k ^^^ (bt s k).toNat) % 256 = (sumN s k % 256) ^^^ (bt s k).toNat := by
      rw [show (256 : Nat) = 2 ^ 8 from rfl, Nat.xor_mod_two_pow]
      rw [Nat.mod_eq_of_lt (a := (bt s k).toNat) (by omega)]
    rw [d, m]
def sumR (s : ByteArray) : Int := bits .xor .u32 4294967295 (sumTo s s.size)
theorem sumR_nat (s : ByteArray) : sumR s = ((4294967295 ^^^ sumN s s.size : Nat) : Int) := by
  unfold sumR
  rw [sumTo_nat]
  exact bits_xor 4294967295 _ (by decide) (sumN_lt s _)
theorem sumR_range (s : ByteArray) : 0 ≤ sumR s ∧ sumR s < 4294967296 := by
  have := xor_lt32 (a := 4294967295) (b := sumN s s.size) (by decide) (sumN_lt s _)
  rw [sumR_nat]
  omega
theorem sum_eq (s : ByteArray) (h : s.size ≤ 9223372036854775807) : frame_Sum.f s = some (sumR s) := by unfold frame_Sum.f; rw [if_pos h]; rfl
theorem sumR_inj {a b : ByteArray} (h : sumR a = sumR b) : sumN a a.size = sumN b b.size := by
  rw [sumR_nat, sumR_nat] at h
  have h1 : 4294967295 ^^^ (4294967295 ^^^ sumN a a.size) = 4294967295 ^^^ (4294967295 ^^^ sumN b b.size) := by rw [Int.ofNat_inj.1 h]
  rw [← Nat.xor_assoc, ← Nat.xor_assoc, Nat.xor_self, Nat.zero_xor, Nat.zero_xor] at h1
  exact h1

/-! ## Frames -/
def fourS (v : Int) : ByteArray := strOfNums (fourL v)
theorem fourS_size (v : Int) : (fourS v).size = 4 := by unfold fourS fourL; rw [size_strOfNums]; rfl
theorem four_eq (v : Int) : frame_four.f v = some (fourS v) := rfl
def putR (s : ByteArray) : ByteArray × Option Int := if 1048576 < s.size then (⟨#[]⟩, some 5) else (strOfNums (numL s.size) ++ s ++ fourS (sumR s), none)
theorem append_size (a b : ByteArray) : (a ++ b).size = a.size + b.size := ByteArray.size_append
theorem put_ev (s : ByteArray) (h : s.size ≤ 140737488351232) : ∃ K, ∀ k, K ≤ k → frame_Put.f k s = some (putR s) := by
  obtain ⟨K, hK⟩ := text_ev s
  refine ⟨K, fun k hk => ?_⟩
  unfold frame_Put.f putR
  rw [hK k hk]
  unfold textR
  by_cases c : 1048576 < s.size
  · rw [if_pos c, if_pos c]
    simp
  · rw [if_neg c, if_neg c]
    have hz := textL_size s
    have hb := bsize_text (n := s.size) (by omega)
    simp only [Option.bind_some, Option.isNone_none, if_true]
    rw [sum_eq s (by omega)]
    simp only [Option.bind_some]
    rw [four_eq]
    simp only [Option.bind_some]
    rw [fourS_size, if_pos (by omega)]
def takeR (b : ByteArray) : ByteArray × ByteArray × Option Int :=
  match (readText b).2.2 with
  | some e => (⟨#[]⟩, ⟨#[]⟩, some e)
  | none => if (readText b).2.1.size < 4 then (⟨#[]⟩, ⟨#[]⟩, some 2) else if (readText b).2.1.extract 0 4 = fourS (sumR (readText b).1) then ((readText b).1, (readText b).2.1.extract 4 (readText b).2.1.size, none) else (⟨#[]⟩, ⟨#[]⟩, some 4)
/-- What may come of reading a text. -/
theorem readText_cases (b : ByteArray) : (∃ e, readText b = (⟨#[]⟩, ⟨#[]⟩, some e) ∧ (e = 2 ∨ e = 3 ∨ e = 5)) ∨ ∃ s rest, s.size ≤ 1048576 ∧ readText b = (s, rest, none) ∧ strOfNums (numL s.size) ++ s ++ rest = b := by
  unfold readText
  rcases readNum_cases b with ⟨e, he, hee⟩ | ⟨n, rest, hn, he, hr⟩
  · rw [he]
    exact .inl ⟨e, rfl, by omega⟩
  · rw [he]
    simp only
    by_cases c1 : 1048576 < (n : Int)
    · rw [if_pos c1]
      exact .inl ⟨5, rfl, by omega⟩
    · rw [if_neg c1]
      by_cases c2 : (rest.size : Int) < (n : Int)
      · rw [if_pos c2]
        exact .inl ⟨2, rfl, by omega⟩
      · rw [if_neg c2, Int.toNat_natCast]
        have hz : (rest.extract 0 n).size = n := by rw [ByteArray.size_extract]; omega
        refine .inr ⟨_, _, by omega, rfl, ?_⟩
        rw [hz, ← hr]
        apply bytesOf_inj
        simp only [bytesOf_append, bytesOf_extract, List.append_assoc, List.drop_zero, Nat.sub_zero]
        congr 1
        rw [List.take_of_length_le (l := List.drop n (bytesOf rest)) (by rw [List.length_drop, bytesOf_length]; omega), List.take_append_drop]
theorem take_eq (b : ByteArray) (h : b.size ≤ 9223372036854775807) : frame_Take.f b = some (takeR b) := by
  unfold frame_Take.f takeR
  rw [readText_eq]
  simp only [Option.bind_some]
  rcases readText_cases b with ⟨e, he, _⟩ | ⟨s, rest, hs, he, hr⟩
  · rw [he]; simp
  · rw [he]
    simp only [Option.isNone_none, if_true]
    by_cases c : rest.size < 4
    · rw [if_pos (by omega), if_pos c]
    · rw [if_neg (by omega), if_neg c, if_pos (by omega), if_pos (by omega), sum_eq s (by omega)]
      simp only [Option.bind_some]
      rw [four_eq]
      simp only [Option.bind_some]
      by_cases q : rest.extract 0 4 = fourS (sumR s)
      · rw [if_pos q, if_pos (toList_eq_iff.2 q)]
      · rw [if_neg q, if_neg (fun h => q (toList_eq_iff.1 h))]
theorem takeR_put (s : ByteArray) (h : s.size ≤ 1048576) (behind : ByteArray) : takeR (strOfNums (numL s.size) ++ s ++ fourS (sumR s) ++ behind) = (s, behind, none) := by
  have e : strOfNums (numL s.size) ++ s ++ fourS (sumR s) ++ behind = strOfNums (numL s.size) ++ s ++ (fourS (sumR s) ++ behind) := by
    apply bytesOf_inj
    simp only [bytesOf_append, List.append_assoc]
  have h4 := fourS_size (sumR s)
  have hl : (bytesOf (fourS (sumR s))).length = 4 := by rw [bytesOf_length, h4]
  rw [e]
  unfold takeR
  rw [readText_text s h]
  simp only
  have hz : (fourS (sumR s) ++ behind).size = 4 + behind.size := by rw [append_size, h4]
  have e1 : (fourS (sumR s) ++ behind).extract 0 4 = fourS (sumR s) := by
    apply bytesOf_inj
    rw [bytesOf_extract, bytesOf_append, List.drop_zero, Nat.sub_zero, ← hl, List.take_left]
  have e2 : (fourS (sumR s) ++ behind).extract 4 (4 + behind.size) = behind := by
    apply bytesOf_inj
    rw [bytesOf_extract, bytesOf_append, ← hl, List.drop_left, List.take_of_length_le (by rw [bytesOf_length, hl]; omega)]
  rw [hz, if_neg (by omega), e1, if_pos rfl, e2]
theorem takeR_cases (b : ByteArray) : (∃ e, takeR b = (⟨#[]⟩, ⟨#[]⟩, some e) ∧ e ≠ 0) ∨ ∃ s rest, s.size ≤ 1048576 ∧ takeR b = (s, rest, none) ∧ strOfNums (numL s.size) ++ s ++ fourS (sumR s) ++ rest = b := by
  unfold takeR
  rcases readText_cases b with ⟨e, he, hee⟩ | ⟨s, rest, hs, he, hr⟩
  · rw [he]
    exact .inl ⟨e, rfl, by omega⟩
  · rw [he]
    simp only
    by_cases c : rest.size < 4
    · rw [if_pos c]
      exact .inl ⟨2, rfl, by omega⟩
    · rw [if_neg c]
      by_cases q : rest.extract 0 4 = fourS (sumR s)
      · rw [if_pos q]
        refine .inr ⟨s, _, hs, rfl, ?_⟩
        rw [← q, ← hr]
        apply bytesOf_inj
        simp only [bytesOf_append, bytesOf_extract, List.append_assoc, List.drop_zero, Nat.sub_zero]
        congr 2
        rw [List.take_of_length_le (l := List.drop 4 (bytesOf rest)) (by rw [List.length_drop, bytesOf_length]; omega), List.take_append_drop]
      · rw [if_neg q]
        exact .inl ⟨4, rfl, by omega⟩
end Go.Proofs.Ytmmhdoaepdlmcaa.Print
