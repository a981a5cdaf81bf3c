/- A frame with some of up to 32 bits in a row of its text turned, the first one among them, tells that its sum is another one: for all arguments that the row lets in (texts of 1 to 2000 bytes; any other text: the chapter's examples alone). -/
import Derived.Test.YtmmhdoaepdlmcaaFrameEx
import Derived.Test.YtmmhdoaepdlmcaaHFrameBits
namespace Go.Proofs.Ytmmhdoaepdlmcaa.Pure
open Go.RowKit Go.Proofs.Ytmmhdoaepdlmcaa.Print Go.Proofs.YtmmhdoaepdlmcaaX Go.Proofs.YtmmhdoaepdlmcaaW.PrintWords Go.Proofs.YtmmhdoaepdlmcaaW.PrintLast
set_option linter.unusedVariables false
set_option linter.unusedSimpArgs false

theorem stsN_add (a : Nat) : ∀ (b x : Nat), stsN (a + b) x = stsN b (stsN a x) := by
  induction a with
  | zero => intro b x; rw [Nat.zero_add]; rfl
  | succ a ih => intro b x; rw [show a + 1 + b = (a + b) + 1 by omega]; exact ih b (stN x)
theorem stsN_zero (k : Nat) : stsN k 0 = 0 := by
  induction k with
  | zero => rfl
  | succ k ih => exact ih
theorem xor_div256 (a b k : Nat) : (a ^^^ b) / 2 ^ k % 256 = (a / 2 ^ k % 256) ^^^ (b / 2 ^ k % 256) := by
  rw [Nat.xor_div_two_pow, show (256 : Nat) = 2 ^ 8 from rfl, Nat.xor_mod_two_pow]
theorem bit_byte (m k : Nat) : 2 ^ m / 2 ^ (8 * k) % 256 = if k = m / 8 then 2 ^ (m % 8) else 0 := by
  apply Nat.eq_of_testBit_eq
  intro i
  rw [show (256 : Nat) = 2 ^ 8 from rfl, Nat.testBit_mod_two_pow, Nat.testBit_div_two_pow, Nat.testBit_two_pow]
  split
  · rw [Nat.testBit_two_pow]
    by_cases c : m % 8 = i
    · subst c
      simp only [decide_true, Bool.and_eq_true, decide_eq_true_eq]
      omega
    · rw [decide_eq_false c]
      simp only [Bool.and_eq_false_iff, decide_eq_false_iff_not]
      omega
  · rw [Nat.zero_testBit]
    simp only [Bool.and_eq_false_iff, decide_eq_false_iff_not]
    omega
theorem split_mod (E k : Nat) : E % 2 ^ (8 * (k + 1)) = (E / 2 ^ (8 * k) % 256 * 2 ^ (8 * k)) ^^^ (E % 2 ^ (8 * k)) := by
  apply Nat.eq_of_testBit_eq
  intro i
  rw [Nat.testBit_xor, Nat.testBit_mul_two_pow, show (256 : Nat) = 2 ^ 8 from rfl, Nat.testBit_mod_two_pow, Nat.testBit_mod_two_pow, Nat.testBit_mod_two_pow, Nat.testBit_div_two_pow]
  by_cases h : i < 8 * k
  · simp [h, show ¬ 8 * k ≤ i by omega, show i < 8 * (k + 1) by omega]
  · by_cases h2 : i < 8 * (k + 1)
    · simp [h, h2, show 8 * k ≤ i by omega, show i - 8 * k < 8 by omega, show i - 8 * k + 8 * k = i by omega]
    · simp [h, h2, show 8 * k ≤ i by omega, show ¬ i - 8 * k < 8 by omega]
/-- What turned bits make of a row of bytes, as one number. -/
theorem flips_num (H T z0 : List Int) (p : Nat) (hz : ∀ x ∈ z0, 0 ≤ x ∧ x < 256) : ∀ (n : Nat) (xs : List Int), p + n ≤ 8 * z0.length → Flips H.length p (H ++ z0 ++ T) n xs →
    ∃ (zs : List Int) (e : Nat), xs = H ++ zs ++ T ∧ zs.length = z0.length ∧ (∀ x ∈ zs, 0 ≤ x ∧ x < 256) ∧ e < 2 ^ n ∧ (1 ≤ n → e ≠ 0) ∧ ∀ k, k < z0.length → (zs.getD k 0).toNat = (z0.getD k 0).toNat ^^^ ((e * 2 ^ p) / 2 ^ (8 * k) % 256) := by
  intro n
  induction n with
  | zero =>
    intro xs hp hx
    refine ⟨z0, 0, hx, rfl, hz, by simp, by omega, fun k hk => ?_⟩
    rw [Nat.zero_mul, Nat.zero_div, Nat.zero_mod, Nat.xor_zero]
  | succ n ih =>
    intro xs hp ⟨ys, hy, hx⟩
    obtain ⟨zs, e, rfl, hl, hr, he, hne, hb⟩ := ih ys (by omega) hy
    have hpow : (2 : Nat) ^ (n + 1) = 2 ^ n * 2 := Nat.pow_succ ..
    rcases hx with rfl | ⟨hn, rfl⟩
    · have hj : (p + n) / 8 < zs.length := by omega
      have hex : e + 2 ^ n = (1 * 2 ^ n) ^^^ e := by
        rw [Nat.one_mul]
        apply Nat.eq_of_testBit_eq
        intro i
        rw [Nat.add_comm, Nat.testBit_xor, Nat.testBit_two_pow]
        by_cases c : n = i
        · subst c
          rw [Nat.testBit_two_pow_add_eq, Nat.testBit_lt_two_pow he]; simp
        · by_cases c2 : i < n
          · rw [Nat.testBit_two_pow_add_gt c2]; simp [c]
          · have h1 : (2 ^ n + e) < 2 ^ i := by
              have : 2 ^ (n + 1) ≤ 2 ^ i := Nat.pow_le_pow_right (by omega) (by omega)
              omega
            have h2 : e < 2 ^ i := by omega
            rw [Nat.testBit_lt_two_pow h1, Nat.testBit_lt_two_pow h2]; simp [c]
      have hmem : 0 ≤ zs.getD ((p + n) / 8) 0 ∧ zs.getD ((p + n) / 8) 0 < 256 := by
        rw [List.getD_eq_getElem?_getD, List.getElem?_eq_getElem hj]
        exact hr _ (List.getElem_mem hj)
      have hg : (H ++ zs ++ T).getD (H.length + (p + n) / 8) 0 = zs.getD ((p + n) / 8) 0 := by
        rw [List.getD_eq_getElem?_getD, List.getD_eq_getElem?_getD, List.append_assoc, List.getElem?_append_right (by omega), Nat.add_sub_cancel_left, List.getElem?_append_left hj]
      have hs : (H ++ zs ++ T).set (H.length + (p + n) / 8) (bits .xor .u8 ((H ++ zs ++ T).getD (H.length + (p + n) / 8) 0) (2 ^ ((p + n) % 8))) = H ++ zs.set ((p + n) / 8) (bits .xor .u8 (zs.getD ((p + n) / 8) 0) (2 ^ ((p + n) % 8))) ++ T := by
        rw [hg, List.append_assoc, List.set_append_right _ _ (by omega), Nat.add_sub_cancel_left, List.set_append_left _ _ hj, List.append_assoc]
      have hpw : 2 ^ ((p + n) % 8) < 256 := by
        have : 2 ^ ((p + n) % 8) ≤ 2 ^ 7 := Nat.pow_le_pow_right (by omega) (by omega)
        omega
      have hv : bits .xor .u8 (zs.getD ((p + n) / 8) 0) (2 ^ ((p + n) % 8)) = (((zs.getD ((p + n) / 8) 0).toNat ^^^ 2 ^ ((p + n) % 8) : Nat) : Int) := by
        rw [← bits_xor8 _ _ (by omega) hpw]
        congr 1
        first | omega | rw [Int.natCast_pow]
        try omega
      have hlt : (zs.getD ((p + n) / 8) 0).toNat ^^^ 2 ^ ((p + n) % 8) < 256 := Nat.xor_lt_two_pow (n := 8) (by omega) hpw
      refine ⟨zs.set ((p + n) / 8) (bits .xor .u8 (zs.getD ((p + n) / 8) 0) (2 ^ ((p + n) % 8))), e + 2 ^ n, hs, by rw [List.length_set, hl], ?_, by omega, fun _ => by have := Nat.two_pow_pos n; omega, ?_⟩
      · intro x hx
        rcases List.mem_or_eq_of_mem_set hx with hx | rfl
        · exact hr x hx
        · rw [hv]; omega
      · intro k hk
        have hmul : (e + 2 ^ n) * 2 ^ p = (e * 2 ^ p) ^^^ 2 ^ (p + n) := by
          rw [hex, Nat.one_mul]
          apply Nat.eq_of_testBit_eq
          intro i
          rw [Nat.testBit_mul_two_pow, Nat.testBit_xor, Nat.testBit_xor, Nat.testBit_mul_two_pow, Nat.testBit_two_pow, Nat.testBit_two_pow]
          by_cases c : p ≤ i
          · rw [decide_eq_true c, Bool.true_and, Bool.true_and, show decide (n = i - p) = decide (p + n = i) by (congr 1; apply propext; omega), Bool.xor_comm]
          · rw [decide_eq_false c, Bool.false_and, Bool.false_and, show decide (p + n = i) = false by (apply decide_eq_false; omega)]
            rfl
        rw [hmul, xor_div256, bit_byte, ← Nat.xor_assoc, ← hb k hk]
        by_cases c : k = (p + n) / 8
        · subst c
          rw [if_pos rfl, List.getD_eq_getElem?_getD, List.getElem?_set_self hj]
          rw [hv]
          simp only [Option.getD_some, Int.toNat_natCast]
        · rw [if_neg c, Nat.xor_zero, List.getD_eq_getElem?_getD, List.getElem?_set_ne (Ne.symm c), ← List.getD_eq_getElem?_getD]
    · refine ⟨zs, e, rfl, hl, hr, by omega, fun _ => hne (by omega), hb⟩
/-- The sum of bytes that differ by a number. -/
theorem sum_differ (s t : ByteArray) (E : Nat) (h : ∀ k : Nat, k < s.size → (bt t (k : Int)).toNat = (bt s (k : Int)).toNat ^^^ (E / 2 ^ (8 * k) % 256)) : ∀ k, k ≤ s.size → sumN s k ^^^ sumN t k = stsN (8 * k) (E % 2 ^ (8 * k)) := by
  intro k
  induction k with
  | zero =>
    intro _
    show 4294967295 ^^^ 4294967295 = E % 2 ^ 0
    rw [Nat.xor_self, Nat.pow_zero, Nat.mod_one]
  | succ k ih =>
    intro hk
    have i1 := ih (by omega)
    show stsN 8 (sumN s k ^^^ (bt s (k : Int)).toNat) ^^^ stsN 8 (sumN t k ^^^ (bt t (k : Int)).toNat) = _
    have R : stsN (8 * k + 8) ((E / 2 ^ (8 * k) % 256 * 2 ^ (8 * k)) ^^^ (E % 2 ^ (8 * k))) = stsN 8 ((E / 2 ^ (8 * k) % 256) ^^^ stsN (8 * k) (E % 2 ^ (8 * k))) := by rw [stsN_add, stsN_xor (8 * k), stsN_high]
    rw [split_mod, show 8 * (k + 1) = 8 * k + 8 by omega, R, ← i1, ← stsN_xor, h k (by omega)]
    congr 1
    generalize sumN s k = a, sumN t k = b, (bt s (k : Int)).toNat = c, E / 2 ^ (8 * k) % 256 = d
    rw [show a ^^^ c ^^^ (b ^^^ (c ^^^ d)) = (c ^^^ c) ^^^ (d ^^^ (a ^^^ b)) by ac_rfl, Nat.xor_self, Nat.zero_xor]
theorem four_inj {v w : Nat} (hv : v < 4294967296) (hw : w < 4294967296) (h : fourS (v : Int) = fourS (w : Int)) : v = w := by
  have r (x : Nat) : ∀ y ∈ fourL (x : Int), 0 ≤ y ∧ y < 256 := by
    intro y hy
    simp only [fourL, List.mem_cons, List.not_mem_nil, or_false] at hy
    omega
  have h1 := congrArg bytesOf h
  unfold fourS at h1
  rw [bytesOf_strOfNums (r v), bytesOf_strOfNums (r w)] at h1
  simp only [fourL, List.cons.injEq, and_true] at h1
  omega
/-- A frame with such bits turned. -/
theorem take_flipped (s : ByteArray) (p n : Nat) (xs : List Int) (hs : s.size ≤ 2000) (h1 : 1 ≤ n) (h2 : n ≤ 32) (hp : p + n ≤ 8 * s.size) (hx : Flips (bsize s.size + 1) p (bytesOf (strOfNums (numL s.size) ++ s ++ fourS (sumR s))) n xs) : takeR (strOfNums xs) = (⟨#[]⟩, ⟨#[]⟩, some 4) := by
  have hzs : ∀ x ∈ bytesOf s, 0 ≤ x ∧ x < 256 := bytesOf_range s
  rw [bytesOf_append, bytesOf_append, bytesOf_num (by omega), ← numL_length] at hx
  obtain ⟨zs, e, rfl, hl, hr, he, hne, hb⟩ := flips_num (numL s.size) (bytesOf (fourS (sumR s))) (bytesOf s) p hzs n xs (by rw [bytesOf_length]; exact hp) hx
  obtain ⟨t, ht⟩ : ∃ t, t = strOfNums zs := ⟨_, rfl⟩
  have htb : bytesOf t = zs := by rw [ht]; exact bytesOf_strOfNums hr
  have hts : t.size = s.size := by rw [← bytesOf_length, htb, hl, bytesOf_length]
  have heq : strOfNums (numL s.size ++ zs ++ bytesOf (fourS (sumR s))) = strOfNums (numL t.size) ++ t ++ fourS (sumR s) := by
    apply bytesOf_inj
    rw [bytesOf_append, bytesOf_append, htb, hts, bytesOf_num (by omega), bytesOf_strOfNums]
    intro x hx
    rw [List.mem_append, List.mem_append] at hx
    rcases hx with (hx | hx) | hx
    · exact numL_range (by omega) x hx
    · exact hr x hx
    · exact bytesOf_range _ x hx
  rw [heq]
  have hd := sum_differ s t (e * 2 ^ p) (by
    intro k hk
    rw [bt_eq, bt_eq, Int.toNat_natCast, htb]
    exact hb k (by rw [bytesOf_length]; exact hk)) s.size (Nat.le_refl _)
  have hlt : e * 2 ^ p < 2 ^ (8 * s.size) := by
    have a1 : e * 2 ^ p < 2 ^ n * 2 ^ p := Nat.mul_lt_mul_of_pos_right he (Nat.two_pow_pos p)
    rw [← Nat.pow_add] at a1
    have a2 : 2 ^ (n + p) ≤ 2 ^ (8 * s.size) := Nat.pow_le_pow_right (by omega) (by omega)
    omega
  rw [Nat.mod_eq_of_lt hlt, show 8 * s.size = p + (8 * s.size - p) by omega, stsN_add, stsN_high] at hd
  have hbad : sumR s ≠ sumR t := by
    intro hq
    have h3 := sumR_inj hq
    rw [hts] at h3
    rw [h3, Nat.xor_self] at hd
    have he32 : e < 4294967296 := by
      have : 2 ^ n ≤ 2 ^ 32 := Nat.pow_le_pow_right (by omega) h2
      omega
    have h4 := stsN_inj (8 * s.size - p) (a := 0) (b := e) (by decide) he32 (by rw [stsN_zero]; exact hd)
    exact hne h1 h4.symm
  have h4 := fourS_size (sumR s)
  unfold takeR
  rw [readText_text t (by omega)]
  simp only
  rw [h4, if_neg (by omega), if_neg]
  intro hq
  have e1 : (fourS (sumR s)).extract 0 4 = fourS (sumR s) := by
    apply bytesOf_inj
    rw [bytesOf_extract, List.drop_zero, Nat.sub_zero, List.take_of_length_le (by rw [bytesOf_length, h4]; omega)]
  rw [e1, sumR_nat s, sumR_nat t] at hq
  have := four_inj (xor_lt32 (by decide) (sumN_lt s _)) (xor_lt32 (by decide) (sumN_lt t _)) hq
  exact hbad (by rw [sumR_nat s, sumR_nat t, this])

theorem FrameBitsWalk (s : ByteArray) (at_ turn : Int) (w : World) (hs : s.size ≤ 140737488351232) (hat : -9223372036854775808 ≤ at_ ∧ at_ ≤ 9223372036854775807) (hturn : -9223372036854775808 ≤ turn ∧ turn ≤ 9223372036854775807) :
    Calls Try.prog 5 #[.string s, .int .i64 at_, .int .i64 turn] w fun e w' => e = .returned (.bool true) ∧ Below w.heap.size w w' := by
  obtain ⟨K0, h0⟩ := examples_ev
  obtain ⟨K1, h1⟩ := put_ev s hs
  by_cases c : s.size < 1 ∨ 2000 < s.size
  · exact palinodelaw03_FrameBits.calls0 K0 s at_ turn w hat hturn c hs (h0 K0 (Nat.le_refl _))
  · have h2 := h1 (K0 + K1) (by omega)
    unfold putR at h2
    rw [if_neg (by omega)] at h2
    have hz := textL_size s
    have hb := bsize_text (n := s.size) (by omega)
    have h4 := fourS_size (sumR s)
    have hz2 : (strOfNums (numL s.size) ++ s ++ fourS (sumR s)).size = bsize s.size + 1 + s.size + 4 := by rw [append_size, hz, h4]
    obtain ⟨m, hm⟩ : ∃ m, m = (if at_ < 0 then -(at_ + 1) else at_) := ⟨_, rfl⟩
    have hm0 : 0 ≤ m := by rw [hm]; split <;> omega
    have hp0 : 0 ≤ Int.tmod m (8 * s.size) := Int.tmod_nonneg _ hm0
    have hp1 : Int.tmod m (8 * s.size) < 8 * s.size := Int.tmod_lt_of_pos _ (by omega)
    refine palinodelaw03_FrameBits.calls (K0 + K1) s at_ turn _ (Int.tmod m (8 * s.size)).toNat w hat hturn (by omega) (by omega) (h0 _ (by omega)) h2 (by omega) (by omega) (by rw [← hm]; omega) (by omega) ?_
    intro n xs a1 a2 a3 hx
    refine ⟨⟨#[]⟩, ⟨#[]⟩, ?_⟩
    have hsz : (strOfNums xs).size ≤ 9223372036854775807 := by
      rw [size_strOfNums, Flips.length hx, bytesOf_length]
      omega
    rw [take_eq _ hsz]
    rw [show (strOfNums (numL s.size) ++ s ++ fourS (sumR s)).size - 4 - s.size = bsize s.size + 1 by omega] at hx
    rw [take_flipped s _ n xs (by omega) a1 a2 a3 hx]
end Go.Proofs.Ytmmhdoaepdlmcaa.Pure
