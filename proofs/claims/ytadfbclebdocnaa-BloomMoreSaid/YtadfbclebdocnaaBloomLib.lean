import Derived.Test.YtadfbclebdocnaaXBytes
import Derived.Test.YtadfbclebdocnaaHBloomMake
import Derived.Test.YtadfbclebdocnaaHBloomMay
import Derived.Test.YtadfbclebdocnaaPrint1
import Derived.Test.YtadfbclebdocnaaPrint2
import Derived.Test.YtadfbclebdocnaaPrint2
import Derived.Test.YtadfbclebdocnaaPrint2
import Derived.Test.YtadfbclebdocnaaPrint3
namespace Go.Proofs.Ytadfbclebdocnaa.Print
open Go.RowKit Go.Proofs.YtadfbclebdocnaaX Go.Proofs.YtadfbclebdocnaaW.PrintWords Go.Proofs.YtadfbclebdocnaaW.PrintLast Go.Proofs.YtadfbclebdocnaaW.PrintMore
set_option linter.unusedVariables false
set_option linter.unusedSimpArgs false

/-! ## Bits -/
theorem or8 (a b : Nat) (ha : a < 256) (hb : b < 256) : bits .or .u8 (a : Int) (b : Int) = ((a ||| b : Nat) : Int) := by
  have h : bits .or .u8 (a : Int) (b : Int) = IntKind.u8.wrap (((a : Int) % 2 ^ 8).toNat ||| ((b : Int) % 2 ^ 8).toNat : Nat) := rfl
  have e1 : ((a : Int) % 2 ^ 8).toNat = a := by omega
  have e2 : ((b : Int) % 2 ^ 8).toNat = b := by omega
  have : a ||| b < 256 := Nat.or_lt_two_pow (n := 8) ha hb
  rw [h, e1, e2, IntKind.wrap_u8]
  omega
theorem and8 (a b : Nat) (ha : a < 256) (hb : b < 256) : bits .and .u8 (a : Int) (b : Int) = ((a &&& b : Nat) : Int) := by
  have h : bits .and .u8 (a : Int) (b : Int) = IntKind.u8.wrap (((a : Int) % 2 ^ 8).toNat &&& ((b : Int) % 2 ^ 8).toNat : Nat) := rfl
  have e1 : ((a : Int) % 2 ^ 8).toNat = a := by omega
  have e2 : ((b : Int) % 2 ^ 8).toNat = b := by omega
  have : a &&& b ≤ a := Nat.and_le_left
  rw [h, e1, e2, IntKind.wrap_u8]
  omega
theorem or64 (a b : Nat) (ha : a < 18446744073709551616) (hb : b < 18446744073709551616) : bits .or .u64 (a : Int) (b : Int) = ((a ||| b : Nat) : Int) := by
  have h : bits .or .u64 (a : Int) (b : Int) = IntKind.u64.wrap (((a : Int) % 2 ^ 64).toNat ||| ((b : Int) % 2 ^ 64).toNat : Nat) := rfl
  have e1 : ((a : Int) % 2 ^ 64).toNat = a := by omega
  have e2 : ((b : Int) % 2 ^ 64).toNat = b := by omega
  have : a ||| b < 18446744073709551616 := Nat.or_lt_two_pow (n := 64) ha hb
  rw [h, e1, e2, IntKind.wrap_u64]
  omega
theorem or_one (x : Nat) : x ||| 1 = if x % 2 = 0 then x + 1 else x := by
  have h := Nat.two_pow_add_eq_or_of_lt (i := 1) (b := 1) (by decide) (x / 2)
  split
  · have e : x = 2 ^ 1 * (x / 2) := by omega
    conv => lhs; rw [e]
    rw [← h]; omega
  · have e : x = 2 ^ 1 * (x / 2) ||| 1 := by rw [← h]; omega
    conv => lhs; rw [e]
    rw [Nat.or_assoc, Nat.or_self, ← h]; omega
theorem or64_one (x : Int) (h0 : 0 ≤ x) (h : x < 18446744073709551616) : bits .or .u64 x 1 = if x % 2 = 0 then x + 1 else x := by
  obtain ⟨n, rfl⟩ := Int.eq_ofNat_of_zero_le h0
  have := or64 n 1 (by omega) (by decide)
  rw [show ((1 : Nat) : Int) = 1 from rfl] at this
  rw [this, or_one]
  split <;> split <;> omega
theorem rotH_range (h : Int) (h0 : 0 ≤ h ∧ h < 18446744073709551616) : 0 ≤ rotH h ∧ rotH h < 18446744073709551616 := by
  unfold rotH
  obtain ⟨a, ha⟩ := Int.eq_ofNat_of_zero_le (show 0 ≤ IntKind.u64.wrap (h * 4294967296) by rw [IntKind.wrap_u64]; omega)
  obtain ⟨b, hb⟩ := Int.eq_ofNat_of_zero_le (show 0 ≤ h / 4294967296 by omega)
  have ha2 : a < 18446744073709551616 := by rw [IntKind.wrap_u64] at ha; omega
  have hb2 : b < 18446744073709551616 := by omega
  rw [ha, hb, or64 a b ha2 hb2]
  have : a ||| b < 18446744073709551616 := Nat.or_lt_two_pow (n := 64) ha2 hb2
  omega

/-! ## The hash, the places -/
theorem refHash_l (s : ByteArray) (hs : s.size ≤ 4611686018427387904) : ∀ (n i k : Nat), s.size - i = n → i ≤ s.size → n < k → palinoderef11_Hash.l0 k s (hashTo s i) (i : Int) = some (hashTo s s.size) := by
  intro n
  induction n with
  | zero =>
    intro i k hn hi hk
    obtain ⟨k, rfl⟩ : ∃ j, k = j + 1 := ⟨k - 1, by omega⟩
    obtain rfl : i = s.size := by omega
    simp only [palinoderef11_Hash.l0]
    rw [if_neg (by omega)]
  | succ n ih =>
    intro i k hn hi hk
    obtain ⟨k, rfl⟩ : ∃ j, k = j + 1 := ⟨k - 1, by omega⟩
    simp only [palinoderef11_Hash.l0]
    have hb := bt_range s (i : Int)
    have e : IntKind.u64.wrap ((bits .xor .u64 (hashTo s i) (IntKind.u64.wrap (bt s (i : Int)))) * 1099511628211) = hashTo s (i + 1) := by
      rw [IntKind.wrap_u64, IntKind.wrap_u64, show bt s (i : Int) % 18446744073709551616 = bt s (i : Int) by omega]
      rfl
    rw [if_pos (by omega), if_pos (by omega), e, wrap_of _ (by omega) (by omega), show (i : Int) + 1 = ((i + 1 : Nat) : Int) by omega, ih (i + 1) k (by omega) (by omega) (by omega)]
theorem refHash_big (s : ByteArray) (hs : s.size ≤ 4611686018427387904) (k : Nat) (hk : s.size < k) : palinoderef11_Hash.f k s = some (hashTo s s.size) := by
  unfold palinoderef11_Hash.f
  exact refHash_l s hs s.size 0 k (by omega) (by omega) hk
theorem hAt_eq (s : ByteArray) (i : Nat) : hAt s i = (hashTo s s.size + (i : Int) * stepG s) % 18446744073709551616 := by
  induction i with
  | zero =>
    have := hashTo_range s s.size
    show hashTo s s.size = _
    rw [show ((0 : Nat) : Int) * stepG s = 0 by simp, Int.add_zero]
    omega
  | succ i ih =>
    show (hAt s i + stepG s) % 18446744073709551616 = _
    rw [ih, Int.emod_add_emod]
    congr 1
    rw [show ((i + 1 : Nat) : Int) = (i : Int) + 1 by omega, Int.add_mul, Int.one_mul, Int.add_assoc]
theorem place_big (s : ByteArray) (hs : s.size ≤ 4611686018427387904) (m : Nat) (hm : 0 < m) (h2 : m ≤ 2000000000000000) (i : Nat) (hi : i ≤ 1000000) (k : Nat) (hk : s.size < k) : palinoderef11_place.f k s (i : Int) (m : Int) = some ((plc s m hm i).val : Int) := by
  have hr := hashTo_range s s.size
  have hq := rotH_range _ hr
  unfold palinoderef11_place.f
  rw [refHash_big s hs k hk]
  simp only [Option.bind_some]
  rw [show bits .or .u64 (IntKind.u64.wrap (hashTo s s.size * 4294967296)) (hashTo s s.size / 4294967296) = rotH (hashTo s s.size) from rfl, plc_val s m hm h2 i, hAt_eq]
  have hg : stepG s = if rotH (hashTo s s.size) % 2 = 0 then rotH (hashTo s s.size) + 1 else rotH (hashTo s s.size) := or64_one _ hq.1 hq.2
  have wm : IntKind.u64.wrap (m : Int) = (m : Int) := by rw [IntKind.wrap_u64]; omega
  have wi : IntKind.u64.wrap (i : Int) = (i : Int) := by rw [IntKind.wrap_u64]; omega
  rw [wm, wi, Int.tmod_eq_emod_of_nonneg hq.1]
  generalize hashTo s s.size = h at *
  generalize rotH h = q at *
  have e : ∀ g : Int, g = stepG s → Int.tmod (IntKind.u64.wrap (h + IntKind.u64.wrap ((i : Int) * g))) (m : Int) = (h + (i : Int) * stepG s) % 18446744073709551616 % (m : Int) := by
    rintro g rfl
    rw [IntKind.wrap_u64, IntKind.wrap_u64, Int.add_emod_emod, Int.tmod_eq_emod_of_nonneg (Int.emod_nonneg _ (by decide))]
  by_cases c : q % 2 = 0
  · rw [if_pos c] at hg
    have wq : IntKind.u64.wrap (q + 1) = stepG s := by rw [IntKind.wrap_u64, hg]; omega
    rw [if_pos c, if_neg (by omega), e _ wq]
  · rw [if_neg c] at hg
    rw [if_neg c, if_neg (by omega), e _ hg.symm]

/-! ## Whether a key may be there -/
theorem mbit_eq (s : ByteArray) (p : Nat) : mbit s p = bt s ((p / 8 : Nat) : Int) / 2 ^ (p % 8) % 2 := by
  unfold mbit
  have hb := bt_range s ((p / 8 : Nat) : Int)
  obtain ⟨n, hn⟩ := Int.eq_ofNat_of_zero_le hb.1
  rw [hn]
  have e : ((n : Int) / 2 ^ (p % 8)) = ((n / 2 ^ (p % 8) : Nat) : Int) := by rw [Int.natCast_ediv, Int.natCast_pow]; rfl
  have hl : n / 2 ^ (p % 8) ≤ n := Nat.div_le_self _ _
  rw [e, show (1 : Int) = ((1 : Nat) : Int) from rfl, and8 _ 1 (by omega) (by decide), Nat.and_one_is_mod]
  omega
theorem refBit (s : ByteArray) (p : Nat) : Int.tmod (shr .u8 (bt s ((p / 8 : Nat) : Int)) ((p % 8 : Nat) : Int)) 2 = mbit s p := by
  have hb := bt_range s ((p / 8 : Nat) : Int)
  have h8 : p % 8 < 8 := Nat.mod_lt _ (by decide)
  have e : shr .u8 (bt s ((p / 8 : Nat) : Int)) ((p % 8 : Nat) : Int) = bt s ((p / 8 : Nat) : Int) / 2 ^ (p % 8) := by
    unfold shr
    rw [Int.toNat_natCast, Nat.min_eq_left (by show p % 8 ≤ 8; omega)]
  rw [e, mbit_eq, Int.tmod_eq_emod_of_nonneg (Int.ediv_nonneg hb.1 (Int.le_of_lt (Int.pow_pos (by decide))))]
theorem plcs_succ (s : ByteArray) (m : Nat) (hm : 0 < m) (k : Nat) : plcs s m hm (k + 1) = plcs s m hm k ++ [plc s m hm k] := by unfold plcs; rw [List.range_succ, List.map_append]; rfl
theorem refMay_l (s key : ByteArray) (N kk : Nat) (hN : s.size = N + 1) (hm : 0 < 8 * N) (hs : s.size ≤ 140737488355328) (hkey : key.size ≤ 4611686018427387904) (hkk : bt s (N : Int) = (kk : Int)) (hk30 : kk ≤ 255) :
    ∀ (n i k : Nat), kk - i = n → i ≤ kk → n + key.size + 1 < k → palinoderef11_May.l0 k s key (N : Int) (i : Int) = some (((List.range kk).drop i).all fun j => mbit s (plc key (8 * N) hm j).val != 0) := by
  intro n
  induction n with
  | zero =>
    intro i k hn hi hk
    obtain ⟨k, rfl⟩ : ∃ j, k = j + 1 := ⟨k - 1, by omega⟩
    obtain rfl : i = kk := by omega
    simp only [palinoderef11_May.l0]
    rw [hkk, if_pos (by omega), if_pos (by omega), wrap_of _ (by omega) (by omega), if_neg (by omega), List.drop_eq_nil_of_le (by simp)]
    rfl
  | succ n ih =>
    intro i k hn hi hk
    obtain ⟨k, rfl⟩ : ∃ j, k = j + 1 := ⟨k - 1, by omega⟩
    simp only [palinoderef11_May.l0]
    have hp := place_big key hkey (8 * N) hm (by omega) i (by omega) k (by omega)
    have w8 : wrap64 (8 * (N : Int)) = ((8 * N : Nat) : Int) := by rw [wrap_of _ (by omega) (by omega)]; omega
    rw [hkk, if_pos (by omega), if_pos (by omega), wrap_of _ (by omega) (by omega), if_pos (by omega), w8, hp, Option.bind_some]
    have hlt := (plc key (8 * N) hm i).isLt
    have hd : (List.range kk).drop i = i :: (List.range kk).drop (i + 1) := by
      rw [List.drop_eq_getElem_cons (by simp; omega)]
      simp
    obtain ⟨p, hpp⟩ : ∃ p, (plc key (8 * N) hm i).val = p := ⟨_, rfl⟩
    rw [hpp] at hlt ⊢
    have ed : Int.tdiv (p : Int) 8 = ((p / 8 : Nat) : Int) := by rw [Int.tdiv_eq_ediv_of_nonneg (by omega)]; omega
    have em : Int.tmod (p : Int) 8 = ((p % 8 : Nat) : Int) := by rw [Int.tmod_eq_emod_of_nonneg (by omega)]; omega
    rw [ed, em, wrap_of _ (by omega) (by omega), if_pos (by omega), if_pos (by omega), if_pos (by omega), refBit, hd, List.all_cons, hpp]
    by_cases c : mbit s p = 0
    · rw [if_pos c, c]; rfl
    · rw [if_neg c, wrap_of _ (by omega) (by omega), show (i : Int) + 1 = ((i + 1 : Nat) : Int) by omega, ih (i + 1) k (by omega) (by omega) (by omega)]
      have : (mbit s p != 0) = true := by simpa using c
      rw [this, Bool.true_and]
theorem may_big (s key : ByteArray) (hs : s.size ≤ 140737488355328) (hkey : key.size ≤ 4611686018427387904) (k : Nat) (hk : key.size + 300 < k) : palinoderef11_May.f k s key = some (mayR s key) := by
  obtain ⟨k, rfl⟩ : ∃ j, k = j + 2 := ⟨k - 2, by omega⟩
  unfold palinoderef11_May.f mayR
  by_cases c : s.size ≤ 1
  · rw [dif_pos c, if_pos (by rw [wrap_of _ (by omega) (by omega)]; omega)]
    simp [palinoderef11_May.j0]
  · rw [dif_neg c]
    obtain ⟨N, hN, hm⟩ : ∃ N, s.size = N + 1 ∧ 0 < N := ⟨s.size - 1, by omega, by omega⟩
    have e : wrap64 ((s.size : Int) - 1) = (N : Int) := by rw [wrap_of _ (by omega) (by omega)]; omega
    rw [e, if_neg (by omega), if_pos (by omega), if_pos (by omega)]
    have hr : mayK s key (s.size - 1) (by omega) = mayK s key N hm := by congr 1; omega
    rw [hr]
    unfold mayK
    have hb := bt_range s (N : Int)
    by_cases c1 : bt s (N : Int) = 0
    · rw [if_pos c1, if_pos (.inl c1)]; simp [palinoderef11_May.j0]
    · rw [if_neg c1]
      simp only [palinoderef11_May.j0]
      by_cases c2 : bt s (N : Int) > 30
      · rw [if_pos (by simpa using c2), if_pos (.inr c2)]
      · rw [if_neg (by simpa using c2), if_neg (by rintro (h | h) <;> omega)]
        obtain ⟨kk, hkk⟩ := Int.eq_ofNat_of_zero_le hb.1
        have := refMay_l s key N kk hN (by omega) hs hkey hkk (by omega) kk 0 (k + 1) (by omega) (by omega) (by omega)
        rw [show ((0 : Nat) : Int) = 0 from rfl] at this
        rw [this, hkk, Int.toNat_natCast]
        unfold plcs
        rw [List.drop_zero, List.all_map]
        rfl
theorem may_eq (s key : ByteArray) (hs : s.size ≤ 140737488355328) (hkey : key.size ≤ 9223372036854775807) : bloom_May.f s key = some (mayR s key) := by unfold bloom_May.f; rw [if_pos ⟨hs, hkey⟩]
theorem hash_eq (s : ByteArray) (hs : s.size ≤ 9223372036854775807) : bloom_Hash.f s = some (hashTo s s.size) := by unfold bloom_Hash.f; rw [if_pos hs]
theorem make_eq' (l : List ByteArray) (each : Int) (h : ∀ x ∈ l, x.size ≤ 9223372036854775807) : bloom_Make.f l each = some (makeR l each) := by
  unfold bloom_Make.f; rw [if_pos (List.all_eq_true.2 fun x hx => decide_eq_true (h x hx))]
/-! ## The chapter's examples -/
theorem makeR_nil (each : Int) (h : 1 ≤ each ∧ each ≤ 20) : makeR [] each = (strOfNums (List.replicate 8 0 ++ [(nHash each.toNat : Int)]), none) := by
  unfold makeR
  rw [if_neg (by omega), if_neg (by simp)]
  have : nBytes ([] : List ByteArray).length each.toNat = 8 := by unfold nBytes; simp
  rw [List.foldl_nil, this]
theorem examples_ev : palinodelaw11_examples.f = some true := by
  unfold palinodelaw11_examples.f
  rw [make_eq' [] 10 (by simp), makeR_nil 10 (by omega)]
  simp only [Option.bind_some]
  rw [hash_eq _ (by show 1 ≤ 9223372036854775807; omega), may_eq _ _ (by show 0 ≤ 140737488355328; omega) (by show 1 ≤ 9223372036854775807; omega)]
  have e1 : (strOfNums (List.replicate 8 0 ++ [(nHash (10 : Int).toNat : Int)])).toList = ([0, 0, 0, 0, 0, 0, 0, 0, 6] : List UInt8) := by
    rw [ByteArray.toList_eq]
    decide +kernel
  have e2 : hashTo (⟨#[97]⟩ : ByteArray) (⟨#[97]⟩ : ByteArray).size = 12638187200555641996 := by decide +kernel
  rw [if_pos e1, e2]
  simp only [Option.isNone_none, Option.bind_some, if_true]
  rfl
theorem examples_true : ∀ r_, palinodelaw11_examples.f = some r_ → r_ = true := by
  intro r h
  rw [examples_ev] at h
  exact (Option.some.inj h).symm
end Go.Proofs.Ytadfbclebdocnaa.Print
