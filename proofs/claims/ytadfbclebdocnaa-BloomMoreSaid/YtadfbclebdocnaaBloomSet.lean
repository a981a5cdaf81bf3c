import Derived.Test.YtadfbclebdocnaaBloomLib
import Derived.Test.YtadfbclebdocnaaPrint2
namespace Go.Proofs.Ytadfbclebdocnaa.Print
open Go.RowKit Go.Proofs.YtadfbclebdocnaaX Go.Proofs.YtadfbclebdocnaaW.PrintWords Go.Proofs.YtadfbclebdocnaaW.PrintLast Go.Proofs.YtadfbclebdocnaaW.PrintMore
set_option linter.unusedVariables false
set_option linter.unusedSimpArgs false

def InB (xs : List Int) : Prop := ∀ x ∈ xs, 0 ≤ x ∧ x < 256
theorem or_range (a b : Int) : 0 ≤ bits .or .u8 a b ∧ bits .or .u8 a b < 256 := by
  have h : bits .or .u8 a b = IntKind.u8.wrap ((a % 2 ^ 8).toNat ||| (b % 2 ^ 8).toNat : Nat) := rfl
  rw [h, IntKind.wrap_u8]
  omega
theorem setBit_in {xs : List Int} (h : InB xs) (p : Nat) : InB (setBit xs p) := by
  intro x hx
  unfold setBit at hx
  rcases List.mem_or_eq_of_mem_set hx with hx | rfl
  · exact h x hx
  · exact or_range _ _
theorem setBit_length (xs : List Int) (p : Nat) : (setBit xs p).length = xs.length := by unfold setBit; rw [List.length_set]
theorem setFold_in (m : Nat) (ps : List (Fin m)) : ∀ {xs : List Int}, InB xs → InB (setFold m xs ps) := by
  induction ps with
  | nil => exact fun h => h
  | cons p ps ih => exact fun h => ih (setBit_in h p.val)
theorem keys_in (m : Nat) (hm : 0 < m) (K : Nat) (ks : List ByteArray) : ∀ {xs : List Int}, InB xs → InB (ks.foldl (setKey m hm K) xs) := by
  induction ks with
  | nil => exact fun h => h
  | cons p ps ih => exact fun h => ih (setFold_in m _ h)
theorem keys_length (m : Nat) (hm : 0 < m) (K : Nat) (ks : List ByteArray) : ∀ xs : List Int, (ks.foldl (setKey m hm K) xs).length = xs.length := by
  induction ks with
  | nil => exact fun h => rfl
  | cons p ps ih => exact fun h => (ih _).trans (setFold_length m _ h)
theorem shl_one (r : Nat) (h : r < 8) : shl .u8 1 (r : Int) = 2 ^ r := by
  have : r = 0 ∨ r = 1 ∨ r = 2 ∨ r = 3 ∨ r = 4 ∨ r = 5 ∨ r = 6 ∨ r = 7 := by omega
  rcases this with rfl | rfl | rfl | rfl | rfl | rfl | rfl | rfl <;> rfl
theorem setFold_cons (m : Nat) (xs : List Int) (p : Fin m) (ps : List (Fin m)) : setFold m xs (p :: ps) = setFold m (setBit xs p.val) ps := rfl
theorem refMake_l1 (l : List ByteArray) (N K B : Nat) (hm : 0 < 8 * N) (hN : N ≤ 6000) (hK : K ≤ 20) (hB : B ≤ 4611686018427387904) (i : Nat) (hi : i < l.length) (hl : l.length ≤ 2000) (hkey : (l[i]'hi).size ≤ B) :
    ∀ (n j k : Nat) (xs : List Int), K - j = n → j ≤ K → B < k → xs.length = N → palinoderef11_Make.l1 (k + n + 1) l (N : Int) (K : Int) (xs ++ [0]) (i : Int) (j : Int) = palinoderef11_Make.l0 k l (N : Int) (K : Int) (setFold (8 * N) xs (((List.range K).drop j).map (plc (l[i]'hi) (8 * N) hm)) ++ [0]) ((i + 1 : Nat) : Int) := by
  intro n
  induction n with
  | zero =>
    intro j k xs hn hj hk hx
    obtain rfl : j = K := by omega
    simp only [palinoderef11_Make.l1]
    rw [if_neg (by omega), wrap_of _ (by omega) (by omega), List.drop_eq_nil_of_le (by simp), List.map_nil, show (i : Int) + 1 = ((i + 1 : Nat) : Int) by omega]
    rfl
  | succ n ih =>
    intro j k xs hn hj hk hx
    obtain ⟨q, hq⟩ : ∃ q, q = k + n + 1 := ⟨_, rfl⟩
    rw [show k + (n + 1) + 1 = q + 1 by omega]
    simp only [palinoderef11_Make.l1]
    have hkv : rdOf ByteArray.empty l (i : Int) = l[i]'hi := by
      unfold rdOf
      rw [Int.toNat_natCast, List.getD_eq_getElem?_getD, List.getElem?_eq_getElem hi]
      rfl
    have hp := place_big (l[i]'hi) (by omega) (8 * N) hm (by omega) j (by omega) q (by omega)
    have w8 : wrap64 (8 * (N : Int)) = ((8 * N : Nat) : Int) := by rw [wrap_of _ (by omega) (by omega)]; omega
    rw [if_pos (by omega), if_pos (by omega), if_pos (by omega), hkv, w8, hp, Option.bind_some]
    have hlt := (plc (l[i]'hi) (8 * N) hm j).isLt
    have hd : (List.range K).drop j = j :: (List.range K).drop (j + 1) := by
      rw [List.drop_eq_getElem_cons (by simp; omega)]
      simp
    rw [hd, List.map_cons, setFold_cons]
    obtain ⟨p, hpp⟩ : ∃ p, (plc (l[i]'hi) (8 * N) hm j).val = p := ⟨_, rfl⟩
    rw [hpp] at hlt ⊢
    have ed : Int.tdiv (p : Int) 8 = ((p / 8 : Nat) : Int) := by rw [Int.tdiv_eq_ediv_of_nonneg (by omega)]; omega
    have em : Int.tmod (p : Int) 8 = ((p % 8 : Nat) : Int) := by rw [Int.tmod_eq_emod_of_nonneg (by omega)]; omega
    have e8 : (xs ++ [(0 : Int)]).length = N + 1 := by rw [List.length_append, hx]; rfl
    have hset : (xs ++ [(0 : Int)]).set (p / 8) (bits .or .u8 (rd (xs ++ [(0 : Int)]) ((p / 8 : Nat) : Int)) (shl .u8 1 ((p % 8 : Nat) : Int))) = setBit xs p ++ [0] := by
      rw [List.set_append_left _ _ (by omega), shl_one _ (Nat.mod_lt _ (by decide))]
      unfold setBit rd
      rw [Int.toNat_natCast, List.getD_eq_getElem?_getD, List.getElem?_append_left (by omega), ← List.getD_eq_getElem?_getD]
    rw [ed, em, wrap_of _ (by omega) (by omega), if_pos (by omega), e8, if_pos (by omega), if_pos (by omega), Int.toNat_natCast, hset, wrap_of _ (by omega) (by omega), show (j : Int) + 1 = ((j + 1 : Nat) : Int) by omega]
    subst hq
    exact ih (j + 1) k (setBit xs p) (by omega) (by omega) hk (by rw [setBit_length, hx])
theorem refMake_l0 (l : List ByteArray) (N K B : Nat) (hm : 0 < 8 * N) (hN : N ≤ 6000) (hK : K ≤ 20) (hB : B ≤ 4611686018427387904) (hl : l.length ≤ 2000) (hkey : ∀ x ∈ l, x.size ≤ B) (c : Nat) :
    ∀ (n i : Nat) (xs : List Int), l.length - i = n → i ≤ l.length → xs.length = N → palinoderef11_Make.l0 (B + 1 + n * (K + 2) + c + 1) l (N : Int) (K : Int) (xs ++ [0]) (i : Int) = some (strOfNums ((l.drop i).foldl (setKey (8 * N) hm K) xs ++ [(K : Int)]), 0) := by
  intro n
  induction n with
  | zero =>
    intro i xs hn hi hx
    obtain rfl : i = l.length := by omega
    simp only [palinoderef11_Make.l0]
    have e8 : (xs ++ [(0 : Int)]).length = N + 1 := by rw [List.length_append, hx]; rfl
    rw [if_neg (by omega), if_pos (by omega), e8, if_pos (by omega), Int.toNat_natCast, List.set_append_right _ _ (by omega), hx, Nat.sub_self, List.drop_length, List.foldl_nil]
    show some (strOfNums (xs ++ [(K : Int) % 256]), (0 : Int)) = _
    rw [show (K : Int) % 256 = (K : Int) by omega]
  | succ n ih =>
    intro i xs hn hi hx
    have hi' : i < l.length := by omega
    obtain ⟨q, hq⟩ : ∃ q, q = (B + 1 + n * (K + 2) + c + 1) + K + 1 := ⟨_, rfl⟩
    rw [show B + 1 + (n + 1) * (K + 2) + c + 1 = q + 1 by rw [Nat.add_mul]; omega]
    simp only [palinoderef11_Make.l0]
    subst hq
    have h1 := refMake_l1 l N K B hm hN hK hB i hi' hl (hkey _ (List.getElem_mem hi')) K 0 (B + 1 + n * (K + 2) + c + 1) xs (by omega) (by omega) (by omega) hx
    rw [show ((0 : Nat) : Int) = 0 from rfl] at h1
    rw [if_pos (by omega), h1, ih (i + 1) _ (by omega) (by omega) (by rw [setFold_length, hx]), List.drop_zero, List.drop_eq_getElem_cons hi', List.foldl_cons]
    rfl
def codeR (r : ByteArray × Option Int) : ByteArray × Int := (r.1, r.2.getD 0)
theorem num1 (L E : Nat) (h : L * E ≤ 40000) : wrap64 ((L : Int) * (E : Int)) = ((L * E : Nat) : Int) := by
  rw [← Int.natCast_mul]
  generalize L * E = P at h
  exact wrap_of _ (by omega) (by omega)
theorem num2 (P : Nat) : mx 64 (P : Int) = ((max P 64 : Nat) : Int) := by unfold mx; split <;> omega
theorem num3 (Q : Nat) (h : Q ≤ 40000) : wrap64 (Int.tdiv (wrap64 ((Q : Int) + 7)) 8) = (((Q + 7) / 8 : Nat) : Int) := by
  rw [wrap_of ((Q : Int) + 7) (by omega) (by omega), Int.tdiv_eq_ediv_of_nonneg (by omega), wrap_of _ (by omega) (by omega)]; omega
theorem num4 (E : Nat) (h : E ≤ 20) : mx 1 (wrap64 (Int.tdiv (wrap64 ((E : Int) * 69)) 100)) = (nHash E : Int) := by
  rw [wrap_of ((E : Int) * 69) (by omega) (by omega), Int.tdiv_eq_ediv_of_nonneg (by omega), wrap_of _ (by omega) (by omega)]
  unfold mx nHash; split <;> omega
theorem num5 (N : Nat) (h : N ≤ 6000) : wrap64 ((N : Int) + 1) = ((N + 1 : Nat) : Int) := by rw [wrap_of _ (by omega) (by omega)]; rfl
theorem refMake_ev (l : List ByteArray) (each : Int) (hw : -9223372036854775808 ≤ each ∧ each ≤ 9223372036854775807) (B : Nat) (hB : B ≤ 4611686018427387904) (hkey : ∀ x ∈ l, x.size ≤ B) : ∃ K, ∀ k, K ≤ k → palinoderef11_Make.f k l each = some (codeR (makeR l each)) := by
  refine ⟨B + 1 + l.length * 22 + 3, fun k hk => ?_⟩
  obtain ⟨k, rfl⟩ : ∃ j, k = j + 1 := ⟨k - 1, by omega⟩
  unfold palinoderef11_Make.f makeR
  by_cases c1 : each < 1
  · rw [if_pos c1, if_pos (.inl c1)]; simp only [palinoderef11_Make.j0]; rw [if_pos trivial]; rfl
  · rw [if_neg c1]
    simp only [palinoderef11_Make.j0]
    by_cases c2 : each > 20
    · rw [if_pos (by simpa using c2), if_pos (.inr c2)]; rfl
    · rw [if_neg (by simpa using c2), if_neg (show ¬ (each < 1 ∨ 20 < each) by omega)]
      by_cases c3 : 2000 < l.length
      · rw [if_pos (show (l.length : Int) > 2000 by omega), if_pos c3]; rfl
      · rw [if_neg (show ¬ (l.length : Int) > 2000 by omega), if_neg c3]
        obtain ⟨E, rfl⟩ := Int.eq_ofNat_of_zero_le (show 0 ≤ each by omega)
        obtain ⟨P, hP⟩ : ∃ P, P = l.length * E := ⟨_, rfl⟩
        have hP2 : P ≤ 40000 := by rw [hP]; exact Nat.le_trans (Nat.mul_le_mul (show l.length ≤ 2000 by omega) (show E ≤ 20 by omega)) (by decide)
        obtain ⟨N, hN⟩ : ∃ N, N = nBytes l.length E := ⟨_, rfl⟩
        have hN2 : N = (max P 64 + 7) / 8 := by rw [hN, hP]; rfl
        have hN3 : N ≤ 6000 := by omega
        have a3 : N + 1 ≤ 281474976710656 := by omega
        have hK2 : nHash E ≤ 20 := by unfold nHash; omega
        have hE : E ≤ 20 := by omega
        have hm := nBytes_pos l.length E
        have hLE : l.length * E ≤ 40000 := by omega
        have hmx : max P 64 ≤ 40000 := by omega
        rw [num1 _ _ hLE, ← hP, num2 P, num3 _ hmx, num4 E hE, ← hN2, num5 N hN3, if_pos (Int.natCast_nonneg _), Int.toNat_natCast, if_pos a3, List.replicate_succ']
        have hz : (List.replicate N (0 : Int)).length = N := List.length_replicate
        have hb : l.length * (nHash E + 2) ≤ l.length * 22 := Nat.mul_le_mul_left _ (by omega)
        rw [← hN] at hm
        have h := refMake_l0 l N (nHash E) B hm (by omega) hK2 hB (by omega) hkey (k - (B + 1 + l.length * (nHash E + 2)) - 1) l.length 0 (List.replicate N 0) (by omega) (by omega) hz
        rw [show B + 1 + l.length * (nHash E + 2) + (k - (B + 1 + l.length * (nHash E + 2)) - 1) + 1 = k by omega, show ((0 : Nat) : Int) = 0 from rfl, List.drop_zero] at h
        rw [h]
        subst hN
        simp only [Int.toNat_natCast]
        rfl
theorem makeR_codes (l : List ByteArray) (each : Int) : palinodelaw11_is.f (makeR l each).2 (codeR (makeR l each)).2 = some true := by
  unfold makeR codeR palinodelaw11_is.f
  split
  · rfl
  · split <;> rfl
end Go.Proofs.Ytadfbclebdocnaa.Print
