import Derived.Test.YtadfbclebdocnaaBloomSet
import Derived.Test.YtadfbclebdocnaaPrint2
namespace Go.Proofs.Ytadfbclebdocnaa.Print
open Go.RowKit Go.Proofs.YtadfbclebdocnaaX Go.Proofs.YtadfbclebdocnaaW.PrintWords Go.Proofs.YtadfbclebdocnaaW.PrintLast Go.Proofs.YtadfbclebdocnaaW.PrintMore
set_option linter.unusedVariables false
set_option linter.unusedSimpArgs false

theorem orE (x a : Int) : bits .or .u8 x a = (((x % 256).toNat ||| (a % 256).toNat : Nat) : Int) := by
  have h : bits .or .u8 x a = IntKind.u8.wrap ((x % 2 ^ 8).toNat ||| (a % 2 ^ 8).toNat : Nat) := rfl
  have h1 : (x % 256).toNat < 256 := by omega
  have h2 : (a % 256).toNat < 256 := by omega
  have : (x % 256).toNat ||| (a % 256).toNat < 256 := Nat.or_lt_two_pow (n := 8) h1 h2
  rw [h, show ((2 : Int) ^ 8) = 256 from rfl, IntKind.wrap_u8]
  omega
theorem or_comm3 (x a b : Int) : bits .or .u8 (bits .or .u8 x a) b = bits .or .u8 (bits .or .u8 x b) a := by
  have key (a : Int) : ((bits .or .u8 x a) % 256).toNat = (x % 256).toNat ||| (a % 256).toNat := by
    have h1 : (x % 256).toNat < 256 := by omega
    have h2 : (a % 256).toNat < 256 := by omega
    have : (x % 256).toNat ||| (a % 256).toNat < 256 := Nat.or_lt_two_pow (n := 8) h1 h2
    rw [orE]
    omega
  rw [orE (bits .or .u8 x a) b, orE (bits .or .u8 x b) a, key, key, Nat.or_assoc, Nat.or_assoc, Nat.or_comm (a % 256).toNat]
theorem getD_set (xs : List Int) (i j : Nat) (v : Int) : (xs.set i v).getD j 0 = if i = j ∧ i < xs.length then v else xs.getD j 0 := by
  rw [List.getD_eq_getElem?_getD, List.getElem?_set]
  by_cases c : i = j
  · subst c
    by_cases d : i < xs.length
    · rw [if_pos rfl, if_pos d, if_pos ⟨rfl, d⟩]; rfl
    · rw [if_pos rfl, if_neg d, if_neg (fun h => d h.2), List.getD_eq_getElem?_getD, List.getElem?_eq_none (by omega)]
  · rw [if_neg c, if_neg (fun h => c h.1), List.getD_eq_getElem?_getD]
theorem setBit_comm (xs : List Int) (p q : Nat) : setBit (setBit xs p) q = setBit (setBit xs q) p := by
  unfold setBit
  rw [getD_set, getD_set]
  by_cases c : p / 8 = q / 8
  · rw [c]
    by_cases d : q / 8 < xs.length
    · rw [if_pos ⟨rfl, d⟩, if_pos ⟨rfl, d⟩, List.set_set, List.set_set, or_comm3]
    · rw [List.set_eq_of_length_le (by rw [List.length_set]; omega), List.set_eq_of_length_le (by omega), List.set_eq_of_length_le (by rw [List.length_set]; omega), List.set_eq_of_length_le (by omega)]
  · rw [if_neg (fun h => c h.1), if_neg (fun h => c h.1.symm), List.set_comm _ _ c]
theorem setFold_comm (m : Nat) (xs : List Int) (ps qs : List (Fin m)) : setFold m (setFold m xs ps) qs = setFold m (setFold m xs qs) ps := by
  unfold setFold
  rw [← List.foldl_append, ← List.foldl_append]
  exact List.perm_append_comm.foldl_eq' (fun x _ y _ z => setBit_comm z x.val y.val) xs
theorem makeR_perm {a b : List ByteArray} (h : a.Perm b) (each : Int) : makeR a each = makeR b each := by
  unfold makeR
  have hl := h.length_eq
  have hf : ∀ (m : Nat) (hm : 0 < m) (K : Nat) (xs : List Int), a.foldl (setKey m hm K) xs = b.foldl (setKey m hm K) xs := fun m hm K xs => h.foldl_eq' (fun x _ y _ z => setFold_comm m z _ _) xs
  by_cases c1 : each < 1 ∨ 20 < each
  · rw [if_pos c1, if_pos c1]
  · rw [if_neg c1, if_neg c1]
    by_cases c2 : 2000 < b.length
    · rw [if_pos (by omega), if_pos c2]
    · rw [if_neg (by omega), if_neg c2, hf]
      have hg : ∀ n n' : Nat, n = n' → ∀ (h1 : 0 < 8 * nBytes n each.toNat) (h2 : 0 < 8 * nBytes n' each.toNat), b.foldl (setKey (8 * nBytes n each.toNat) h1 (nHash each.toNat)) (List.replicate (nBytes n each.toNat) 0) = b.foldl (setKey (8 * nBytes n' each.toNat) h2 (nHash each.toNat)) (List.replicate (nBytes n' each.toNat) 0) := by
        rintro n n' rfl h1 h2; rfl
      rw [hg _ _ hl (nBytes_pos _ _) (nBytes_pos _ _)]

/-! ## What a filter of keys says -/
def has (xs : List Int) (p : Nat) : Prop := Nat.testBit (xs.getD (p / 8) 0).toNat (p % 8) = true
theorem testBit_or8 (x a : Int) (hx : 0 ≤ x ∧ x < 256) (ha : 0 ≤ a ∧ a < 256) (r : Nat) : Nat.testBit (bits .or .u8 x a).toNat r = (Nat.testBit x.toNat r || Nat.testBit a.toNat r) := by
  rw [orE, Int.toNat_natCast, Nat.testBit_or, show x % 256 = x by omega, show a % 256 = a by omega]
theorem getD_in {xs : List Int} (h : InB xs) (j : Nat) : 0 ≤ xs.getD j 0 ∧ xs.getD j 0 < 256 := by
  by_cases c : j < xs.length
  · rw [List.getD_eq_getElem?_getD, List.getElem?_eq_getElem c]
    exact h _ (List.getElem_mem c)
  · rw [List.getD_eq_getElem?_getD, List.getElem?_eq_none (by omega)]
    exact ⟨by decide, by decide⟩
theorem pow_in (p : Nat) : (0 : Int) ≤ 2 ^ (p % 8) ∧ (2 : Int) ^ (p % 8) < 256 ∧ ((2 : Int) ^ (p % 8)).toNat = 2 ^ (p % 8) := by
  have h8 : p % 8 < 8 := Nat.mod_lt _ (by decide)
  generalize p % 8 = r at h8
  have : r = 0 ∨ r = 1 ∨ r = 2 ∨ r = 3 ∨ r = 4 ∨ r = 5 ∨ r = 6 ∨ r = 7 := by omega
  rcases this with rfl | rfl | rfl | rfl | rfl | rfl | rfl | rfl <;> decide
theorem has_self {xs : List Int} (h : InB xs) (p : Nat) (hp : p / 8 < xs.length) : has (setBit xs p) p := by
  unfold has setBit
  have hw := pow_in p
  rw [getD_set, if_pos ⟨rfl, hp⟩, testBit_or8 _ _ (getD_in h _) ⟨hw.1, hw.2.1⟩, hw.2.2, Nat.testBit_two_pow_self, Bool.or_true]
theorem has_keep {xs : List Int} (h : InB xs) (p q : Nat) (hq : has xs q) : has (setBit xs p) q := by
  unfold has setBit
  have hw := pow_in p
  rw [getD_set]
  split
  · rename_i c
    rw [testBit_or8 _ _ (getD_in h _) ⟨hw.1, hw.2.1⟩, c.1, hq, Bool.true_or]
  · exact hq
theorem has_fold_keep (m : Nat) (ps : List (Fin m)) (q : Nat) : ∀ {xs : List Int}, InB xs → has xs q → has (setFold m xs ps) q := by
  induction ps with
  | nil => exact fun _ h => h
  | cons p ps ih => exact fun hi h => ih (setBit_in hi p.val) (has_keep hi _ _ h)
theorem has_fold (m : Nat) (ps : List (Fin m)) (q : Fin m) (hq : q ∈ ps) : ∀ {xs : List Int}, InB xs → m ≤ 8 * xs.length → has (setFold m xs ps) q.val := by
  induction ps with
  | nil => cases hq
  | cons p ps ih =>
    intro xs hi hm
    rcases List.mem_cons.1 hq with rfl | hq
    · exact has_fold_keep m ps _ (setBit_in hi _) (has_self hi _ (by have := q.isLt; omega))
    · exact ih hq (setBit_in hi p.val) (by rw [setBit_length]; exact hm)
theorem has_keys_keep (m : Nat) (hm : 0 < m) (K : Nat) (ks : List ByteArray) (q : Nat) : ∀ {xs : List Int}, InB xs → has xs q → has (ks.foldl (setKey m hm K) xs) q := by
  induction ks with
  | nil => exact fun _ h => h
  | cons p ps ih => exact fun hi h => ih (setFold_in m _ hi) (has_fold_keep m _ _ hi h)
theorem has_keys (m : Nat) (hm : 0 < m) (K : Nat) (ks : List ByteArray) (key : ByteArray) (hk : key ∈ ks) (q : Fin m) (hq : q ∈ plcs key m hm K) : ∀ {xs : List Int}, InB xs → m ≤ 8 * xs.length → has (ks.foldl (setKey m hm K) xs) q.val := by
  induction ks with
  | nil => cases hk
  | cons p ps ih =>
    intro xs hi hl
    rcases List.mem_cons.1 hk with rfl | hk
    · exact has_keys_keep m hm K ps _ (setFold_in m _ hi) (has_fold m _ q hq hi hl)
    · exact ih hk (setFold_in m _ hi) (by rw [show setKey m hm K xs p = setFold m xs _ from rfl, setFold_length]; exact hl)
theorem mbit_has {ys : List Int} (h : InB ys) (p : Nat) : (mbit (strOfNums ys) p != 0) = true ↔ has ys p := by
  rw [mbit_eq, bt_eq, bytesOf_strOfNums h, Int.toNat_natCast]
  unfold has
  obtain ⟨n, hn⟩ := Int.eq_ofNat_of_zero_le (getD_in h (p / 8)).1
  have hw := pow_in p
  obtain ⟨w, hw2⟩ := Int.eq_ofNat_of_zero_le hw.1
  have e : (2 : Int) ^ (p % 8) = ((2 ^ (p % 8) : Nat) : Int) := by rw [hw2] at hw ⊢; rw [← hw.2.2]; rfl
  rw [hn, e, ← Int.natCast_ediv, Int.toNat_natCast, Nat.testBit_eq_decide_div_mod_eq, bne_iff_ne, decide_eq_true_eq]
  omega
theorem bt_last {xs : List Int} (h : InB xs) (K : Nat) (hK : K < 256) : bt (strOfNums (xs ++ [(K : Int)])) (xs.length : Int) = (K : Int) := by
  rw [bt_eq, bytesOf_strOfNums (fun x hx => (List.mem_append.1 hx).elim (h x) (fun e => by rw [List.mem_singleton.1 e]; omega)), Int.toNat_natCast, List.getD_eq_getElem?_getD, List.getElem?_append_right (by omega), Nat.sub_self]
  rfl
theorem app_in {xs : List Int} (h : InB xs) (K : Nat) (hK : K < 256) : InB (xs ++ [(K : Int)]) := fun x hx => (List.mem_append.1 hx).elim (h x) (fun e => by rw [List.mem_singleton.1 e]; omega)
theorem has_app {xs : List Int} (v : Int) (p : Nat) (hp : p / 8 < xs.length) : has (xs ++ [v]) p ↔ has xs p := by
  unfold has
  rw [List.getD_eq_getElem?_getD, List.getElem?_append_left hp, ← List.getD_eq_getElem?_getD]
/-- May, of what Make makes. -/
theorem mayR_of {xs : List Int} (h : InB xs) (N K : Nat) (hx : xs.length = N) (hN : 0 < N) (hK : 1 ≤ K ∧ K ≤ 30) (hm : 0 < 8 * N) (key : ByteArray) : mayR (strOfNums (xs ++ [(K : Int)])) key = (plcs key (8 * N) hm K).all fun p => mbit (strOfNums (xs ++ [(K : Int)])) p.val != 0 := by
  have hz : (strOfNums (xs ++ [(K : Int)])).size = N + 1 := by rw [size_strOfNums, List.length_append, hx]; rfl
  have hb := bt_last h K (by omega)
  rw [hx] at hb
  unfold mayR
  rw [dif_neg (by omega)]
  have hr : ∀ s : ByteArray, s.size = N + 1 → ∀ h2, mayK s key (s.size - 1) h2 = mayK s key N hN := by
    intro s hs h2; congr 1; omega
  rw [hr _ hz]
  unfold mayK
  rw [hb, if_neg (by omega), Int.toNat_natCast]
theorem plcs_mem_lt {key : ByteArray} {N K : Nat} {hm : 0 < 8 * N} (p : Fin (8 * N)) : p.val / 8 < N := by have := p.isLt; omega
theorem makeR_ok (l : List ByteArray) (each : Int) (h : (makeR l each).2 = none) : (1 ≤ each ∧ each ≤ 20) ∧ (makeR l each).1 = strOfNums (l.foldl (setKey (8 * nBytes l.length each.toNat) (nBytes_pos _ _) (nHash each.toNat)) (List.replicate (nBytes l.length each.toNat) 0) ++ [(nHash each.toNat : Int)]) := by
  unfold makeR at h ⊢
  by_cases c1 : each < 1 ∨ 20 < each
  · rw [if_pos c1] at h; cases h
  · rw [if_neg c1] at h ⊢
    by_cases c2 : 2000 < l.length
    · rw [if_pos c2] at h; cases h
    · rw [if_neg c2]
      exact ⟨by omega, rfl⟩
theorem nHash_range (E : Nat) (h : E ≤ 20) : 1 ≤ nHash E ∧ nHash E ≤ 20 := by unfold nHash; omega
theorem zeros_in (N : Nat) : InB (List.replicate N 0) := fun x hx => by rw [List.eq_of_mem_replicate hx]; exact ⟨by decide, by decide⟩
theorem yes_key (l : List ByteArray) (N K : Nat) (hN : 0 < 8 * N) (hK : 1 ≤ K ∧ K ≤ 20) (key : ByteArray) (hk : key ∈ l) : mayR (strOfNums (l.foldl (setKey (8 * N) hN K) (List.replicate N 0) ++ [(K : Int)])) key = true := by
  have hl : (l.foldl (setKey (8 * N) hN K) (List.replicate N 0)).length = N := by rw [keys_length, List.length_replicate]
  have hi : InB (l.foldl (setKey (8 * N) hN K) (List.replicate N 0)) := keys_in _ _ _ _ (zeros_in N)
  rw [mayR_of hi N K hl (by omega) (by omega) hN key, List.all_eq_true]
  intro p hp
  rw [mbit_has (app_in hi K (by omega)), has_app _ _ (by rw [hl]; have := p.isLt; omega)]
  exact has_keys _ hN K l key hk p hp (zeros_in N) (by rw [List.length_replicate]; exact Nat.le_refl _)
theorem yes_of (l : List ByteArray) (each : Int) (h : (makeR l each).2 = none) (key : ByteArray) (hk : key ∈ l) : mayR (makeR l each).1 key = true := by
  obtain ⟨he, e⟩ := makeR_ok l each h
  rw [e]
  exact yes_key l _ _ _ (nHash_range each.toNat (by omega)) key hk
theorem none_of (each : Int) (he : 1 ≤ each ∧ each ≤ 20) (key : ByteArray) : mayR (makeR [] each).1 key = false := by
  rw [makeR_nil each he]
  have hK := nHash_range each.toNat (by omega)
  generalize nHash each.toNat = K at hK
  rw [mayR_of (zeros_in 8) 8 K List.length_replicate (by omega) (by omega) (by omega) key, List.all_eq_false]
  refine ⟨plc key (8 * 8) (by omega) 0, List.mem_map.2 ⟨0, List.mem_range.2 (by omega), rfl⟩, ?_⟩
  rw [mbit_has (app_in (zeros_in 8) K (by omega)), has_app _ _ (by rw [List.length_replicate]; have := (plc key (8 * 8) (by omega) 0).isLt; omega)]
  unfold has
  rw [List.getD_eq_getElem?_getD, List.getElem?_replicate]
  split <;> simp
end Go.Proofs.Ytadfbclebdocnaa.Print
