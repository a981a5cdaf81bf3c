import Derived.Test.YtbdkfmhkgeoeaaaTabC
import Derived.Test.YtbdkfmhkgeoeaaaHBloomAll
import Derived.Sort.CutIn
import Derived.Test.YtbdkfmhkgeoeaaaPrint11
namespace Go.Proofs.Ytbdkfmhkgeoeaaa.Print
open Go.RowKit Go.Proofs.YtbdkfmhkgeoeaaaX Go.Proofs.YtbdkfmhkgeoeaaaW.PrintWords Go.Proofs.YtbdkfmhkgeoeaaaW.PrintLast Go.Proofs.YtbdkfmhkgeoeaaaW.PrintMore
set_option linter.unusedVariables false
set_option linter.unusedSimpArgs false

theorem and8 (a b : Nat) (ha : a < 256) (hb : b < 256) : bits .and .u8 (a : Int) (b : Int) = ((a &&& b : Nat) : Int) := by
  have h : bits .and .u8 (a : Int) (b : Int) = IntKind.u8.wrap (((a : Int) % 2 ^ 8).toNat &&& ((b : Int) % 2 ^ 8).toNat : Nat) := rfl
  have e1 : ((a : Int) % 2 ^ 8).toNat = a := by omega
  have e2 : ((b : Int) % 2 ^ 8).toNat = b := by omega
  have : a &&& b ≤ a := Nat.and_le_left
  rw [h, e1, e2, IntKind.wrap_u8]
  omega
theorem mbit_eq (s : ByteArray) (p : Nat) : mbit s p = bt s ((p / 8 : Nat) : Int) / 2 ^ (p % 8) % 2 := by
  unfold mbit
  have hb := bt_range s ((p / 8 : Nat) : Int)
  obtain ⟨n, hn⟩ := Int.eq_ofNat_of_zero_le hb.1
  rw [hn]
  have e : ((n : Int) / 2 ^ (p % 8)) = ((n / 2 ^ (p % 8) : Nat) : Int) := by rw [Int.natCast_ediv, Int.natCast_pow]; rfl
  have hl : n / 2 ^ (p % 8) ≤ n := Nat.div_le_self _ _
  rw [e, show (1 : Int) = ((1 : Nat) : Int) from rfl, and8 _ 1 (by omega) (by decide), Nat.and_one_is_mod]
  omega
theorem or_range (a b : Int) : 0 ≤ bits .or .u8 a b ∧ bits .or .u8 a b < 256 := by
  have h : bits .or .u8 a b = IntKind.u8.wrap ((a % 2 ^ 8).toNat ||| (b % 2 ^ 8).toNat : Nat) := rfl
  rw [h, IntKind.wrap_u8]
  omega
theorem setBit_in {xs : List Int} (h : InB xs) (p : Nat) : InB (setBit xs p) := by
  intro x hx
  unfold setBit at hx
  rcases List.mem_or_eq_of_mem_set hx with hx | rfl
  · exact h x hx
  · exact or_range _ _
theorem setBit_length (xs : List Int) (p : Nat) : (setBit xs p).length = xs.length := by unfold setBit; rw [List.length_set]
theorem setFold_in (m : Nat) (ps : List (Fin m)) : ∀ {xs : List Int}, InB xs → InB (setFold m xs ps) := by
  induction ps with
  | nil => exact fun h => h
  | cons p ps ih => exact fun h => ih (setBit_in h p.val)
theorem keys_in (m : Nat) (hm : 0 < m) (K : Nat) (ks : List ByteArray) : ∀ {xs : List Int}, InB xs → InB (ks.foldl (setKey m hm K) xs) := by
  induction ks with
  | nil => exact fun h => h
  | cons p ps ih => exact fun h => ih (setFold_in m _ h)
theorem keys_length (m : Nat) (hm : 0 < m) (K : Nat) (ks : List ByteArray) : ∀ xs : List Int, (ks.foldl (setKey m hm K) xs).length = xs.length := by
  induction ks with
  | nil => exact fun h => rfl
  | cons p ps ih => exact fun h => (ih _).trans (setFold_length m _ h)
theorem orE (x a : Int) : bits .or .u8 x a = (((x % 256).toNat ||| (a % 256).toNat : Nat) : Int) := by
  have h : bits .or .u8 x a = IntKind.u8.wrap ((x % 2 ^ 8).toNat ||| (a % 2 ^ 8).toNat : Nat) := rfl
  have h1 : (x % 256).toNat < 256 := by omega
  have h2 : (a % 256).toNat < 256 := by omega
  have : (x % 256).toNat ||| (a % 256).toNat < 256 := Nat.or_lt_two_pow (n := 8) h1 h2
  rw [h, show ((2 : Int) ^ 8) = 256 from rfl, IntKind.wrap_u8]
  omega
theorem getD_set (xs : List Int) (i j : Nat) (v : Int) : (xs.set i v).getD j 0 = if i = j ∧ i < xs.length then v else xs.getD j 0 := by
  rw [List.getD_eq_getElem?_getD, List.getElem?_set]
  by_cases c : i = j
  · subst c
    by_cases d : i < xs.length
    · rw [if_pos rfl, if_pos d, if_pos ⟨rfl, d⟩]; rfl
    · rw [if_pos rfl, if_neg d, if_neg (fun h => d h.2), List.getD_eq_getElem?_getD, List.getElem?_eq_none (by omega)]
  · rw [if_neg c, if_neg (fun h => c h.1), List.getD_eq_getElem?_getD]
def has (xs : List Int) (p : Nat) : Prop := Nat.testBit (xs.getD (p / 8) 0).toNat (p % 8) = true
theorem testBit_or8 (x a : Int) (hx : 0 ≤ x ∧ x < 256) (ha : 0 ≤ a ∧ a < 256) (r : Nat) : Nat.testBit (bits .or .u8 x a).toNat r = (Nat.testBit x.toNat r || Nat.testBit a.toNat r) := by
  rw [orE, Int.toNat_natCast, Nat.testBit_or, show x % 256 = x by omega, show a % 256 = a by omega]
theorem getD_in {xs : List Int} (h : InB xs) (j : Nat) : 0 ≤ xs.getD j 0 ∧ xs.getD j 0 < 256 := by
  by_cases c : j < xs.length
  · rw [List.getD_eq_getElem?_getD, List.getElem?_eq_getElem c]
    exact h _ (List.getElem_mem c)
  · rw [List.getD_eq_getElem?_getD, List.getElem?_eq_none (by omega)]
    exact ⟨by decide, by decide⟩
theorem pow_in (p : Nat) : (0 : Int) ≤ 2 ^ (p % 8) ∧ (2 : Int) ^ (p % 8) < 256 ∧ ((2 : Int) ^ (p % 8)).toNat = 2 ^ (p % 8) := by
  have h8 : p % 8 < 8 := Nat.mod_lt _ (by decide)
  generalize p % 8 = r at h8
  have : r = 0 ∨ r = 1 ∨ r = 2 ∨ r = 3 ∨ r = 4 ∨ r = 5 ∨ r = 6 ∨ r = 7 := by omega
  rcases this with rfl | rfl | rfl | rfl | rfl | rfl | rfl | rfl <;> decide
theorem has_self {xs : List Int} (h : InB xs) (p : Nat) (hp : p / 8 < xs.length) : has (setBit xs p) p := by
  unfold has setBit
  have hw := pow_in p
  rw [getD_set, if_pos ⟨rfl, hp⟩, testBit_or8 _ _ (getD_in h _) ⟨hw.1, hw.2.1⟩, hw.2.2, Nat.testBit_two_pow_self, Bool.or_true]
theorem has_keep {xs : List Int} (h : InB xs) (p q : Nat) (hq : has xs q) : has (setBit xs p) q := by
  unfold has setBit
  have hw := pow_in p
  rw [getD_set]
  split
  · rename_i c
    rw [testBit_or8 _ _ (getD_in h _) ⟨hw.1, hw.2.1⟩, c.1, hq, Bool.true_or]
  · exact hq
theorem has_fold_keep (m : Nat) (ps : List (Fin m)) (q : Nat) : ∀ {xs : List Int}, InB xs → has xs q → has (setFold m xs ps) q := by
  induction ps with
  | nil => exact fun _ h => h
  | cons p ps ih => exact fun hi h => ih (setBit_in hi p.val) (has_keep hi _ _ h)
theorem has_fold (m : Nat) (ps : List (Fin m)) (q : Fin m) (hq : q ∈ ps) : ∀ {xs : List Int}, InB xs → m ≤ 8 * xs.length → has (setFold m xs ps) q.val := by
  induction ps with
  | nil => cases hq
  | cons p ps ih =>
    intro xs hi hm
    rcases List.mem_cons.1 hq with rfl | hq
    · exact has_fold_keep m ps _ (setBit_in hi _) (has_self hi _ (by have := q.isLt; omega))
    · exact ih hq (setBit_in hi p.val) (by rw [setBit_length]; exact hm)
theorem has_keys_keep (m : Nat) (hm : 0 < m) (K : Nat) (ks : List ByteArray) (q : Nat) : ∀ {xs : List Int}, InB xs → has xs q → has (ks.foldl (setKey m hm K) xs) q := by
  induction ks with
  | nil => exact fun _ h => h
  | cons p ps ih => exact fun hi h => ih (setFold_in m _ hi) (has_fold_keep m _ _ hi h)
theorem has_keys (m : Nat) (hm : 0 < m) (K : Nat) (ks : List ByteArray) (key : ByteArray) (hk : key ∈ ks) (q : Fin m) (hq : q ∈ plcs key m hm K) : ∀ {xs : List Int}, InB xs → m ≤ 8 * xs.length → has (ks.foldl (setKey m hm K) xs) q.val := by
  induction ks with
  | nil => cases hk
  | cons p ps ih =>
    intro xs hi hl
    rcases List.mem_cons.1 hk with rfl | hk
    · exact has_keys_keep m hm K ps _ (setFold_in m _ hi) (has_fold m _ q hq hi hl)
    · exact ih hk (setFold_in m _ hi) (by rw [show setKey m hm K xs p = setFold m xs _ from rfl, setFold_length]; exact hl)
theorem mbit_has {ys : List Int} (h : InB ys) (p : Nat) : (mbit (strOfNums ys) p != 0) = true ↔ has ys p := by
  rw [mbit_eq, bt_eq, bytesOf_strOfNums h, Int.toNat_natCast]
  unfold has
  obtain ⟨n, hn⟩ := Int.eq_ofNat_of_zero_le (getD_in h (p / 8)).1
  have hw := pow_in p
  obtain ⟨w, hw2⟩ := Int.eq_ofNat_of_zero_le hw.1
  have e : (2 : Int) ^ (p % 8) = ((2 ^ (p % 8) : Nat) : Int) := by rw [hw2] at hw ⊢; rw [← hw.2.2]; rfl
  rw [hn, e, ← Int.natCast_ediv, Int.toNat_natCast, Nat.testBit_eq_decide_div_mod_eq, bne_iff_ne, decide_eq_true_eq]
  omega
theorem bt_last {xs : List Int} (h : InB xs) (K : Nat) (hK : K < 256) : bt (strOfNums (xs ++ [(K : Int)])) (xs.length : Int) = (K : Int) := by
  rw [bt_eq, bytesOf_strOfNums (fun x hx => (List.mem_append.1 hx).elim (h x) (fun e => by rw [List.mem_singleton.1 e]; omega)), Int.toNat_natCast, List.getD_eq_getElem?_getD, List.getElem?_append_right (by omega), Nat.sub_self]
  rfl
theorem app_in {xs : List Int} (h : InB xs) (K : Nat) (hK : K < 256) : InB (xs ++ [(K : Int)]) := fun x hx => (List.mem_append.1 hx).elim (h x) (fun e => by rw [List.mem_singleton.1 e]; omega)
theorem has_app {xs : List Int} (v : Int) (p : Nat) (hp : p / 8 < xs.length) : has (xs ++ [v]) p ↔ has xs p := by
  unfold has
  rw [List.getD_eq_getElem?_getD, List.getElem?_append_left hp, ← List.getD_eq_getElem?_getD]
/-- May, of what Make makes. -/
theorem mayR_of {xs : List Int} (h : InB xs) (N K : Nat) (hx : xs.length = N) (hN : 0 < N) (hK : 1 ≤ K ∧ K ≤ 30) (hm : 0 < 8 * N) (key : ByteArray) : mayR (strOfNums (xs ++ [(K : Int)])) key = (plcs key (8 * N) hm K).all fun p => mbit (strOfNums (xs ++ [(K : Int)])) p.val != 0 := by
  have hz : (strOfNums (xs ++ [(K : Int)])).size = N + 1 := by rw [size_strOfNums, List.length_append, hx]; rfl
  have hb := bt_last h K (by omega)
  rw [hx] at hb
  unfold mayR
  rw [dif_neg (by omega)]
  have hr : ∀ s : ByteArray, s.size = N + 1 → ∀ h2, mayK s key (s.size - 1) h2 = mayK s key N hN := by
    intro s hs h2; congr 1; omega
  rw [hr _ hz]
  unfold mayK
  rw [hb, if_neg (by omega), Int.toNat_natCast]
theorem makeR_ok (l : List ByteArray) (each : Int) (h : (makeR l each).2 = none) : (1 ≤ each ∧ each ≤ 20) ∧ (makeR l each).1 = strOfNums (l.foldl (setKey (8 * nBytes l.length each.toNat) (nBytes_pos _ _) (nHash each.toNat)) (List.replicate (nBytes l.length each.toNat) 0) ++ [(nHash each.toNat : Int)]) := by
  unfold makeR at h ⊢
  by_cases c1 : each < 1 ∨ 20 < each
  · rw [if_pos c1] at h; cases h
  · rw [if_neg c1] at h ⊢
    by_cases c2 : 2000 < l.length
    · rw [if_pos c2] at h; cases h
    · rw [if_neg c2]
      exact ⟨by omega, rfl⟩
theorem nHash_range (E : Nat) (h : E ≤ 20) : 1 ≤ nHash E ∧ nHash E ≤ 20 := by unfold nHash; omega
theorem zeros_in (N : Nat) : InB (List.replicate N 0) := fun x hx => by rw [List.eq_of_mem_replicate hx]; exact ⟨by decide, by decide⟩
theorem yes_key (l : List ByteArray) (N K : Nat) (hN : 0 < 8 * N) (hK : 1 ≤ K ∧ K ≤ 20) (key : ByteArray) (hk : key ∈ l) : mayR (strOfNums (l.foldl (setKey (8 * N) hN K) (List.replicate N 0) ++ [(K : Int)])) key = true := by
  have hl : (l.foldl (setKey (8 * N) hN K) (List.replicate N 0)).length = N := by rw [keys_length, List.length_replicate]
  have hi : InB (l.foldl (setKey (8 * N) hN K) (List.replicate N 0)) := keys_in _ _ _ _ (zeros_in N)
  rw [mayR_of hi N K hl (by omega) (by omega) hN key, List.all_eq_true]
  intro p hp
  rw [mbit_has (app_in hi K (by omega)), has_app _ _ (by rw [hl]; have := p.isLt; omega)]
  exact has_keys _ hN K l key hk p hp (zeros_in N) (by rw [List.length_replicate]; exact Nat.le_refl _)
theorem yes_of (l : List ByteArray) (each : Int) (h : (makeR l each).2 = none) (key : ByteArray) (hk : key ∈ l) : mayR (makeR l each).1 key = true := by
  obtain ⟨he, e⟩ := makeR_ok l each h
  rw [e]
  exact yes_key l _ _ _ (nHash_range each.toNat (by omega)) key hk
end Go.Proofs.Ytbdkfmhkgeoeaaa.Print

/- The table of some entries has just these, each found by its key and number, and its filter says yes to each key: for all arguments that the row lets in. -/
namespace Go.Proofs.Ytbdkfmhkgeoeaaa.Pure
open Go.RowKit Go.Proofs.Ytbdkfmhkgeoeaaa.Print Go.Proofs.YtbdkfmhkgeoeaaaX Go.Proofs.YtbdkfmhkgeoeaaaW.PrintWords Go.Proofs.YtbdkfmhkgeoeaaaW.PrintLast Go.Proofs.YtbdkfmhkgeoeaaaW.PrintMore
set_option linter.unusedVariables false
set_option linter.unusedSimpArgs false

theorem buildR_cases (l : List Ent) (m q : Int) : (buildR l m q = (⟨#[]⟩, some 1)) ∨ (1 ≤ m ∧ m ≤ 50 ∧ 1 ≤ q ∧ q ≤ 20 ∧ 0 < l.length ∧ sortedB l = true ∧ buildR l m q = (bytesT l m.toNat q.toNat, none)) := by
  by_cases h1 : m < 1 ∨ 50 < m ∨ q < 1 ∨ 20 < q
  · exact .inl (by unfold buildR; rw [if_pos h1])
  · by_cases h2 : l.length = 0 ∨ sortedB l = false
    · exact .inl (by unfold buildR; rw [if_neg h1, if_pos h2])
    · refine .inr ⟨by omega, by omega, by omega, by omega, by omega, ?_, by unfold buildR; rw [if_neg h1, if_neg h2]; rfl⟩
      cases h : sortedB l with
      | true => rfl
      | false => exact absurd (.inr h) h2
theorem entries_l0 (l : List Ent) (hl : l.length ≤ 1000000) : ∀ (d i k : Nat), i + d = l.length → d < k → palinodelaw13_entries.l0 k l l (i : Int) = some true
  | 0, i, k, hd, hk => by
    obtain ⟨k, rfl⟩ : ∃ j, k = j + 1 := ⟨k - 1, by omega⟩
    simp only [palinodelaw13_entries.l0]
    rw [if_neg (by omega)]
  | d + 1, i, k, hd, hk => by
    obtain ⟨k, rfl⟩ : ∃ j, k = j + 1 := ⟨k - 1, by omega⟩
    have ih := entries_l0 l hl d (i + 1) k (by omega) (by omega)
    simp only [palinodelaw13_entries.l0]
    rw [if_pos (by omega), if_pos (by omega), if_pos (by omega), if_neg (by simp), wrap_of _ (by omega) (by omega), show (i : Int) + 1 = ((i + 1 : Nat) : Int) by omega, ih]
theorem entries_same (l : List Ent) (hl : l.length ≤ 1000000) (k : Nat) (hk : l.length < k) : palinodelaw13_entries.f k l l = some true := by
  unfold palinodelaw13_entries.f
  rw [if_pos rfl]
  exact entries_l0 l hl l.length 0 k (by omega) hk
theorem flat_first (cs : List (List Ent)) (h0 : 0 < cs.length) (hne : 0 < cs[0].length) : gt cs.flatten 0 = gt cs[0] 0 := by
  cases cs with
  | nil => exact absurd h0 (by simp)
  | cons c cs =>
    have hc : 0 < c.length := hne
    show gt (c ++ cs.flatten) 0 = gt c 0
    unfold gt
    rw [List.getD_eq_getElem?_getD, List.getD_eq_getElem?_getD, List.getElem?_append_left hc]
theorem flat_last (cs : List (List Ent)) (n : Nat) (hn : cs.length = n + 1) (h0 : n < cs.length) (hne : 0 < cs[n].length) : gt cs.flatten (cs.flatten.length - 1) = lastE cs[n] := by
  have h := flat_take cs n h0
  rw [← hn, List.take_length] at h
  rw [h]
  generalize cs[n] = c at hne ⊢
  generalize (cs.take n).flatten = a
  unfold lastE gt
  rw [List.getD_eq_getElem?_getD, List.getD_eq_getElem?_getD, List.getElem?_append_right (by rw [List.length_append]; omega), List.length_append]
  congr 2; omega
theorem ends_calls (tb m : Nat) (l : List Ent) (fl : ByteArray) (W : World) (hm : 1 ≤ m) (hm2 : m ≤ 50) (h0 : 0 < l.length) (hl : l.length ≤ 400) (hT : TB W tb (chsF l.length m l) fl) :
    (Calls Try.prog 15 #[.pointer (some ⟨tb, 0, none⟩)] W fun e w' => ∃ v, e = .returned v ∧ Kd.R k36 36 w' W.heap.size (fun _ => True) v l ∧ Below W.heap.size W w') ∧
    (Calls Try.prog 16 #[.pointer (some ⟨tb, 0, none⟩)] W fun e w' => e = .returned (.string (gt l 0).f0) ∧ Below W.heap.size W w') ∧
    (Calls Try.prog 17 #[.pointer (some ⟨tb, 0, none⟩)] W fun e w' => e = .returned (.string (gt l (l.length - 1)).f0) ∧ Below W.heap.size W w') := by
  have hf := chs_flat m hm l.length l (Nat.le_refl _)
  have hn := chs_len m hm l.length l
  have hmm := chs_mem m hm l.length l
  generalize chsF l.length m l = cs at hT hf hn hmm
  have hn0 : 0 < cs.length := by
    cases cs with
    | nil => rw [← hf] at h0; exact absurd h0 (by simp)
    | cons c cs => simp
  obtain ⟨n, hn1⟩ : ∃ n, cs.length = n + 1 := ⟨cs.length - 1, by omega⟩
  have hlt : n < cs.length := by omega
  have hA := hmm cs[0] (List.getElem_mem _)
  have hZ := hmm cs[n] (List.getElem_mem _)
  refine ⟨?_, ?_, ?_⟩
  · have h := tall_calls tb _ _ W hT (by omega) (by rw [hf]; omega)
    rwa [hf] at h
  · have h := min_calls tb _ _ W hT hn0 hA.1
    rw [← hf, flat_first cs hn0 hA.1]
    exact h
  · have h := max_calls tb _ _ W hT n hn1 (by omega) hlt ⟨hZ.1, by omega⟩
    rw [← hf, flat_last cs n hn1 hlt hZ.1]
    exact h
theorem before_tr {x y z : Ent} (h1 : beforeB x y = true) (h2 : beforeB y z = true) : beforeB x z = true := by
  unfold beforeB bless at *
  rw [Bool.or_eq_true, Bool.and_eq_true, beq_iff_eq, decide_eq_true_eq] at *
  rcases h1 with h1 | ⟨e1, g1⟩ <;> rcases h2 with h2 | ⟨e2, g2⟩
  · exact .inl (bl_trans h1 h2)
  · exact .inl (e2 ▸ h1)
  · exact .inl (e1 ▸ h2)
  · exact .inr ⟨e1.trans e2, by omega⟩
theorem before_at {l : List Ent} (hs : sortedB l = true) : ∀ (d i : Nat), i + d + 1 < l.length → beforeB (gt l i) (gt l (i + d + 1)) = true
  | 0, i, h => by
    have h1 := (sAt_iff.1 (sortedB_iff.1 hs (i + 1) (by omega))).2
    rcases h1 with h1 | h1
    · omega
    · exact h1
  | d + 1, i, h => by
    have ih := before_at hs d i (by omega)
    have h1 := (sAt_iff.1 (sortedB_iff.1 hs (i + (d + 1) + 1) (by omega))).2
    rcases h1 with h1 | h1
    · omega
    · exact before_tr ih h1
/-- Each entry is the first one of its key up to its number. -/
theorem find_self {l : List Ent} (hs : sortedB l = true) (i : Nat) (hi : i < l.length) : findR l (gt l i).f0 (gt l i).f1 = ((gt l i).f0, (gt l i).f1, (gt l i).f2, (gt l i).f3, true) := by
  obtain ⟨x, hx⟩ : ∃ x, gt l i = x := ⟨_, rfl⟩
  have hno : (l.take i).find? (hit x.f0 x.f1) = none := List.find?_eq_none.2 (fun e he => by
    obtain ⟨j, hj, rfl⟩ := List.mem_iff_getElem.1 he
    rw [List.length_take] at hj
    have h1 := before_at hs (i - j - 1) j (by omega)
    rw [show j + (i - j - 1) + 1 = i by omega, hx, gt_get (by omega : j < l.length)] at h1
    rw [List.getElem_take]
    unfold hit
    rw [Bool.and_eq_true, beq_iff_eq, decide_eq_true_eq]
    rintro ⟨k1, k2⟩
    unfold beforeB at h1
    rw [Bool.or_eq_true, Bool.and_eq_true, beq_iff_eq, decide_eq_true_eq] at h1
    rcases h1 with h1 | ⟨_, h1⟩
    · exact less_ne h1 k1
    · omega)
  have h0 : findR (l.take i) x.f0 x.f1 = (⟨#[]⟩, 0, false, ⟨#[]⟩, false) := by unfold findR; rw [hno]
  have e : l = l.take i ++ x :: l.drop (i + 1) := by
    conv => lhs; rw [← List.take_append_drop i l, List.drop_eq_getElem_cons hi, ← gt_get hi, hx]
  rw [hx]
  conv => lhs; rw [e]
  rw [findR_append, h0, if_neg (by decide), findR_hit rfl (Int.le_refl _)]
/-- How many blocks. -/
theorem chs_count (m : Nat) (hm : 1 ≤ m) : ∀ (n : Nat) (r : List Ent), r.length ≤ n → (r.length = 0 → (chsF n m r).length * m = 0) ∧ r.length ≤ (chsF n m r).length * m ∧ (0 < r.length → (chsF n m r).length * m < r.length + m)
  | 0, r, h => ⟨fun _ => Nat.zero_mul _, by omega, fun h2 => by omega⟩
  | n + 1, r, h => by
    simp only [chsF]
    split
    · rename_i h0
      rw [List.length_nil, Nat.zero_mul]
      omega
    · have ih := chs_count m hm n (r.drop m) (by rw [List.length_drop]; omega)
      rw [List.length_drop] at ih
      rw [List.length_cons, Nat.add_mul]
      generalize (chsF n m (r.drop m)).length * m = p at ih
      omega
theorem cU_has (xs : List ByteArray) : ∀ (m j : Nat), j < m → gS xs j ∈ cU xs m
  | 0, j, h => absurd h (Nat.not_lt_zero _)
  | m + 1, j, h => by
    simp only [cU]
    by_cases c : j < m
    · have ih := cU_has xs m j c
      split
      · exact List.mem_append_left _ ih
      · exact ih
    · obtain rfl : j = m := by omega
      split
      · exact List.mem_append_right _ (List.mem_singleton.2 rfl)
      · rename_i hc
        have h0 : ¬ j = 0 := fun e => hc (.inl e)
        have h1 : (gS xs j).toList = (gS xs (j - 1)).toList := Decidable.not_not.1 (fun e => hc (.inr e))
        rw [toList_eq_iff.1 h1]
        exact cU_has xs j (j - 1) (by omega)
theorem keys_has (l : List Ent) (i : Nat) (hi : i < l.length) : (gt l i).f0 ∈ keysF l := by
  have h := cU_has (l.map (·.f0)) (l.map (·.f0)).length i (by rw [List.length_map]; exact hi)
  have e : gS (l.map (·.f0)) i = (gt l i).f0 := by
    show List.getD _ _ _ = _
    rw [gt_get hi, List.getD_eq_getElem?_getD, List.getElem?_map, List.getElem?_eq_getElem hi]; rfl
  rw [e] at h
  exact h
theorem filter_yes (l : List Ent) (q : Nat) (hq : 1 ≤ q) (hq2 : q ≤ 20) (hl : l.length ≤ 400) (i : Nat) (hi : i < l.length) : mayR (makeR (keysF l) (q : Int)).1 (gt l i).f0 = true := by
  refine yes_of (keysF l) (q : Int) ?_ _ (keys_has l i hi)
  have h1 := cU_len (l.map (·.f0)) (l.map (·.f0)).length
  rw [List.length_map] at h1
  have h2 : (keysF l).length ≤ 400 := by unfold keysF; rw [List.length_map]; omega
  unfold makeR
  rw [if_neg (by omega), if_neg (by omega)]
/-- The table's blocks, in numbers. -/
theorem blocks_num (l : List Ent) (m : Nat) (hm : 1 ≤ m) (hm2 : m ≤ 50) (h0 : 0 < l.length) (hl : l.length ≤ 400) : ∃ P Q : Int, (((chsF l.length m l).length : Int) * (m : Int) = P) ∧ (((chsF l.length m l).length : Int) - 1) * (m : Int) = Q ∧ (l.length : Int) ≤ P ∧ P ≤ 1000 ∧ -1000 ≤ Q ∧ Q < (l.length : Int) ∧ 1 ≤ (chsF l.length m l).length ∧ (chsF l.length m l).length ≤ 400 := by
  have h := chs_count m hm l.length l (Nat.le_refl _)
  have h3 := chs_len m hm l.length l
  generalize (chsF l.length m l).length = c at h h3
  have h4 : 1 ≤ c := by
    rcases Nat.eq_zero_or_pos c with rfl | h4
    · rw [Nat.zero_mul] at h; omega
    · exact h4
  refine ⟨_, _, rfl, rfl, ?_⟩
  have e : ((c : Int) - 1) * (m : Int) = (c : Int) * (m : Int) - (m : Int) := by rw [Int.sub_mul, Int.one_mul]
  rw [e, ← Int.natCast_mul]
  generalize c * m = p at h
  omega
theorem shared_ {Goal : Prop} {G A : World → Nat → Prop} (cont : ∀ X gb, A X gb → G X gb) (main : (∀ X gb, A X gb → G X gb) → Goal) : Goal := main cont
set_option maxHeartbeats 4000000 in
set_option maxRecDepth 100000 in
theorem tableBackWalk (A0 : Option Addr) (c0 : Nat) (l0 : List Ent) (a1 a2 : Int) (w : World) (hr0 : Kd.C k36 w A0 l0.length l0) (hc0 : l0.length ≤ c0)
    (v0 : l0.length ≤ maxLen ∧ l0.length * 48 ≤ 140737488351232 ∧ ∀ x ∈ l0, V36 x) (v1 : (Lit.int .i64 a1).wf = true) (v2 : (Lit.int .i64 a2).wf = true) :
    Calls Try.prog 7 #[.slice A0 l0.length c0, .int .i64 a1, .int .i64 a2] w fun e w' => e = .returned (.bool true) ∧ Below w.heap.size w w' := by
  have hu25 := Try.underlying25
  have hu48 := Try.underlying48
  have hex := examples_calls w
  obtain ⟨d, hd⟩ : ∃ d, min l0.length 200 = d := ⟨_, rfl⟩
  have hdl : d ≤ l0.length ∧ d ≤ 200 := by omega
  have hmin : min (l0.length : Int) 200 = (d : Int) := by omega
  have hmn : (if (200 : Int) < (l0.length : Int) then (200 : Int) else (l0.length : Int)) = (d : Int) := by split <;> omega
  have hCd := Kd.C_take hr0 hdl.1
  have hld : (l0.take d).length = d := by rw [List.length_take]; omega
  have hcd : d ≤ c0 := by omega
  rw [hld] at hCd
  generalize l0.take d = l at hCd hld
  have hL0 := v0.2.1
  have hl0z : d ≤ l0.length := hdl.1
  have hd2 : d ≤ 200 := hdl.2
  clear hd hdl hr0 v0
  go_enter Try.func7, Try.ntmps7
  go_upto_region 3 with (go_at_call 8; refine hex.mono ?_; clear hex; rintro e w1 ⟨rfl, b1⟩)
  have hCd1 := Kd.C_below hCd b1
  clear hmn hmin
  have hA := build_calls A0 c0 l a1 a2 w1 (by rw [hld]; exact hCd1) (by rw [hld]; exact hcd) (by omega)
  rw [hld] at hA
  rcases buildR_cases l a1 a2 with hb | ⟨m1, m2, q1, q2, hne, hs, hb⟩
  · rw [hb] at hA
    have hA' : Calls Try.prog 9 #[.slice A0 d c0, .int .i64 a1, .int .i64 a2] w1 fun e w' => e = .returned (.tuple #[.string (⟨#[]⟩ : ByteArray), .iface 48 (.int .i64 1)]) ∧ Below w1.heap.size w1 w' := hA
    clear hA hb
    go_wp2_with (go_at_call 9; refine hA'.mono ?_; clear hA'; rintro e w2 ⟨rfl, b2⟩)
    go_ret
    exact ⟨rfl, b1.trans (b2.mono b1.size)⟩
  · rw [hb] at hA
    obtain ⟨bs, hbs⟩ : ∃ b, bytesT l a1.toNat a2.toNat = b := ⟨_, rfl⟩
    have hA' : Calls Try.prog 9 #[.slice A0 d c0, .int .i64 a1, .int .i64 a2] w1 fun e w' => e = .returned (.tuple #[.string bs, .nilIface]) ∧ Below w1.heap.size w1 w' := by rw [← hbs]; exact hA
    have hO1 : ∀ W, Calls Try.prog 12 #[.string bs] W fun e w' => ∃ tb, e = .returned (.tuple #[.pointer (some ⟨tb, 0, none⟩), .nilIface]) ∧ W.heap.size ≤ tb ∧ TB w' tb (chsF l.length a1.toNat l) (makeR (keysF l) ((a2.toNat : Nat) : Int)).1 ∧ Below W.heap.size W w' := fun W => by
      rw [← hbs]; exact opens l a1.toNat a2.toNat W (by omega) (by omega) (by omega) (by omega) hs hne (by omega)
    clear hA hb hbs
    go_upto_region 9 with (first
      | (go_at_call 9; refine hA'.mono ?_; clear hA'; rintro e w2 ⟨rfl, b2⟩; have hw2 := b1.trans (b2.mono b1.size))
      | (go_at_call 12; refine (hO1 _).mono ?_; clear hO1; rintro e w4 ⟨ta, rfl, hta, hT, b4⟩; have hw4 := hw2.trans (b4.mono hw2.size)))
    obtain ⟨P, Q, hP, hQ, hP1, hP2, hQ1, hQ2, hN1, hN2⟩ := blocks_num l a1.toNat (by omega) (by omega) hne (by omega)
    rw [show ((a1.toNat : Nat) : Int) = a1 by omega] at hP hQ
    have hyes := filter_yes l a2.toNat (by omega) (by omega) (by omega)
    have hAl := (ends_calls ta a1.toNat l _ w4 (by omega) (by omega) hne (by omega) hT).1
    have hcE : ∀ (Aa : Option Addr) (ca : Nat) (W : World), Kd.C k36 W Aa l.length l → l.length ≤ ca → Kd.C k36 W A0 l.length l → l.length ≤ c0 → Calls Try.prog 14 #[.slice Aa l.length ca, .slice A0 l.length c0] W fun e w' => e = .returned (.bool true) ∧ Drawn0 W w' := fun Aa ca W h1 h2 h3 h4 => palinodelaw13_entries.calls 2000 Aa ca l A0 c0 l true W h1 h2 h3 h4 (entries_same l (by omega) 2000 (by omega))
    have hHS := Aside0.mk hs
    have hYES := Aside0.mk hyes
    rw [hld] at hcE hP1 hQ2
    clear b1 b2 hw2 hyes hs hCd1
    go_upto_region 10 with (first
      | (go_at_call 15; refine hAl.mono ?_; clear hAl; rintro e w5 ⟨va, rfl, hRa, b5⟩; obtain ⟨Aa, ca, ea, hca, hCa⟩ := Kd.R_reads hRa; subst ea; rw [hld] at hca hCa; have hw5 := hw4.trans (b5.mono hw4.size); have hE := hcE Aa ca w5 hCa hca (Kd.C_below hCd hw5) hcd)
      | (go_at_call 14; refine hE.mono ?_; clear hE; rintro e w6 ⟨rfl, d6⟩; have hw6 := hw5.trans (d6.below.mono hw5.size); have hT6 := (hT.below b5).below d6.below; clear d6))
    have hC6 := Kd.C_below hCd hw6
    have HP := Aside0.mk (And.intro hP hQ)
    have HP2 := Aside0.mk (And.intro hP1 (And.intro hP2 (And.intro hQ1 (And.intro hQ2 (And.intro hN1 hN2)))))
    have HT := Aside0.mk hT6
    have hs6 := hHS.out
    clear hCd hcE hCa hca hRa b5 hw4 hw5 hT hP hQ hP1 hP2 hQ1 hQ2 hN1 hN2 hT6 b4
    go_wp2
    go_loopg [13] d (fun gg v13 wr => ∃ i : Nat, i ≤ d ∧ d - i ≤ gg ∧ v13 = .int .i64 (i : Int) ∧ Below w6.heap.size w6 wr)
    case atStart => exact ⟨0, Nat.zero_le _, Nat.le_refl _, rfl, Below.refl _ _⟩
    case round =>
      obtain ⟨i, hin, hig, rfl, hBr⟩ := hrel
      by_cases hlt : i < d
      · have hltz : (i : Int) < (d : Int) := by omega
        obtain ⟨ad, hA, hx0, hx1, hx2, hx3⟩ := at_T36 hC6 (i : Int) (by omega) (by omega)
        rw [rd_gt, Int.toNat_natCast] at hx0 hx1 hx2 hx3
        have hF := find_self hHS.out i (by omega)
        have hY := hYES.out i (by omega)
        have hks := gt_small l hHS.out i (by omega)
        have hfz : (makeR (keysF l) ((a2.toNat : Nat) : Int)).1.size ≤ 140737488355328 := by have := makeR_size (keysF l) ((a2.toNat : Nat) : Int); omega
        generalize gt l i = x at hx0 hx1 hx2 hx3 hF hY hks
        subst hA
        clear hHS hYES HP HP2
        have held : ∀ X, Below w6.heap.size w6 X → X.cell? (ad.add (i * 4)) = some (.string x.f0) ∧ X.cell? { block := (ad.add (i * 4)).block, off := (ad.add (i * 4)).off + 1 } = some (.int .i64 x.f1) := fun X hX =>
          ⟨(hX.cell (World.block_lt_of_cell? _ _ hx0)).trans hx0, (hX.cell (World.block_lt_of_cell? _ _ hx1)).trans hx1⟩
        have hget : ∀ X, Below w6.heap.size w6 X → _ := fun X hX => get_of ta x.f0 x.f1 l a1.toNat _ X (by omega) (by omega) hs6 (by omega) (HT.out.below hX) _ _ _ _ _ hF
        have hX0 := Aside0.mk hx0; have hX1 := Aside0.mk hx1; have hX2 := Aside0.mk hx2; have hX3 := Aside0.mk hx3
        clear hx0 hx1 hx2 hx3
        go_upto_region 13 with (fail)
        have hBd : Below w6.heap.size w6 wr.drew := hBr.trans ((below_drew1 (Below.refl _ _)).mono hBr.size)
        refine start_ (S := fun w' => w'.cell? (ad.add (i * 4)) = some (.string x.f0) ∧ w'.cell? { block := (ad.add (i * 4)).block, off := (ad.add (i * 4)).off + 1 } = some (.int .i64 x.f1)) (ds := []) #[false, false, false, false, false, false, false, false, false, false, false, false, false, false, false, false, false, false] (by kernel_rfl) rfl rfl (held _ hBd) ?_
        intro hHeld
        generalize wr.drew = Wd at hHeld hBd ⊢
        clear hBr
        refine pure_ (i := 0) (N := some 58) (v := ?_) (a' := ?_) #[true, false, false, false, false, false, false, false, false, false, false, false, false, false, false, false, false, false] rfl rfl (by kernel_rfl) (fun _ _ _ h => h) (Or.inl ⟨by rfl, ?_⟩) ?_ ?_
        rotate_left
        · intro w'
          go_simp
          with_reducible rfl
        rotate_left
        · simp only [Act.put, List.setIfInBounds_toArray, List.set_cons_zero, List.set_cons_succ, i64_w, i32_w]
          rfl
        refine pure_ (i := 1) (N := some 59) (v := ?_) (a' := ?_) #[true, true, false, false, false, false, false, false, false, false, false, false, false, false, false, false, false, false] rfl rfl (by kernel_rfl) (fun _ _ _ h => h) (Or.inl ⟨by rfl, ?_⟩) ?_ ?_
        rotate_left
        · intro w'
          go_simp
          with_reducible rfl
        rotate_left
        · simp only [Act.put, List.setIfInBounds_toArray, List.set_cons_zero, List.set_cons_succ, i64_w, i32_w]
          rfl
        refine pure_ (i := 2) (N := some 60) (v := ?_) (a' := ?_) #[true, true, true, false, false, false, false, false, false, false, false, false, false, false, false, false, false, false] rfl rfl (by kernel_rfl) (fun _ _ _ h => h) (Or.inl ⟨by rfl, ?_⟩) ?_ ?_
        rotate_left
        · intro w'
          go_simp
          with_reducible rfl
        rotate_left
        · simp only [Act.put, List.setIfInBounds_toArray, List.set_cons_zero, List.set_cons_succ, i64_w, i32_w]
          rfl
        refine pure_ (i := 3) (N := some 61) (v := ?_) (a' := ?_) #[true, true, true, true, false, false, false, false, false, false, false, false, false, false, false, false, false, false] rfl rfl (by kernel_rfl) (fun _ _ _ h => h) (Or.inl ⟨by rfl, ?_⟩) ?_ ?_
        rotate_left
        · intro w'
          go_simp
          with_reducible rfl
        rotate_left
        · simp only [Act.put, List.setIfInBounds_toArray, List.set_cons_zero, List.set_cons_succ, i64_w, i32_w]
          rfl
        refine pure_ (i := 4) (N := some 62) (v := ?_) (a' := ?_) #[true, true, true, true, true, false, false, false, false, false, false, false, false, false, false, false, false, false] rfl rfl (by kernel_rfl) (fun _ _ _ h => h) (Or.inl ⟨by rfl, ?_⟩) ?_ ?_
        rotate_left
        · intro w'
          go_simp
          with_reducible rfl
        rotate_left
        · simp only [Act.put, List.setIfInBounds_toArray, List.set_cons_zero, List.set_cons_succ, i64_w, i32_w]
          rfl
        refine take_ (i := 5) (N := some 63) (v := ?_) (a' := ?_) #[true, true, true, true, true, true, false, false, false, false, false, false, false, false, false, false, false, false] rfl rfl (by kernel_rfl) (fun _ _ _ h => h) (Or.inl ⟨by rfl, ?_⟩) hHeld ?_ ?_
        rotate_left
        · rintro w' ⟨s0, s1⟩
          go_simp
          with_reducible rfl
        rotate_left
        · simp only [Act.put, List.setIfInBounds_toArray, List.set_cons_zero, List.set_cons_succ, i64_w, i32_w]
          rfl
        refine pure_ (i := 6) (N := some 64) (v := ?_) (a' := ?_) #[true, true, true, true, true, true, true, false, false, false, false, false, false, false, false, false, false, false] rfl rfl (by kernel_rfl) (fun _ _ _ h => h) (Or.inl ⟨by rfl, ?_⟩) ?_ ?_
        rotate_left
        · intro w'
          go_simp
          with_reducible rfl
        rotate_left
        · simp only [Act.put, List.setIfInBounds_toArray, List.set_cons_zero, List.set_cons_succ, i64_w, i32_w]
          rfl
        refine pure_ (i := 7) (N := some 65) (v := ?_) (a' := ?_) #[true, true, true, true, true, true, true, true, false, false, false, false, false, false, false, false, false, false] rfl rfl (by kernel_rfl) (fun _ _ _ h => h) (Or.inl ⟨by rfl, ?_⟩) ?_ ?_
        rotate_left
        · intro w'
          go_simp
          with_reducible rfl
        rotate_left
        · simp only [Act.put, List.setIfInBounds_toArray, List.set_cons_zero, List.set_cons_succ, i64_w, i32_w]
          rfl
        refine pure_ (i := 8) (N := some 66) (v := ?_) (a' := ?_) #[true, true, true, true, true, true, true, true, true, false, false, false, false, false, false, false, false, false] rfl rfl (by kernel_rfl) (fun _ _ _ h => h) (Or.inl ⟨by rfl, ?_⟩) ?_ ?_
        rotate_left
        · intro w'
          go_simp
          with_reducible rfl
        rotate_left
        · simp only [Act.put, List.setIfInBounds_toArray, List.set_cons_zero, List.set_cons_succ, i64_w, i32_w]
          rfl
        refine pure_ (i := 9) (N := some 67) (v := ?_) (a' := ?_) #[true, true, true, true, true, true, true, true, true, true, false, false, false, false, false, false, false, false] rfl rfl (by kernel_rfl) (fun _ _ _ h => h) (Or.inl ⟨by rfl, ?_⟩) ?_ ?_
        rotate_left
        · intro w'
          go_simp
          with_reducible rfl
        rotate_left
        · simp only [Act.put, List.setIfInBounds_toArray, List.set_cons_zero, List.set_cons_succ, i64_w, i32_w]
          rfl
        refine take_ (i := 10) (N := some 68) (v := ?_) (a' := ?_) #[true, true, true, true, true, true, true, true, true, true, true, false, false, false, false, false, false, false] rfl rfl (by kernel_rfl) (fun _ _ _ h => h) (Or.inl ⟨by rfl, ?_⟩) hHeld ?_ ?_
        rotate_left
        · rintro w' ⟨s0, s1⟩
          go_simp
          with_reducible rfl
        rotate_left
        · simp only [Act.put, List.setIfInBounds_toArray, List.set_cons_zero, List.set_cons_succ, i64_w, i32_w]
          rfl
        apply shared_ (A := fun X gb => X.heap[gb]? = some (.cells #[.string x.f0, .int .i64 x.f1, .bool x.f2, .string x.f3] 36 (0, 0)) ∧ Below w6.heap.size w6 X)
        case main =>
          intro cont
          refine two_ (i := 11) (j := 15) (Ni := some 69) (Nj := some 14) #[true, true, true, true, true, true, true, true, true, true, true, true, false, false, false, false, false, false] #[true, true, true, true, true, true, true, true, true, true, true, false, false, false, false, true, false, false] rfl rfl rfl rfl (by kernel_rfl) (by decide) (by decide) (fun K hK => ?_) (fun K hK => ?_)
          · refine goes_ Try.func13 (by kernel_rfl) rfl #[.pointer (some ⟨ta, 0, none⟩), .string x.f0, .int .i64 x.f1] (by rfl) rfl rfl (by (try simp only [List.map_toArray, List.map_cons, List.map_nil]); first | done | rfl) ?_
            refine (hget Wd hBd).mono ?_
            rintro e w7 ⟨rfl, hb⟩
            refine ⟨_, rfl, ?_⟩
            have hD7 : Below w6.heap.size w6 w7 := hBd.trans (hb.mono hBd.size)
            refine hK.out _ _ (held w7 hD7) (fun hHeld => ?_)
            clear hb hK K
            refine norm_ (a' := ?_) ?_ ?_
            rotate_left
            · show Act.put _ (some 69) _ = _
              simp only [Act.put, List.setIfInBounds_toArray, List.set_cons_zero, List.set_cons_succ, i64_w, i32_w]
              rfl
            refine pure_ (i := 12) (N := some 57) (v := ?_) (a' := ?_) #[true, true, true, true, true, true, true, true, true, true, true, true, true, false, false, false, false, false] rfl rfl (by kernel_rfl) (fun _ _ _ h => h) (Or.inl ⟨by rfl, ?_⟩) ?_ ?_
            rotate_left
            · intro w'
              go_simp
              with_reducible rfl
            rotate_left
            · simp only [Act.put, List.setIfInBounds_toArray, List.set_cons_zero, List.set_cons_succ, i64_w, i32_w]
              rfl
            refine pure_ (i := 13) (N := some 70) (v := ?_) (a' := ?_) #[true, true, true, true, true, true, true, true, true, true, true, true, true, true, false, false, false, false] rfl rfl (by kernel_rfl) (fun _ _ _ h => h) (Or.inl ⟨by rfl, ?_⟩) ?_ ?_
            rotate_left
            · intro w'
              go_simp
              with_reducible rfl
            rotate_left
            · simp only [Act.put, List.setIfInBounds_toArray, List.set_cons_zero, List.set_cons_succ, i64_w, i32_w]
              rfl
            refine pure_ (i := 14) (N := some 71) (v := ?_) (a' := ?_) #[true, true, true, true, true, true, true, true, true, true, true, true, true, true, true, false, false, false] rfl rfl (by kernel_rfl) (fun _ _ _ h => h) (Or.inl ⟨by rfl, ?_⟩) ?_ ?_
            rotate_left
            · intro w'
              go_simp
              with_reducible rfl
            rotate_left
            · simp only [Act.put, List.setIfInBounds_toArray, List.set_cons_zero, List.set_cons_succ, i64_w, i32_w]
              rfl
            refine one_ (i := 15) (N := some 14) #[true, true, true, true, true, true, true, true, true, true, true, true, true, true, true, true, false, false] rfl rfl (by kernel_rfl) (by decide) (fun K hK => ?_)
            refine value_ (w1 := ?_) (v := ?_) (by rfl) rfl ?_ ?_
            rotate_left 2
            · go_simp
              first | (constructor <;> rfl) | rfl
            have hD8 : Below w6.heap.size w6 (w7.alloc (.cells #[.string (⟨#[]⟩ : ByteArray), .int .i64 0, .bool false, .string (⟨#[]⟩ : ByteArray)] 36)) := hD7.alloc hD7.size _
            have BE := Aside0.mk (heap_alloc_new w7 (.cells #[.string (⟨#[]⟩ : ByteArray), .int .i64 0, .bool false, .string (⟨#[]⟩ : ByteArray)] 36))
            refine hK.out _ _ (held _ hD8) (fun hHeld => ?_)
            clear hK K
            refine norm_ (a' := ?_) ?_ ?_
            rotate_left
            · show Act.put _ (some 14) _ = _
              simp only [Act.put, List.setIfInBounds_toArray, List.set_cons_zero, List.set_cons_succ, i64_w, i32_w]
              rfl
            obtain ⟨⟨ec0, ec1, ec2, ec3⟩, ef0, ef1, ef2, ef3⟩ := Zk4 BE
            refine one_ (i := 16) (N := none) #[true, true, true, true, true, true, true, true, true, true, true, true, true, true, true, true, true, false] rfl rfl (by kernel_rfl) (by decide) (fun K hK => ?_)
            refine skip_ (w1 := ?_) (by rfl) rfl ?_ ?_
            rotate_left
            · go_simp
              rfl
            have hBf : Below w6.heap.size w6 (w7.alloc (.cells #[.string x.f0, .int .i64 x.f1, .bool x.f2, .string x.f3] 36)) := hD7.alloc hD7.size _
            have hEf := heap_alloc_new w7 (.cells #[.string x.f0, .int .i64 x.f1, .bool x.f2, .string x.f3] 36)
            have hgz : w6.heap.size ≤ w7.heap.size := hD7.size
            refine hK.out _ _ (held _ hBf) (fun hHeld => ?_)
            clear hK K hHeld ec0 ec1 ec2 ec3 ef0 ef1 ef2 ef3 BE hD8
            generalize w7.heap.size = gb at hEf hgz ⊢
            refine world_any (G := fun X => wpAnyLast _ _ _ _ _ _ _ _ _ X) (fun X => X.heap[gb]? = some (.cells #[.string x.f0, .int .i64 x.f1, .bool x.f2, .string x.f3] 36 (0, 0)) ∧ Below w6.heap.size w6 X) ⟨hEf, hBf⟩ ?_
            rintro X ⟨heX, hBX⟩
            clear hBf hEf hD7
            refine pure_ (i := 17) (N := some 15) (v := ?_) (a' := ?_) #[true, true, true, true, true, true, true, true, true, true, true, true, true, true, true, true, true, true] rfl rfl (by kernel_rfl) (fun _ _ _ h => h) (Or.inl ⟨by rfl, ?_⟩) ?_ ?_
            rotate_left
            · intro w'
              go_simp
              with_reducible rfl
            rotate_left
            · simp only [Act.put, List.setIfInBounds_toArray, List.set_cons_zero, List.set_cons_succ, i64_w, i32_w]
              rfl
            refine done_ (by kernel_rfl) ?_
            exact cont X gb ⟨heX, hBX⟩
          · refine value_ (w1 := ?_) (v := ?_) (by rfl) rfl ?_ ?_
            rotate_left 2
            · go_simp
              first | (constructor <;> rfl) | rfl
            have hD8 : Below w6.heap.size w6 (Wd.alloc (.cells #[.string (⟨#[]⟩ : ByteArray), .int .i64 0, .bool false, .string (⟨#[]⟩ : ByteArray)] 36)) := hBd.alloc hBd.size _
            have BE := heap_alloc_new Wd (.cells #[.string (⟨#[]⟩ : ByteArray), .int .i64 0, .bool false, .string (⟨#[]⟩ : ByteArray)] 36)
            refine hK.out _ _ (held _ hD8) (fun hHeld => ?_)
            clear hK K
            refine norm_ (a' := ?_) ?_ ?_
            rotate_left
            · show Act.put _ (some 14) _ = _
              simp only [Act.put, List.setIfInBounds_toArray, List.set_cons_zero, List.set_cons_succ, i64_w, i32_w]
              rfl
            have hgb : w6.heap.size ≤ Wd.heap.size := hBd.size
            generalize Wd.heap.size = gb at BE hgb ⊢
            generalize Wd.alloc (.cells #[.string (⟨#[]⟩ : ByteArray), .int .i64 0, .bool false, .string (⟨#[]⟩ : ByteArray)] 36) = Wa at BE hD8 hHeld ⊢
            refine one_ (i := 11) (N := some 69) #[true, true, true, true, true, true, true, true, true, true, true, true, false, false, false, true, false, false] rfl rfl (by kernel_rfl) (by decide) (fun K hK => ?_)
            refine goes_ Try.func13 (by kernel_rfl) rfl #[.pointer (some ⟨ta, 0, none⟩), .string x.f0, .int .i64 x.f1] (by rfl) rfl rfl (by (try simp only [List.map_toArray, List.map_cons, List.map_nil]); first | done | rfl) ?_
            refine (hget Wa hD8).mono ?_
            rintro e w7 ⟨rfl, hb⟩
            refine ⟨_, rfl, ?_⟩
            have hD7 : Below w6.heap.size w6 w7 := hD8.trans (hb.mono hD8.size)
            have BE7 := (hb.block gb (Array.getElem?_eq_some_iff.1 BE).1).trans BE
            refine hK.out _ _ (held w7 hD7) (fun hHeld => ?_)
            clear hb hK K BE
            refine norm_ (a' := ?_) ?_ ?_
            rotate_left
            · show Act.put _ (some 69) _ = _
              simp only [Act.put, List.setIfInBounds_toArray, List.set_cons_zero, List.set_cons_succ, i64_w, i32_w]
              rfl
            obtain ⟨⟨ec0, ec1, ec2, ec3⟩, ef0, ef1, ef2, ef3⟩ := Zk4 (Aside0.mk BE7)
            refine pure_ (i := 12) (N := some 57) (v := ?_) (a' := ?_) #[true, true, true, true, true, true, true, true, true, true, true, true, true, false, false, true, false, false] rfl rfl (by kernel_rfl) (fun _ _ _ h => h) (Or.inl ⟨by rfl, ?_⟩) ?_ ?_
            rotate_left
            · intro w'
              go_simp
              with_reducible rfl
            rotate_left
            · simp only [Act.put, List.setIfInBounds_toArray, List.set_cons_zero, List.set_cons_succ, i64_w, i32_w]
              rfl
            refine pure_ (i := 13) (N := some 70) (v := ?_) (a' := ?_) #[true, true, true, true, true, true, true, true, true, true, true, true, true, true, false, true, false, false] rfl rfl (by kernel_rfl) (fun _ _ _ h => h) (Or.inl ⟨by rfl, ?_⟩) ?_ ?_
            rotate_left
            · intro w'
              go_simp
              with_reducible rfl
            rotate_left
            · simp only [Act.put, List.setIfInBounds_toArray, List.set_cons_zero, List.set_cons_succ, i64_w, i32_w]
              rfl
            refine pure_ (i := 14) (N := some 71) (v := ?_) (a' := ?_) #[true, true, true, true, true, true, true, true, true, true, true, true, true, true, true, true, false, false] rfl rfl (by kernel_rfl) (fun _ _ _ h => h) (Or.inl ⟨by rfl, ?_⟩) ?_ ?_
            rotate_left
            · intro w'
              go_simp
              with_reducible rfl
            rotate_left
            · simp only [Act.put, List.setIfInBounds_toArray, List.set_cons_zero, List.set_cons_succ, i64_w, i32_w]
              rfl
            refine one_ (i := 16) (N := none) #[true, true, true, true, true, true, true, true, true, true, true, true, true, true, true, true, true, false] rfl rfl (by kernel_rfl) (by decide) (fun K hK => ?_)
            refine skip_ (w1 := ?_) (by rfl) rfl ?_ ?_
            rotate_left
            · go_simp
              rfl
            have hBf : Below w6.heap.size w6 ((((w7.setCell ⟨gb, 0, none⟩ (.string x.f0)).setCell ⟨gb, 1, none⟩ (.int .i64 x.f1)).setCell ⟨gb, 2, none⟩ (.bool x.f2)).setCell ⟨gb, 3, none⟩ (.string x.f3)) := (((hD7.setCell hgb _).setCell hgb _).setCell hgb _).setCell hgb _
            have hEf := put4 (.string x.f0) (.int .i64 x.f1) (.bool x.f2) (.string x.f3) BE7
            refine hK.out _ _ (held _ hBf) (fun hHeld => ?_)
            clear hK K hHeld ec0 ec1 ec2 ec3 ef0 ef1 ef2 ef3
            refine world_any (G := fun X => wpAnyLast _ _ _ _ _ _ _ _ _ X) (fun X => X.heap[gb]? = some (.cells #[.string x.f0, .int .i64 x.f1, .bool x.f2, .string x.f3] 36 (0, 0)) ∧ Below w6.heap.size w6 X) ⟨hEf, hBf⟩ ?_
            rintro X ⟨heX, hBX⟩
            clear hBf hEf BE7 hD7 hD8
            refine pure_ (i := 17) (N := some 15) (v := ?_) (a' := ?_) #[true, true, true, true, true, true, true, true, true, true, true, true, true, true, true, true, true, true] rfl rfl (by kernel_rfl) (fun _ _ _ h => h) (Or.inl ⟨by rfl, ?_⟩) ?_ ?_
            rotate_left
            · intro w'
              go_simp
              with_reducible rfl
            rotate_left
            · simp only [Act.put, List.setIfInBounds_toArray, List.set_cons_zero, List.set_cons_succ, i64_w, i32_w]
              rfl
            refine done_ (by kernel_rfl) ?_
            exact cont X gb ⟨heX, hBX⟩
        case cont =>
          rintro X gb ⟨heX, hBX⟩
          obtain ⟨⟨ec0, ec1, ec2, ec3⟩, ef0, ef1, ef2, ef3⟩ := Zk4 (Aside0.mk heX)
          have g0 := (hBX.cell (World.block_lt_of_cell? _ _ hX0.out)).trans hX0.out
          have g1 := (hBX.cell (World.block_lt_of_cell? _ _ hX1.out)).trans hX1.out
          have g2 := (hBX.cell (World.block_lt_of_cell? _ _ hX2.out)).trans hX2.out
          have g3 := (hBX.cell (World.block_lt_of_cell? _ _ hX3.out)).trans hX3.out
          have hM : ∀ W, Below w6.heap.size w6 W → Calls Try.prog 18 #[.pointer (some ⟨ta, 0, none⟩), .string x.f0] W fun e w' => e = .returned (.bool true) ∧ Below W.heap.size W w' := fun W hW => by
            have h := tmay_calls ta _ _ x.f0 W (HT.out.below hW) hfz (by omega)
            rwa [hY] at h
          have held2 : ∀ Y, Below X.heap.size X Y → Y.cell? ⟨gb, 0, none⟩ = some (.string x.f0) ∧ Y.cell? ⟨gb, 1, none⟩ = some (.int .i64 x.f1) ∧ Y.cell? ⟨gb, 2, none⟩ = some (.bool x.f2) ∧ Y.cell? ⟨gb, 3, none⟩ = some (.string x.f3) ∧ Y.cell? (ad.add (i * 4)) = some (.string x.f0) ∧ Y.cell? { block := (ad.add (i * 4)).block, off := (ad.add (i * 4)).off + 1 } = some (.int .i64 x.f1) ∧ Y.cell? { block := (ad.add (i * 4)).block, off := (ad.add (i * 4)).off + 2 } = some (.bool x.f2) ∧ Y.cell? { block := (ad.add (i * 4)).block, off := (ad.add (i * 4)).off + 3 } = some (.string x.f3) := fun Y hY2 =>
            ⟨(hY2.cell (World.block_lt_of_cell? _ _ ec0)).trans ec0, (hY2.cell (World.block_lt_of_cell? _ _ ec1)).trans ec1, (hY2.cell (World.block_lt_of_cell? _ _ ec2)).trans ec2, (hY2.cell (World.block_lt_of_cell? _ _ ec3)).trans ec3, (hY2.cell (World.block_lt_of_cell? _ _ g0)).trans g0, (hY2.cell (World.block_lt_of_cell? _ _ g1)).trans g1, (hY2.cell (World.block_lt_of_cell? _ _ g2)).trans g2, (hY2.cell (World.block_lt_of_cell? _ _ g3)).trans g3⟩
          clear ec0 ec1 ec2 ec3 ef0 ef1 ef2 ef3 g0 g1 g2 g3 hF hY heX
          go_upto_region 14 with (fail)
          have hXd : Below X.heap.size X X.drew := below_drew1 (Below.refl _ _)
          have hXe : Below w6.heap.size w6 X.drew := hBX.trans (hXd.mono hBX.size)
          refine start_ (S := fun Y => Y.cell? ⟨gb, 0, none⟩ = some (.string x.f0) ∧ Y.cell? ⟨gb, 1, none⟩ = some (.int .i64 x.f1) ∧ Y.cell? ⟨gb, 2, none⟩ = some (.bool x.f2) ∧ Y.cell? ⟨gb, 3, none⟩ = some (.string x.f3) ∧ Y.cell? (ad.add (i * 4)) = some (.string x.f0) ∧ Y.cell? { block := (ad.add (i * 4)).block, off := (ad.add (i * 4)).off + 1 } = some (.int .i64 x.f1) ∧ Y.cell? { block := (ad.add (i * 4)).block, off := (ad.add (i * 4)).off + 2 } = some (.bool x.f2) ∧ Y.cell? { block := (ad.add (i * 4)).block, off := (ad.add (i * 4)).off + 3 } = some (.string x.f3)) (ds := []) #[false, false, false, false, false, false, false, false, false, false, false, false, false, false, false, false, false, false, false, false] (by kernel_rfl) rfl rfl (held2 _ hXd) ?_
          intro hHeld
          generalize X.drew = Xd at hHeld hXd hXe ⊢
          refine pure_ (i := 0) (N := some 72) (v := ?_) (a' := ?_) #[true, false, false, false, false, false, false, false, false, false, false, false, false, false, false, false, false, false, false, false] rfl rfl (by kernel_rfl) (fun _ _ _ h => h) (Or.inl ⟨by rfl, ?_⟩) ?_ ?_
          rotate_left
          · intro w'
            go_simp
            with_reducible rfl
          rotate_left
          · simp only [Act.put, List.setIfInBounds_toArray, List.set_cons_zero, List.set_cons_succ, i64_w, i32_w]
            rfl
          refine pure_ (i := 1) (N := some 73) (v := ?_) (a' := ?_) #[true, true, false, false, false, false, false, false, false, false, false, false, false, false, false, false, false, false, false, false] rfl rfl (by kernel_rfl) (fun _ _ _ h => h) (Or.inl ⟨by rfl, ?_⟩) ?_ ?_
          rotate_left
          · intro w'
            go_simp
            with_reducible rfl
          rotate_left
          · simp only [Act.put, List.setIfInBounds_toArray, List.set_cons_zero, List.set_cons_succ, i64_w, i32_w]
            rfl
          refine pure_ (i := 2) (N := some 74) (v := ?_) (a' := ?_) #[true, true, true, false, false, false, false, false, false, false, false, false, false, false, false, false, false, false, false, false] rfl rfl (by kernel_rfl) (fun _ _ _ h => h) (Or.inl ⟨by rfl, ?_⟩) ?_ ?_
          rotate_left
          · intro w'
            go_simp
            with_reducible rfl
          rotate_left
          · simp only [Act.put, List.setIfInBounds_toArray, List.set_cons_zero, List.set_cons_succ, i64_w, i32_w]
            rfl
          refine take_ (i := 3) (N := some 75) (v := ?_) (a' := ?_) #[true, true, true, true, false, false, false, false, false, false, false, false, false, false, false, false, false, false, false, false] rfl rfl (by kernel_rfl) (fun _ _ _ h => h) (Or.inl ⟨by rfl, ?_⟩) hHeld ?_ ?_
          rotate_left
          · rintro w' ⟨s0, s1, s2, s3, t0, t1, t2, t3⟩
            go_simp
            with_reducible rfl
          rotate_left
          · simp only [Act.put, List.setIfInBounds_toArray, List.set_cons_zero, List.set_cons_succ, i64_w, i32_w]
            rfl
          refine pure_ (i := 4) (N := some 76) (v := ?_) (a' := ?_) #[true, true, true, true, true, false, false, false, false, false, false, false, false, false, false, false, false, false, false, false] rfl rfl (by kernel_rfl) (fun _ _ _ h => h) (Or.inl ⟨by rfl, ?_⟩) ?_ ?_
          rotate_left
          · intro w'
            go_simp
            with_reducible rfl
          rotate_left
          · simp only [Act.put, List.setIfInBounds_toArray, List.set_cons_zero, List.set_cons_succ, i64_w, i32_w]
            rfl
          refine pure_ (i := 5) (N := some 77) (v := ?_) (a' := ?_) #[true, true, true, true, true, true, false, false, false, false, false, false, false, false, false, false, false, false, false, false] rfl rfl (by kernel_rfl) (fun _ _ _ h => h) (Or.inl ⟨by rfl, ?_⟩) ?_ ?_
          rotate_left
          · intro w'
            go_simp
            with_reducible rfl
          rotate_left
          · simp only [Act.put, List.setIfInBounds_toArray, List.set_cons_zero, List.set_cons_succ, i64_w, i32_w]
            rfl
          refine pure_ (i := 6) (N := some 78) (v := ?_) (a' := ?_) #[true, true, true, true, true, true, true, false, false, false, false, false, false, false, false, false, false, false, false, false] rfl rfl (by kernel_rfl) (fun _ _ _ h => h) (Or.inl ⟨by rfl, ?_⟩) ?_ ?_
          rotate_left
          · intro w'
            go_simp
            with_reducible rfl
          rotate_left
          · simp only [Act.put, List.setIfInBounds_toArray, List.set_cons_zero, List.set_cons_succ, i64_w, i32_w]
            rfl
          refine take_ (i := 7) (N := some 79) (v := ?_) (a' := ?_) #[true, true, true, true, true, true, true, true, false, false, false, false, false, false, false, false, false, false, false, false] rfl rfl (by kernel_rfl) (fun _ _ _ h => h) (Or.inl ⟨by rfl, ?_⟩) hHeld ?_ ?_
          rotate_left
          · rintro w' ⟨s0, s1, s2, s3, t0, t1, t2, t3⟩
            go_simp
            with_reducible rfl
          rotate_left
          · simp only [Act.put, List.setIfInBounds_toArray, List.set_cons_zero, List.set_cons_succ, i64_w, i32_w]
            rfl
          refine pure_ (i := 8) (N := some 80) (v := ?_) (a' := ?_) #[true, true, true, true, true, true, true, true, true, false, false, false, false, false, false, false, false, false, false, false] rfl rfl (by kernel_rfl) (fun _ _ _ h => h) (Or.inl ⟨by rfl, ?_⟩) ?_ ?_
          rotate_left
          · intro w'
            go_simp
            with_reducible rfl
          rotate_left
          · simp only [Act.put, List.setIfInBounds_toArray, List.set_cons_zero, List.set_cons_succ, i64_w, i32_w]
            rfl
          refine pure_ (i := 9) (N := some 81) (v := ?_) (a' := ?_) #[true, true, true, true, true, true, true, true, true, true, false, false, false, false, false, false, false, false, false, false] rfl rfl (by kernel_rfl) (fun _ _ _ h => h) (Or.inl ⟨by rfl, ?_⟩) ?_ ?_
          rotate_left
          · intro w'
            go_simp
            with_reducible rfl
          rotate_left
          · simp only [Act.put, List.setIfInBounds_toArray, List.set_cons_zero, List.set_cons_succ, i64_w, i32_w]
            rfl
          refine pure_ (i := 10) (N := some 82) (v := ?_) (a' := ?_) #[true, true, true, true, true, true, true, true, true, true, true, false, false, false, false, false, false, false, false, false] rfl rfl (by kernel_rfl) (fun _ _ _ h => h) (Or.inl ⟨by rfl, ?_⟩) ?_ ?_
          rotate_left
          · intro w'
            go_simp
            with_reducible rfl
          rotate_left
          · simp only [Act.put, List.setIfInBounds_toArray, List.set_cons_zero, List.set_cons_succ, i64_w, i32_w]
            rfl
          refine pure_ (i := 11) (N := some 83) (v := ?_) (a' := ?_) #[true, true, true, true, true, true, true, true, true, true, true, true, false, false, false, false, false, false, false, false] rfl rfl (by kernel_rfl) (fun _ _ _ h => h) (Or.inl ⟨by rfl, ?_⟩) ?_ ?_
          rotate_left
          · intro w'
            go_simp
            with_reducible rfl
          rotate_left
          · simp only [Act.put, List.setIfInBounds_toArray, List.set_cons_zero, List.set_cons_succ, i64_w, i32_w]
            rfl
          refine pure_ (i := 12) (N := some 84) (v := ?_) (a' := ?_) #[true, true, true, true, true, true, true, true, true, true, true, true, true, false, false, false, false, false, false, false] rfl rfl (by kernel_rfl) (fun _ _ _ h => h) (Or.inl ⟨by rfl, ?_⟩) ?_ ?_
          rotate_left
          · intro w'
            go_simp
            with_reducible rfl
          rotate_left
          · simp only [Act.put, List.setIfInBounds_toArray, List.set_cons_zero, List.set_cons_succ, i64_w, i32_w]
            rfl
          refine pure_ (i := 13) (N := some 85) (v := ?_) (a' := ?_) #[true, true, true, true, true, true, true, true, true, true, true, true, true, true, false, false, false, false, false, false] rfl rfl (by kernel_rfl) (fun _ _ _ h => h) (Or.inl ⟨by rfl, ?_⟩) ?_ ?_
          rotate_left
          · intro w'
            go_simp
            with_reducible rfl
          rotate_left
          · simp only [Act.put, List.setIfInBounds_toArray, List.set_cons_zero, List.set_cons_succ, i64_w, i32_w]
            rfl
          refine pure_ (i := 14) (N := some 86) (v := ?_) (a' := ?_) #[true, true, true, true, true, true, true, true, true, true, true, true, true, true, true, false, false, false, false, false] rfl rfl (by kernel_rfl) (fun _ _ _ h => h) (Or.inl ⟨by rfl, ?_⟩) ?_ ?_
          rotate_left
          · intro w'
            go_simp
            with_reducible rfl
          rotate_left
          · simp only [Act.put, List.setIfInBounds_toArray, List.set_cons_zero, List.set_cons_succ, i64_w, i32_w]
            rfl
          refine pure_ (i := 15) (N := some 87) (v := ?_) (a' := ?_) #[true, true, true, true, true, true, true, true, true, true, true, true, true, true, true, true, false, false, false, false] rfl rfl (by kernel_rfl) (fun _ _ _ h => h) (Or.inl ⟨by rfl, ?_⟩) ?_ ?_
          rotate_left
          · intro w'
            go_simp
            with_reducible rfl
          rotate_left
          · simp only [Act.put, List.setIfInBounds_toArray, List.set_cons_zero, List.set_cons_succ, i64_w, i32_w]
            rfl
          refine take_ (i := 16) (N := some 88) (v := ?_) (a' := ?_) #[true, true, true, true, true, true, true, true, true, true, true, true, true, true, true, true, true, false, false, false] rfl rfl (by kernel_rfl) (fun _ _ _ h => h) (Or.inl ⟨by rfl, ?_⟩) hHeld ?_ ?_
          rotate_left
          · rintro w' ⟨s0, s1, s2, s3, t0, t1, t2, t3⟩
            go_simp
            with_reducible rfl
          rotate_left
          · simp only [Act.put, List.setIfInBounds_toArray, List.set_cons_zero, List.set_cons_succ, i64_w, i32_w]
            rfl
          refine one_ (i := 17) (N := some 89) #[true, true, true, true, true, true, true, true, true, true, true, true, true, true, true, true, true, true, false, false] rfl rfl (by kernel_rfl) (by decide) (fun K hK => ?_)
          refine goes_ Try.func18 (by kernel_rfl) rfl #[.pointer (some ⟨ta, 0, none⟩), .string x.f0] (by rfl) rfl rfl (by (try simp only [List.map_toArray, List.map_cons, List.map_nil]); first | done | rfl) ?_
          refine (hM Xd hXe).mono ?_
          rintro e w9 ⟨rfl, hb⟩
          refine ⟨_, rfl, ?_⟩
          have hW9 := hXd.trans (hb.mono hXd.size)
          have hB9 := hXe.trans (hb.mono hXe.size)
          refine hK.out _ _ (held2 w9 hW9) (fun hHeld => ?_)
          clear hb hK K
          refine norm_ (a' := ?_) ?_ ?_
          rotate_left
          · show Act.put _ (some 89) _ = _
            simp only [Act.put, List.setIfInBounds_toArray, List.set_cons_zero, List.set_cons_succ, i64_w, i32_w]
            rfl
          refine pure_ (i := 18) (N := some 90) (v := ?_) (a' := ?_) #[true, true, true, true, true, true, true, true, true, true, true, true, true, true, true, true, true, true, true, false] rfl rfl (by kernel_rfl) (fun _ _ _ h => h) (Or.inl ⟨by rfl, ?_⟩) ?_ ?_
          rotate_left
          · intro w'
            go_simp
            with_reducible rfl
          rotate_left
          · simp only [Act.put, List.setIfInBounds_toArray, List.set_cons_zero, List.set_cons_succ, i64_w, i32_w]
            rfl
          refine pure_ (i := 19) (N := some 91) (v := ?_) (a' := ?_) #[true, true, true, true, true, true, true, true, true, true, true, true, true, true, true, true, true, true, true, true] rfl rfl (by kernel_rfl) (fun _ _ _ h => h) (Or.inl ⟨by rfl, ?_⟩) ?_ ?_
          rotate_left
          · intro w'
            go_simp
            with_reducible rfl
          rotate_left
          · simp only [Act.put, List.setIfInBounds_toArray, List.set_cons_zero, List.set_cons_succ, i64_w, i32_w]
            rfl
          refine done_ (by kernel_rfl) ?_
          clear hHeld held2 held hget hM
          go_wp2
          go_roundg (d - (i + 1))
          case measure => omega
          case rel => exact ⟨i + 1, by omega, Nat.le_refl _, by go_num, hB9⟩
      · have hltz : ¬ (i : Int) < (d : Int) := by omega
        obtain rfl : i = d := by omega
        obtain ⟨hP, hQ⟩ := HP.out
        obtain ⟨hP1, hP2, hQ1, hQ2, hN1, hN2⟩ := HP2.out
        have hBl : ∀ W, Below w6.heap.size w6 W → _ := fun W hW => blocks_calls ta _ _ W (HT.out.below hW)
        clear HT HP HP2 hHS hYES hs6 hC6
        generalize (chsF l.length a1.toNat l).length = nb at hP hQ hBl hN1 hN2
        have hBl1 := hBl wr hBr
        go_wp2_with (first
          | (go_at_call 19; refine hBl1.mono ?_; clear hBl1; rintro e w7 ⟨rfl, b7⟩; have hw7 := hBr.trans (b7.mono hBr.size); have hBl2 := hBl w7 hw7; clear hBl)
          | (go_at_call 19; refine hBl2.mono ?_; clear hBl2; rintro e w8 ⟨rfl, b8⟩; have hw8 := hw7.trans (b8.mono hw7.size)))
        go_ret
        exact ⟨rfl, hw6.trans (hw8.mono hw6.size)⟩
end Go.Proofs.Ytbdkfmhkgeoeaaa.Pure
