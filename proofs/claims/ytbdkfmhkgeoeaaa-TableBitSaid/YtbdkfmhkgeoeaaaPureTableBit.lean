/- With a bit turned of the seven bytes at the end (the last frame's text and sum), a table's bytes are none: for all arguments that the row lets in. -/
import Derived.Test.YtbdkfmhkgeoeaaaTabC
import Derived.Test.YtbdkfmhkgeoeaaaXBytesRow
namespace Go.Proofs.Ytbdkfmhkgeoeaaa.Pure
open Go.RowKit Go.Proofs.Ytbdkfmhkgeoeaaa.Print Go.Proofs.YtbdkfmhkgeoeaaaX Go.Proofs.YtbdkfmhkgeoeaaaW.PrintWords Go.Proofs.YtbdkfmhkgeoeaaaW.PrintLast Go.Proofs.YtbdkfmhkgeoeaaaW.PrintMore
set_option linter.unusedVariables false
set_option linter.unusedSimpArgs false

/-! ## The last frame's seven bytes -/
def sum3 (a b c : Nat) : Nat := 4294967295 ^^^ stsN 8 (stsN 8 (stsN 8 (4294967295 ^^^ a) ^^^ b) ^^^ c)
def four3 (n : Nat) : List Nat := [n / 16777216 % 256, n / 65536 % 256, n / 256 % 256, n % 256]
def last7 : List Nat := [4, 8, 84] ++ four3 (sum3 4 8 84)
def turned (k : Nat) : List Nat := last7.set (k / 8) (last7.getD (k / 8) 0 ^^^ 2 ^ (k % 8))
theorem turned_bad : ∀ k, k < 56 → ((turned k).drop 3 ≠ four3 (sum3 ((turned k).getD 0 0) ((turned k).getD 1 0) ((turned k).getD 2 0)) ∧ (∀ x ∈ turned k, x < 256) ∧ (turned k).length = 7) := by decide +kernel
theorem sumR_three (a b c : Nat) (ha : a < 256) (hb : b < 256) (hc : c < 256) : sumR (strOfNums [(a : Int), (b : Int), (c : Int)]) = (sum3 a b c : Int) := by
  have hB : bytesOf (strOfNums [(a : Int), (b : Int), (c : Int)]) = [(a : Int), (b : Int), (c : Int)] := bytesOf_strOfNums (by
    intro x hx
    simp only [List.mem_cons, List.not_mem_nil, or_false] at hx
    rcases hx with rfl | rfl | rfl <;> omega)
  have hz : (strOfNums [(a : Int), (b : Int), (c : Int)]).size = 3 := by rw [size_strOfNums]; rfl
  rw [sumR_nat, hz]
  have e0 : bt (strOfNums [(a : Int), (b : Int), (c : Int)]) ((0 : Nat) : Int) = a := by rw [bt_eq, hB]; rfl
  have e1 : bt (strOfNums [(a : Int), (b : Int), (c : Int)]) ((1 : Nat) : Int) = b := by rw [bt_eq, hB]; rfl
  have e2 : bt (strOfNums [(a : Int), (b : Int), (c : Int)]) ((2 : Nat) : Int) = c := by rw [bt_eq, hB]; rfl
  simp only [sumN]
  rw [e0, e1, e2]
  rfl
theorem fourL_four3 (n : Nat) : fourL (n : Int) = (four3 n).map (fun (x : Nat) => (x : Int)) := by
  unfold fourL four3
  simp only [List.map_cons, List.map_nil, List.cons.injEq, and_true]
  omega
theorem take_seven (l : List Nat) (hl : l.length = 7) (hr : ∀ x ∈ l, x < 256) (hb : l.drop 3 ≠ four3 (sum3 (l.getD 0 0) (l.getD 1 0) (l.getD 2 0))) : takeR (strOfNums ((1 : Int) :: 3 :: l.map (fun (x : Nat) => (x : Int)))) = (⟨#[]⟩, ⟨#[]⟩, some 4) := by
  match l, hl with
  | [a, b, c, d, e, f, g], _ =>
    have r (x : Nat) (h : x ∈ [a, b, c, d, e, f, g]) := hr x h
    have ha := r a (by simp); have hb' := r b (by simp); have hc := r c (by simp); have hd := r d (by simp); have he := r e (by simp); have hf := r f (by simp); have hg := r g (by simp)
    obtain ⟨t, ht⟩ : ∃ t, t = strOfNums [(a : Int), (b : Int), (c : Int)] := ⟨_, rfl⟩
    have hz : t.size = 3 := by rw [ht, size_strOfNums]; rfl
    have hB : bytesOf t = [(a : Int), (b : Int), (c : Int)] := by rw [ht]; exact bytesOf_strOfNums (by
      intro x hx
      simp only [List.mem_cons, List.not_mem_nil, or_false] at hx
      rcases hx with rfl | rfl | rfl <;> omega)
    obtain ⟨q, hq⟩ : ∃ q, q = strOfNums [(d : Int), (e : Int), (f : Int), (g : Int)] := ⟨_, rfl⟩
    have hqz : q.size = 4 := by rw [hq, size_strOfNums]; rfl
    have hQ : bytesOf q = [(d : Int), (e : Int), (f : Int), (g : Int)] := by rw [hq]; exact bytesOf_strOfNums (by
      intro x hx
      simp only [List.mem_cons, List.not_mem_nil, or_false] at hx
      rcases hx with rfl | rfl | rfl | rfl <;> omega)
    have hn3 : numL 3 = [1, 3] := by kernel_rfl
    have heq : strOfNums ((1 : Int) :: 3 :: [a, b, c, d, e, f, g].map (fun (x : Nat) => (x : Int))) = strOfNums (numL t.size) ++ t ++ q := by
      apply bytesOf_inj
      rw [bytesOf_append, bytesOf_append, hB, hQ, hz, bytesOf_num (by omega), hn3]
      exact bytesOf_strOfNums (by
        intro x hx
        simp only [List.map_cons, List.map_nil, List.mem_cons, List.not_mem_nil, or_false] at hx
        rcases hx with rfl | rfl | rfl | rfl | rfl | rfl | rfl | rfl | rfl <;> omega)
    rw [heq]
    unfold takeR
    rw [readText_text t (by omega)]
    simp only
    rw [hqz, if_neg (by omega), if_neg]
    intro h
    have h1 := congrArg bytesOf h
    have hs : sumR t = (sum3 a b c : Int) := by rw [ht]; exact sumR_three a b c ha hb' hc
    have hF : bytesOf (fourS (sumR t)) = fourL (sumR t) := by
      unfold fourS
      rw [hs, fourL_four3]
      apply bytesOf_strOfNums
      intro x hx
      simp only [four3, List.map_cons, List.map_nil, List.mem_cons, List.not_mem_nil, or_false] at hx
      omega
    rw [bytesOf_extract, hQ, hF, hs, fourL_four3] at h1
    apply hb
    have h2 : [(d : Int), (e : Int), (f : Int), (g : Int)] = (four3 (sum3 a b c)).map (fun (x : Nat) => (x : Int)) := h1
    show [d, e, f, g] = four3 (sum3 a b c)
    simp only [four3, List.map_cons, List.map_nil, List.cons.injEq, and_true] at h2 ⊢
    omega
/-- What turning a bit of a table's last seven bytes makes of its frames. -/
theorem bit_bytes (l : List Ent) : ∃ H : List ByteArray, framesF l 4 8 = H ++ [threeS 4 8] ∧ bytesOf (bytesT l 4 8) = bytesOf (cat H) ++ ((1 : Int) :: 3 :: last7.map (fun (x : Nat) => (x : Int))) := by
  refine ⟨(chsF l.length 4 l).map encS ++ [(rowS (firstsF (chsF l.length 4 l))).1, (makeR (keysF l) ((8 : Nat) : Int)).1], ?_, ?_⟩
  · unfold framesF
    rw [List.append_assoc]; rfl
  · rw [build_cat]
    have e : framesF l 4 8 = ((chsF l.length 4 l).map encS ++ [(rowS (firstsF (chsF l.length 4 l))).1, (makeR (keysF l) ((8 : Nat) : Int)).1]) ++ [threeS 4 8] := by
      unfold framesF
      rw [List.append_assoc]; rfl
    rw [e, cat_snoc, bytesOf_append]
    congr 1
    have hn3 : numL 3 = [1, 3] := by kernel_rfl
    have hB : bytesOf (threeS 4 8) = [4, 8, 84] := bytesOf_strOfNums (by
      intro x hx
      simp only [List.mem_cons, List.not_mem_nil, or_false] at hx
      rcases hx with rfl | rfl | rfl <;> omega)
    have hs : sumR (threeS 4 8) = (sum3 4 8 84 : Int) := sumR_three 4 8 84 (by decide) (by decide) (by decide)
    unfold fr
    rw [bytesOf_append, bytesOf_append, threeS_size, bytesOf_num (by omega), hn3, hB]
    have hF : bytesOf (fourS (sumR (threeS 4 8))) = fourL (sumR (threeS 4 8)) := by
      unfold fourS
      rw [hs, fourL_four3]
      apply bytesOf_strOfNums
      intro x hx
      simp only [four3, List.map_cons, List.map_nil, List.mem_cons, List.not_mem_nil, or_false] at hx
      omega
    rw [hF, hs, fourL_four3]
    rfl
theorem xor8 (a b : Nat) (ha : a < 256) (hb : b < 256) : bits .xor .u8 (a : Int) (b : Int) = ((a ^^^ b : Nat) : Int) := bits_xor8 a b ha hb
theorem last7_lt : ∀ j, j < 7 → last7.getD j 0 < 256 := by decide +kernel
theorem last7_len : last7.length = 7 := by decide +kernel
/-- The bytes with the bit turned. -/
theorem bit_set (l : List Ent) (H : List ByteArray) (h : bytesOf (bytesT l 4 8) = bytesOf (cat H) ++ ((1 : Int) :: 3 :: last7.map (fun (x : Nat) => (x : Int)))) (k : Nat) (hk : k < 56) (at_ : Nat) (hat : at_ + 7 = (bytesT l 4 8).size + k / 8) :
    (bytesOf (bytesT l 4 8)).set at_ (bits .xor .u8 ((bytesOf (bytesT l 4 8)).getD at_ 0) (2 ^ (k % 8))) = bytesOf (cat H) ++ ((1 : Int) :: 3 :: (turned k).map (fun (x : Nat) => (x : Int))) := by
  have hz := bytesOf_length (bytesT l 4 8)
  rw [h, List.length_append, List.length_cons, List.length_cons, List.length_map, last7_len] at hz
  have hj : k / 8 < 7 := by omega
  have ha : at_ = (bytesOf (cat H)).length + ((k / 8 + 1) + 1) := by omega
  have hg : (bytesOf (cat H) ++ ((1 : Int) :: 3 :: last7.map (fun (x : Nat) => (x : Int)))).getD ((bytesOf (cat H)).length + ((k / 8 + 1) + 1)) 0 = ((last7.getD (k / 8) 0 : Nat) : Int) := by
    rw [List.getD_eq_getElem?_getD, List.getElem?_append_right (by omega), Nat.add_sub_cancel_left, List.getElem?_cons_succ, List.getElem?_cons_succ, List.getElem?_map, List.getD_eq_getElem?_getD]
    cases last7[k / 8]? <;> rfl
  have hp : 2 ^ (k % 8) < 256 := by
    have : 2 ^ (k % 8) ≤ 2 ^ 7 := Nat.pow_le_pow_right (by omega) (by omega)
    omega
  rw [h, ha, hg, show (2 : Int) ^ (k % 8) = ((2 ^ (k % 8) : Nat) : Int) by rw [Int.natCast_pow]; rfl, xor8 _ _ (last7_lt _ hj) hp, List.set_append_right _ _ (by omega), Nat.add_sub_cancel_left, List.set_cons_succ, List.set_cons_succ]
  unfold turned
  rw [List.map_set]
theorem bit_all (l : List Ent) (H : List ByteArray) (hH : framesF l 4 8 = H ++ [threeS 4 8]) (hl : H.length ≤ 900) (k : Nat) (hk : k < 56) (s : ByteArray) (hs : bytesOf s = bytesOf (cat H) ++ ((1 : Int) :: 3 :: (turned k).map (fun (x : Nat) => (x : Int)))) : ∃ c, frame_All.f (H.length + 1) s = some (H, c, some 4) := by
  obtain ⟨h1, h2, h3⟩ := turned_bad k hk
  obtain ⟨t, ht⟩ : ∃ t, strOfNums ((1 : Int) :: 3 :: (turned k).map (fun (x : Nat) => (x : Int))) = t := ⟨_, rfl⟩
  have hT := take_seven (turned k) h3 h2 h1
  rw [ht] at hT
  have htz : t.size = 9 := by rw [← ht, size_strOfNums, List.length_cons, List.length_cons, List.length_map, h3]
  have hc : s = cat H ++ t := by
    apply bytesOf_inj
    rw [hs, bytesOf_append, ← ht, bytesOf_strOfNums]
    intro x hx
    rcases List.mem_cons.1 hx with rfl | hx
    · omega
    rcases List.mem_cons.1 hx with rfl | hx
    · omega
    obtain ⟨y, hy, rfl⟩ := List.mem_map.1 hx
    have := h2 y hy; omega
  have hsm : ∀ x ∈ H, x.size ≤ 1048576 := fun x hx => frames_small l 4 8 x (by rw [hH]; exact List.mem_append_left _ hx)
  have h4 := all_cat s t (by omega) H [] 1 hsm (by simpa using (by omega : H.length ≤ 1000))
  refine ⟨wrap64 ((s.size : Int) - (t.size : Int)), ?_⟩
  unfold frame_All.f
  conv => lhs; arg 4; rw [hc]
  rw [h4, List.nil_append]
  unfold frame_All.l0
  rw [next_some t (by omega) (by omega), hT]
  simp [errors_Is.f]
theorem turned_range (H : List ByteArray) (k : Nat) (hk : k < 56) : ∀ x ∈ bytesOf (cat H) ++ ((1 : Int) :: 3 :: (turned k).map (fun (x : Nat) => (x : Int))), 0 ≤ x ∧ x < 256 := by
  intro x hx
  rcases List.mem_append.1 hx with hx | hx
  · exact bytesOf_range _ x hx
  rcases List.mem_cons.1 hx with rfl | hx
  · omega
  rcases List.mem_cons.1 hx with rfl | hx
  · omega
  obtain ⟨y, hy, rfl⟩ := List.mem_map.1 hx
  have := (turned_bad k hk).2.1 y hy
  omega
theorem bit_sh (P : Program) (q : Nat) (W : World) : (Op.shift BinOp.shl IntKind.u8 1 IntKind.i64 ((q : Int) % 8)).run P W = .ok (.int .u8 (2 ^ (q % 8))) W := by
  have e : (q : Int) % 8 = ((q % 8 : Nat) : Int) := by omega
  rw [e, shift_shl .u8 .i64 1 _ (by omega) (by show _ ≤ (8 : Int); omega)]
  have hl : q % 8 < 8 := Nat.mod_lt _ (by decide)
  generalize q % 8 = r at hl
  have h : ∀ r, r < 8 → IntKind.u8.wrap (1 * 2 ^ ((r : Nat) : Int).toNat) = 2 ^ r := by decide +kernel
  rw [h r hl]
  rfl
set_option maxHeartbeats 4000000 in
set_option maxRecDepth 100000 in
theorem tableBitWalk (A0 : Option Addr) (c0 : Nat) (l0 : List Ent) (a1 : Int) (w : World) (hr0 : Kd.C k36 w A0 l0.length l0) (hc0 : l0.length ≤ c0)
    (v0 : l0.length ≤ maxLen ∧ l0.length * 48 ≤ 140737488351232 ∧ ∀ x ∈ l0, V36 x) (v1 : (Lit.int .i64 a1).wf = true) :
    Calls Try.prog 5 #[.slice A0 l0.length c0, .int .i64 a1] w fun e w' => e = .returned (.bool true) ∧ Below w.heap.size w w' := by
  have hu25 := Try.underlying25
  have hu48 := Try.underlying48
  have hex := examples_calls w
  obtain ⟨d, hd⟩ : ∃ d, min l0.length 60 = d := ⟨_, rfl⟩
  have hdl : d ≤ l0.length ∧ d ≤ 60 := by omega
  have hmn : (if (60 : Int) < (l0.length : Int) then (60 : Int) else (l0.length : Int)) = (d : Int) := by split <;> omega
  have hmin : min (l0.length : Int) 60 = (d : Int) := by omega
  have hCd := Kd.C_take hr0 hdl.1
  have hld : (l0.take d).length = d := by rw [List.length_take]; omega
  have hcd : d ≤ c0 := by omega
  rw [hld] at hCd
  generalize l0.take d = l at hCd hld
  have hL0 := v0.2.1
  have hl0z : d ≤ l0.length := hdl.1
  have hd2 : d ≤ 60 := hdl.2
  have hv1 := wf_i64 v1
  clear hd hdl hr0 v0 v1
  go_enter Try.func5, Try.ntmps5
  go_upto_region 3 with (go_at_call 8; refine hex.mono ?_; clear hex; rintro e w1 ⟨rfl, b1⟩)
  have hCd1 := Kd.C_below hCd b1
  clear hmn hmin
  have hB := build_calls A0 c0 l 4 8 w1 (by rw [hld]; exact hCd1) (by rw [hld]; exact hcd) (by omega)
  by_cases hbad : l.length = 0 ∨ sortedB l = false
  · have e1 : buildR l 4 8 = (⟨#[]⟩, some 1) := by unfold buildR; rw [if_neg (by decide), if_pos hbad]
    rw [e1, hld] at hB
    have hB' : Calls Try.prog 9 #[.slice A0 d c0, .int .i64 4, .int .i64 8] w1 fun e w' => e = .returned (.tuple #[.string (⟨#[]⟩ : ByteArray), .iface 48 (.int .i64 1)]) ∧ Below w1.heap.size w1 w' := hB
    clear hB hbad
    go_wp2_with (go_at_call 9; refine hB'.mono ?_; clear hB'; rintro e w2 ⟨rfl, b2⟩)
    go_ret
    exact ⟨rfl, b1.trans (b2.mono b1.size)⟩
  · have hne : 0 < l.length := by omega
    have hs : sortedB l = true := by
      cases h : sortedB l with
      | true => rfl
      | false => exact absurd (.inr h) hbad
    rw [buildR_yes l 4 8 (by decide) (by decide) (by decide) (by decide) hs hne, hld] at hB
    obtain ⟨H, hH, hHb⟩ := bit_bytes l
    have hsz := bytes_small l 4 8 (by decide) (by decide) hs (by omega)
    have hset := bit_set l H hHb
    have hHl : H.length ≤ 900 := by
      have h1 := congrArg List.length hH
      have h2 := chs_len 4 (by decide) l.length l
      unfold framesF at h1
      simp only [List.length_append, List.length_map, List.length_cons, List.length_nil] at h1
      omega
    have hlen : 9 ≤ (bytesT l 4 8).size := by
      have h1 := congrArg List.length hHb
      rw [bytesOf_length, List.length_append, List.length_cons, List.length_cons, List.length_map, last7_len] at h1
      omega
    have hall := fun k hk s hs => bit_all l H hH hHl k hk s hs
    obtain ⟨bs, hbs⟩ : ∃ b, bytesT l 4 8 = b := ⟨_, rfl⟩
    have hB' : Calls Try.prog 9 #[.slice A0 d c0, .int .i64 4, .int .i64 8] w1 fun e w' => e = .returned (.tuple #[.string bs, .nilIface]) ∧ Below w1.heap.size w1 w' := by rw [← hbs]; exact hB
    rw [hbs] at hHb hsz hset hlen
    have hbe : (bs.toList == []) = false := by
      cases h : bs.toList with
      | nil => rw [toList_nil_iff] at h; omega
      | cons x y => rfl
    obtain ⟨m, hm⟩ : ∃ m, m = (if a1 < 0 then -(a1 + 1) else a1) := ⟨_, rfl⟩
    have hm0 : 0 ≤ m ∧ m ≤ 9223372036854775807 := by rw [hm]; split <;> omega
    have kb := fun (W : World) => print_bytes (P := Try.prog) 9 40 5 Try.underlying9 Try.underlying40 Try.underlying5 bs W
    clear hB hbs hbad
    go_upto_region 11 with (go_at_call 9; refine hB'.mono ?_; clear hB'; rintro e w2 ⟨rfl, b2⟩)
    all_goals (
      have hB2 : Below w.heap.size w w2 := b1.trans (b2.mono b1.size)
      have HV := Aside0.mk (BRow_conv w2 w.heap.size 5 bs hB2.size (by omega))
      have HB := Aside0.mk (bytes_below hB2 hB2.size 5 bs)
      have hgb : w.heap.size ≤ w2.heap.size := hB2.size
      clear hB2 b1 b2 kb hCd hCd1
      generalize w2.heap.size = g at HV hgb ⊢
      generalize grownCap w2 bs.size 0 5 = cap at HV ⊢
      generalize Lib.bytesWorld w2 5 bs = w3 at HV HB ⊢
      first | rw [if_pos (by omega : a1 < 0)] at hm | rw [if_neg (by omega : ¬ a1 < 0)] at hm
      rw [← hm]
      generalize decide (a1 < 0) = bb
      clear hm
      obtain ⟨hm1, hm2⟩ := hm0
      have HSET := Aside0.mk hset
      have HALL := Aside0.mk hall
      clear hset hall hHb hH
      go_upto_region 12 with (fail)
      obtain ⟨k, hk⟩ : ∃ k, k = m.toNat % 56 := ⟨_, rfl⟩
      have hk2 : k < 56 := by omega
      obtain ⟨at_, hat⟩ : ∃ at_, at_ = bs.size - 7 + k / 8 := ⟨_, rfl⟩
      have hae : (bs.size : Int) - 7 + m % 56 / 8 = (at_ : Int) := by omega
      rw [hae]
      have hsetk := HSET.out k hk2 at_ (by omega)
      have hallk := HALL.out k hk2
      clear HSET HALL
      have hj : at_ < (bytesOf bs).length := by rw [bytesOf_length]; omega
      have hj2 : at_ < bs.size := by omega
      have hz1 : (0 : Int) ≤ (at_ : Int) := by omega
      have hz2 : (at_ : Int) < (bs.size : Int) := by omega
      have hxl := bytesOf_length bs
      have hV0 := HV.out
      rw [← hxl] at hV0
      have hV1 := BRow.drew hV0
      obtain ⟨hc, hf⟩ := BRow.cell hV1 at_ hj
      have hxe : (bytesOf bs)[at_] = (bytesOf bs).getD at_ 0 := by rw [List.getD_eq_getElem?_getD, List.getElem?_eq_getElem hj]; rfl
      rw [hxe] at hc
      have HB1 := Aside0.mk (Yd HB.out)
      have HV1 := Aside0.mk hV1
      clear hxe hV0 hV1 HV HB hae hat
      generalize hx_ : (bytesOf bs).getD at_ 0 = x at hc hsetk
      have HS := Aside0.mk hsetk
      have HX := Aside0.mk hx_
      have hsh : ∀ W : World, (Op.shift BinOp.shl IntKind.u8 1 IntKind.i64 (m.tmod 8)).run Try.prog W = .ok (.int .u8 (2 ^ (k % 8))) W := fun W => by rw [Int.tmod_eq_emod_of_nonneg hm1, show m % 8 = (k : Int) % 8 by omega]; exact bit_sh Try.prog k W
      clear hk
      clear hsetk hx_
      refine start_ (S := fun w' => w'.cell? ⟨g, at_, none⟩ = some (.int .u8 x)) (ds := [11]) #[false, false, false, false, false, false, false, false, false, false, false, false] (by kernel_rfl) rfl rfl hc (fun hHeld => ?_)
      generalize w3.drew = w20 at HB1 HV1 hc hf hHeld ⊢
      refine pure_ (i := 0) (N := some 51) (v := ?_) (a' := ?_) #[true, false, false, false, false, false, false, false, false, false, false, false] rfl rfl (by kernel_rfl) (fun _ _ _ h => h) (Or.inl ⟨by rfl, ?_⟩) ?_ ?_
      rotate_left
      · intro w'
        go_simp
        with_reducible rfl
      rotate_left
      · simp only [Act.put, List.setIfInBounds_toArray, List.set_cons_zero, List.set_cons_succ, i64_w, i32_w]
        rfl
      refine pure_ (i := 1) (N := some 52) (v := ?_) (a' := ?_) #[true, true, false, false, false, false, false, false, false, false, false, false] rfl rfl (by kernel_rfl) (fun _ _ _ h => h) (Or.inl ⟨by rfl, ?_⟩) ?_ ?_
      rotate_left
      · intro w'
        go_simp
        with_reducible rfl
      rotate_left
      · simp only [Act.put, List.setIfInBounds_toArray, List.set_cons_zero, List.set_cons_succ, i64_w, i32_w]
        rfl
      refine pure_ (i := 2) (N := some 53) (v := ?_) (a' := ?_) #[true, true, true, false, false, false, false, false, false, false, false, false] rfl rfl (by kernel_rfl) (fun _ _ _ h => h) (Or.inl ⟨by rfl, ?_⟩) ?_ ?_
      rotate_left
      · intro w'
        go_simp
        with_reducible rfl
      rotate_left
      · simp only [Act.put, List.setIfInBounds_toArray, List.set_cons_zero, List.set_cons_succ, i64_w, i32_w]
        rfl
      refine pure_ (i := 3) (N := some 54) (v := ?_) (a' := ?_) #[true, true, true, true, false, false, false, false, false, false, false, false] rfl rfl (by kernel_rfl) (fun _ _ _ h => h) (Or.inl ⟨by rfl, ?_⟩) ?_ ?_
      rotate_left
      · intro w'
        go_simp
        with_reducible rfl
      rotate_left
      · simp only [Act.put, List.setIfInBounds_toArray, List.set_cons_zero, List.set_cons_succ, i64_w, i32_w]
        rfl
      refine pure_ (i := 4) (N := some 55) (v := ?_) (a' := ?_) #[true, true, true, true, true, false, false, false, false, false, false, false] rfl rfl (by kernel_rfl) (fun _ _ _ h => h) (Or.inl ⟨by rfl, ?_⟩) ?_ ?_
      rotate_left
      · intro w'
        go_simp
        with_reducible rfl
      rotate_left
      · simp only [Act.put, List.setIfInBounds_toArray, List.set_cons_zero, List.set_cons_succ, i64_w, i32_w]
        rfl
      refine take_ (i := 5) (N := some 56) (v := ?_) (a' := ?_) #[true, true, true, true, true, true, false, false, false, false, false, false] rfl rfl (by kernel_rfl) (fun _ _ _ h => h) (Or.inl ⟨by rfl, ?_⟩) hHeld ?_ ?_
      rotate_left
      · rintro w' s0
        go_simp
        with_reducible rfl
      rotate_left
      · simp only [Act.put, List.setIfInBounds_toArray, List.set_cons_zero, List.set_cons_succ, i64_w, i32_w]
        rfl
      refine pure_ (i := 6) (N := some 57) (v := ?_) (a' := ?_) #[true, true, true, true, true, true, true, false, false, false, false, false] rfl rfl (by kernel_rfl) (fun _ _ _ h => h) (Or.inl ⟨by rfl, ?_⟩) ?_ ?_
      rotate_left
      · intro w'
        go_simp
        with_reducible rfl
      rotate_left
      · simp only [Act.put, List.setIfInBounds_toArray, List.set_cons_zero, List.set_cons_succ, i64_w, i32_w]
        rfl
      refine pure_ (i := 7) (N := some 58) (v := ?_) (a' := ?_) #[true, true, true, true, true, true, true, true, false, false, false, false] rfl rfl (by kernel_rfl) (fun _ _ _ h => h) (Or.inl ⟨by rfl, ?_⟩) ?_ ?_
      rotate_left
      · intro w'
        go_simp
        with_reducible rfl
      rotate_left
      · simp only [Act.put, List.setIfInBounds_toArray, List.set_cons_zero, List.set_cons_succ, i64_w, i32_w]
        rfl
      refine pure_ (i := 8) (N := some 59) (v := ?_) (a' := ?_) #[true, true, true, true, true, true, true, true, true, false, false, false] rfl rfl (by kernel_rfl) (fun _ _ _ h => h) (Or.inl ⟨by rfl, ?_⟩) ?_ ?_
      rotate_left
      · intro w'
        go_simp
        with_reducible rfl
      rotate_left
      · simp only [Act.put, List.setIfInBounds_toArray, List.set_cons_zero, List.set_cons_succ, i64_w, i32_w]
        rfl
      refine pure_ (i := 9) (N := some 60) (v := ?_) (a' := ?_) #[true, true, true, true, true, true, true, true, true, true, false, false] rfl rfl (by kernel_rfl) (fun _ _ _ h => h) (Or.inl ⟨by rfl, ?_⟩) ?_ ?_
      rotate_left
      · intro w'
        go_simp
        with_reducible rfl
      rotate_left
      · simp only [Act.put, List.setIfInBounds_toArray, List.set_cons_zero, List.set_cons_succ, i64_w, i32_w]
        rfl
      refine pure_ (i := 10) (N := some 61) (v := ?_) (a' := ?_) #[true, true, true, true, true, true, true, true, true, true, true, false] rfl rfl (by kernel_rfl) (fun _ _ _ h => h) (Or.inl ⟨by rfl, ?_⟩) ?_ ?_
      rotate_left
      · intro w'
        go_simp
        with_reducible rfl
      rotate_left
      · simp only [Act.put, List.setIfInBounds_toArray, List.set_cons_zero, List.set_cons_succ, i64_w, i32_w]
        rfl
      refine last_ (i := 11) (N := none) #[true, true, true, true, true, true, true, true, true, true, true, true] rfl rfl (by kernel_rfl) (by decide) (fun K hK => ?_)
      refine skip_ (w1 := ?_) (by rfl) rfl ?_ ?_
      rotate_left
      · go_simp
        rfl
      refine hK.out _ _ ?_
      clear hK K hHeld
      refine done_ (by kernel_rfl) ?_
      have hV3 := BRow.set HV1.out at_ (bits .xor .u8 x (2 ^ (k % 8)))
      have hB3 := HB1.out.setCell (p := ⟨g, at_, none⟩) hgb (.int .u8 (bits .xor .u8 x (2 ^ (k % 8))))
      generalize w20.setCell ⟨g, at_, none⟩ (.int .u8 (bits .xor .u8 x (2 ^ (k % 8)))) = w21 at hV3 hB3 ⊢
      have hrg := turned_range H k hk2
      rw [HS.out] at hV3
      have hzl : ((bytesOf bs).set at_ (bits .xor .u8 x (2 ^ (k % 8)))).length = bs.size := by rw [List.length_set, hxl]
      rw [HS.out] at hzl
      rw [hxl] at hV3
      generalize bytesOf (cat H) ++ ((1 : Int) :: 3 :: (turned k).map (fun (x : Nat) => (x : Int))) = xs at hV3 hrg hzl hallk
      rw [← hzl] at hV3
      have hcv := Kd.C_string (P := Try.prog) (A := some ⟨g, 0, none⟩) (c := cap) Try.underlying40 Try.underlying5 Try.underlying9 (BRow.reads hV3)
      rw [hzl] at hcv
      have hS := hallk (strOfNums xs) (bytesOf_strOfNums hrg)
      have hSz : (strOfNums xs).size ≤ 1048576 := by rw [size_strOfNums]; omega
      obtain ⟨cc, hS⟩ := hS
      have hO := open_no (strOfNums xs) w21 (parts_no (strOfNums xs) _ H cc _ w21 hSz hS (.inl rfl))
      have hO' : Calls Try.prog 12 #[.string (strOfNums xs)] w21 fun e w' => e = .returned (.tuple #[.pointer none, .iface 48 (.int .i64 3)]) ∧ Below w21.heap.size w21 w' := hO
      have hI : ∀ W, Calls Try.prog 11 #[.iface 48 (.int .i64 3), .int .i64 3] W fun e w' => e = .returned (.bool true) ∧ Below W.heap.size W w' := fun W => is_calls (some 3) 3 (by decide) W
      clear hO hS hSz hallk hV3 HS HX hc hf HV1 HB1 hsh hrg
      go_wp2_with (first
        | (go_at_call 12; refine hO'.mono ?_; clear hO'; rintro e w22 ⟨rfl, b22⟩; have hB4 := hB3.trans (b22.mono hB3.size))
        | (go_at_call 11; refine (hI _).mono ?_; clear hI; rintro e w23 ⟨rfl, b23⟩))
      go_ret
      exact ⟨rfl, hB4.trans (b23.mono hB4.size)⟩
      )
end Go.Proofs.Ytbdkfmhkgeoeaaa.Pure
