/- Contracts proved by hand: see the theorems' own lines. -/
import Derived.Test.YtbdkfmhkgeoeaaaPrint0
import Derived.Test.YtbdkfmhkgeoeaaaPrint6
import Derived.Test.YtbdkfmhkgeoeaaaPrint8
import Derived.Test.YtbdkfmhkgeoeaaaXBytesRow
namespace Go.Proofs.Ytbdkfmhkgeoeaaa.Print
open Go.RowKit Go.Proofs.YtbdkfmhkgeoeaaaW.PrintWords Go.Proofs.YtbdkfmhkgeoeaaaW.PrintLast Go.Proofs.YtbdkfmhkgeoeaaaW.PrintMore Go.Proofs.YtbdkfmhkgeoeaaaX
set_option linter.unusedVariables false
set_option linter.unusedSimpArgs false

/-- The texts, one behind the other, behind what is there. -/
def rowAcc : List ByteArray → List Int → Option (ByteArray × Option Int)
  | [], b => some (strOfNums b, none)
  | s :: l, b => (pack_Text.f 100 s).bind fun t => if t.1.size ≤ 9000000000000000000 then
      (if t.2.isNone = true ∧ b.length + t.1.size ≤ 1048576 then rowAcc l (b ++ bytesOf t.1) else some (⟨#[]⟩, some 5)) else none
def pack_Row.f (l0 : List ByteArray) : Option (ByteArray × Option Int) :=
  if l0.length ≤ 1000 then (pack_Num.f 100 (l0.length : Int)).bind fun h => if h.1.size ≤ 1048576 then rowAcc l0 (bytesOf h.1) else none
  else some (⟨#[]⟩, some 5)

set_option maxHeartbeats 4000000 in
set_option maxRecDepth 100000 in
theorem pack_Row.calls (A0 : Option Addr) (c0 : Nat) (l0 : List ByteArray) (r1 : ByteArray) (r2 : Option Int) (w : World) (hr0 : Kd.C Kd.string w A0 l0.length l0) (hc0 : l0.length ≤ c0) (h : pack_Row.f l0 = some (r1, r2)) :
    Calls Try.prog 26 #[.slice A0 l0.length c0] w fun e w' => e = .returned (.tuple #[.string r1, errW r2]) ∧ Below w.heap.size w w' := by
  have HR0 := Aside0.mk hr0
  have HC0 := Aside0.mk hc0
  have HB := Aside0.mk (Below.refl w.heap.size w)
  clear hr0 hc0
  unfold pack_Row.f at h
  by_cases h1 : l0.length ≤ 1000
  · rw [if_pos h1] at h
    obtain ⟨⟨n1, n2⟩, HN0, h⟩ := Option.bind_eq_some_iff.1 h
    simp only at h
    by_cases h2 : n1.size ≤ 1048576
    · rw [if_pos h2] at h
      have H := Aside0.mk h
      have HN := Aside0.mk HN0
      clear h HN0
      have kb := fun (W : World) => print_bytes (P := Try.prog) 9 40 5 Try.underlying9 Try.underlying40 Try.underlying5 n1 W
      have go : ∀ (e0 : Option Int), pack_Num.f 100 (l0.length : Int) = some (n1, e0) → Calls Try.prog 26 #[.slice A0 l0.length c0] w fun e w' => e = .returned (.tuple #[.string r1, errW r2]) ∧ Below w.heap.size w w' := by
        intro e0 HN0
        have HN := Aside0.mk HN0
        clear HN0
        go_enter Try.func26, Try.ntmps26
        cases e0 with
        | none =>
          go_wp2_with (first | (go_at_call 50; (with_reducible refine (pack_Num.calls 100 (l0.length : Int) n1 _ _ HN.out).mono ?_); rintro e w1 ⟨rfl, hb⟩; have n0_ := Aside0.mk (Yv HB hb); clear HB hb; have HB := n0_; clear n0_; simp only [errW_none, errW_some]))
          have HV0 := Aside0.mk (BRow_conv w1 w.heap.size 5 n1 (below_size HB.out) (by omega))
          have n0_ := Aside0.mk (bytes_below HB.out (below_size HB.out) 5 n1)
          clear HB; have HB := n0_; clear n0_
          have hbl : (bytesOf n1).length = n1.size := bytesOf_length n1
          go_loopg [6, 25] l0.length (fun kq v6 v25 w' => ∃ (i : Nat) (xs : List Int), v25 = .int .i64 i ∧ Aside0 (i + kq = l0.length) ∧ Aside0 (rowAcc (l0.drop i) xs = some (r1, r2)) ∧ Aside0 (BRow w' w.heap.size 5 v6 xs) ∧ Aside0 (xs.length ≤ 1048576) ∧ Aside0 (Below w.heap.size w w'))
          case atStart => exact ⟨0, bytesOf n1, rfl, ⟨by omega⟩, H, HV0, ⟨by omega⟩, HB⟩
          case round =>
            clear H HV0
            obtain ⟨i, xs, rfl, HI, H, HV, HX, HB⟩ := hrel
            obtain ⟨g, cap, rfl, hbg, hgl, hcap⟩ := BRow.slice HV.out
            have hgb := Aside0.mk hbg
            have hxl := HX.out
            cases gk with
            | zero =>
              have hlt : ¬ (i : Int) < (l0.length : Int) := by have := HI.out; omega
              have hH := H.out
              rw [List.drop_of_length_le (by have := HI.out; omega)] at hH
              simp only [rowAcc, Option.some.injEq, Prod.mk.injEq] at hH
              obtain ⟨rfl, rfl⟩ := hH
              have hcv := Kd.C_string (P := Try.prog) (A := some ⟨g, 0, none⟩) (c := cap) Try.underlying40 Try.underlying5 Try.underlying9 (BRow.reads HV.out)
              go_wp2
              refine bodyPost_ret (results_tmp2 rfl _ _ _) rfl ?_
              exact ⟨rfl, HB.out⟩
            | succ m =>
              have hlt : i < l0.length := by have := HI.out; omega
              have hi : (i : Int) < (l0.length : Int) := by omega
              have hH := H.out
              rw [List.drop_eq_getElem_cons hlt] at hH
              have hrd : l0[i] = rdOf ByteArray.empty l0 (i : Int) := by
                unfold rdOf
                rw [Int.toNat_natCast, List.getD_eq_getElem?_getD, List.getElem?_eq_getElem hlt]
                rfl
              rw [hrd] at hH
              simp only [rowAcc] at hH
              obtain ⟨⟨t1, t2⟩, HT0, hH⟩ := Option.bind_eq_some_iff.1 hH
              have HT := Aside0.mk HT0
              clear HT0 H
              simp only at hH
              by_cases hts : t1.size ≤ 9000000000000000000
              · rw [if_pos hts] at hH
                obtain ⟨ad, ead, hx0⟩ := Kd.at_string HR0.out (i : Int) (by omega) hi
                cases ead
                replace hx0 := (HB.out.cell (World.block_lt_of_cell? w _ hx0)).trans hx0
                simp only [Int.toNat_natCast] at hx0
                have p0 : (0 ≤ (i : Int)) = True := eq_true (by omega)
                have q0 : ((i : Int) < (l0.length : Int)) = True := eq_true hi
                cases t2 with
                | some e1 =>
                  rw [if_neg (fun h => by cases h.1)] at hH
                  simp only [Option.some.injEq, Prod.mk.injEq] at hH
                  obtain ⟨rfl, rfl⟩ := hH
                  go_wp2_with (first | (go_at_call 43; (with_reducible refine (pack_Text.calls 100 (rdOf ByteArray.empty l0 (i : Int)) t1 _ _ HT.out).mono ?_); rintro e w2 ⟨rfl, hb⟩; have n0_ := Aside0.mk (Yv HB hb); have n1_ := Aside0.mk (BRow.below HV.out hb); clear HB HV hb; have HB := n0_; have HV := n1_; clear n0_ n1_; simp only [errW_none, errW_some]))
                  refine bodyPost_ret (results_tmp2 rfl _ _ _) rfl ?_
                  exact ⟨rfl, HB.out⟩
                | none =>
                  by_cases hle : xs.length + t1.size ≤ 1048576
                  · rw [if_pos ⟨rfl, hle⟩] at hH
                    have H' := Aside0.mk hH
                    clear hH
                    have hno : decide (1048576 < (wrap64 ((xs.length : Int) + (t1.size : Int)))) = false := decide_eq_false (by unfold wrap64; omega)
                    go_wp2_with (first | (go_at_call 43; (with_reducible refine (pack_Text.calls 100 (rdOf ByteArray.empty l0 (i : Int)) t1 _ _ HT.out).mono ?_); rintro e w2 ⟨rfl, hb⟩; have n0_ := Aside0.mk (Yv HB hb); have n1_ := Aside0.mk (BRow.below HV.out hb); clear HB HV hb; have HB := n0_; have HV := n1_; clear n0_ n1_; simp only [errW_none, errW_some]) | ((with_reducible refine gate_builtin (b := .append) (xs := #[.tmp 45, .tmp 46]) rfl ?_); at_builtin; refine wpList_append_brow rfl (.tmp 45) (.tmp 46) 40 9 rfl w.heap.size 5 Try.underlying40 Try.underlying9 (by kernel_rfl) (.slice (some ⟨g, 0, none⟩) xs.length cap) xs rfl HV.out t1 rfl (by omega) (below_size HB.out) ?_; intro v9 w9 hv9 hg9; have n0_ := Aside0.mk (HB.out.grown hg9 (below_size HB.out) (fun k hk => by have h_ : g = k := (by simpa [Value.ownBlock] using hk); rw [← h_]; exact hgb.out)); have n1_ := Aside0.mk hv9; clear HB HV hv9 hg9; have HB := n0_; have HV := n1_; clear n0_ n1_))
                    go_roundg m
                    case measure => omega
                    case rel => exact ⟨i + 1, xs ++ bytesOf t1, (by go_num), ⟨by have := HI.out; omega⟩, H', HV, ⟨by rw [List.length_append, bytesOf_length]; omega⟩, HB⟩
                  · rw [if_neg (fun h => hle h.2)] at hH
                    simp only [Option.some.injEq, Prod.mk.injEq] at hH
                    obtain ⟨rfl, rfl⟩ := hH
                    have hno : decide (1048576 < (wrap64 ((xs.length : Int) + (t1.size : Int)))) = true := decide_eq_true (by unfold wrap64; omega)
                    go_wp2_with (first | (go_at_call 43; (with_reducible refine (pack_Text.calls 100 (rdOf ByteArray.empty l0 (i : Int)) t1 _ _ HT.out).mono ?_); rintro e w2 ⟨rfl, hb⟩; have n0_ := Aside0.mk (Yv HB hb); have n1_ := Aside0.mk (BRow.below HV.out hb); clear HB HV hb; have HB := n0_; have HV := n1_; clear n0_ n1_; simp only [errW_none, errW_some]))
                    refine bodyPost_ret (results_tmp2 rfl _ _ _) rfl ?_
                    exact ⟨rfl, HB.out⟩
              · rw [if_neg hts] at hH
                cases hH
        | some e2 =>
          go_wp2_with (first | (go_at_call 50; (with_reducible refine (pack_Num.calls 100 (l0.length : Int) n1 _ _ HN.out).mono ?_); rintro e w1 ⟨rfl, hb⟩; have n0_ := Aside0.mk (Yv HB hb); clear HB hb; have HB := n0_; clear n0_; simp only [errW_none, errW_some]))
          have HV0 := Aside0.mk (BRow_conv w1 w.heap.size 5 n1 (below_size HB.out) (by omega))
          have n0_ := Aside0.mk (bytes_below HB.out (below_size HB.out) 5 n1)
          clear HB; have HB := n0_; clear n0_
          have hbl : (bytesOf n1).length = n1.size := bytesOf_length n1
          go_loopg [6, 25] l0.length (fun kq v6 v25 w' => ∃ (i : Nat) (xs : List Int), v25 = .int .i64 i ∧ Aside0 (i + kq = l0.length) ∧ Aside0 (rowAcc (l0.drop i) xs = some (r1, r2)) ∧ Aside0 (BRow w' w.heap.size 5 v6 xs) ∧ Aside0 (xs.length ≤ 1048576) ∧ Aside0 (Below w.heap.size w w'))
          case atStart => exact ⟨0, bytesOf n1, rfl, ⟨by omega⟩, H, HV0, ⟨by omega⟩, HB⟩
          case round =>
            clear H HV0
            obtain ⟨i, xs, rfl, HI, H, HV, HX, HB⟩ := hrel
            obtain ⟨g, cap, rfl, hbg, hgl, hcap⟩ := BRow.slice HV.out
            have hgb := Aside0.mk hbg
            have hxl := HX.out
            cases gk with
            | zero =>
              have hlt : ¬ (i : Int) < (l0.length : Int) := by have := HI.out; omega
              have hH := H.out
              rw [List.drop_of_length_le (by have := HI.out; omega)] at hH
              simp only [rowAcc, Option.some.injEq, Prod.mk.injEq] at hH
              obtain ⟨rfl, rfl⟩ := hH
              have hcv := Kd.C_string (P := Try.prog) (A := some ⟨g, 0, none⟩) (c := cap) Try.underlying40 Try.underlying5 Try.underlying9 (BRow.reads HV.out)
              go_wp2
              refine bodyPost_ret (results_tmp2 rfl _ _ _) rfl ?_
              exact ⟨rfl, HB.out⟩
            | succ m =>
              have hlt : i < l0.length := by have := HI.out; omega
              have hi : (i : Int) < (l0.length : Int) := by omega
              have hH := H.out
              rw [List.drop_eq_getElem_cons hlt] at hH
              have hrd : l0[i] = rdOf ByteArray.empty l0 (i : Int) := by
                unfold rdOf
                rw [Int.toNat_natCast, List.getD_eq_getElem?_getD, List.getElem?_eq_getElem hlt]
                rfl
              rw [hrd] at hH
              simp only [rowAcc] at hH
              obtain ⟨⟨t1, t2⟩, HT0, hH⟩ := Option.bind_eq_some_iff.1 hH
              have HT := Aside0.mk HT0
              clear HT0 H
              simp only at hH
              by_cases hts : t1.size ≤ 9000000000000000000
              · rw [if_pos hts] at hH
                obtain ⟨ad, ead, hx0⟩ := Kd.at_string HR0.out (i : Int) (by omega) hi
                cases ead
                replace hx0 := (HB.out.cell (World.block_lt_of_cell? w _ hx0)).trans hx0
                simp only [Int.toNat_natCast] at hx0
                have p0 : (0 ≤ (i : Int)) = True := eq_true (by omega)
                have q0 : ((i : Int) < (l0.length : Int)) = True := eq_true hi
                cases t2 with
                | some e1 =>
                  rw [if_neg (fun h => by cases h.1)] at hH
                  simp only [Option.some.injEq, Prod.mk.injEq] at hH
                  obtain ⟨rfl, rfl⟩ := hH
                  go_wp2_with (first | (go_at_call 43; (with_reducible refine (pack_Text.calls 100 (rdOf ByteArray.empty l0 (i : Int)) t1 _ _ HT.out).mono ?_); rintro e w2 ⟨rfl, hb⟩; have n0_ := Aside0.mk (Yv HB hb); have n1_ := Aside0.mk (BRow.below HV.out hb); clear HB HV hb; have HB := n0_; have HV := n1_; clear n0_ n1_; simp only [errW_none, errW_some]))
                  refine bodyPost_ret (results_tmp2 rfl _ _ _) rfl ?_
                  exact ⟨rfl, HB.out⟩
                | none =>
                  by_cases hle : xs.length + t1.size ≤ 1048576
                  · rw [if_pos ⟨rfl, hle⟩] at hH
                    have H' := Aside0.mk hH
                    clear hH
                    have hno : decide (1048576 < (wrap64 ((xs.length : Int) + (t1.size : Int)))) = false := decide_eq_false (by unfold wrap64; omega)
                    go_wp2_with (first | (go_at_call 43; (with_reducible refine (pack_Text.calls 100 (rdOf ByteArray.empty l0 (i : Int)) t1 _ _ HT.out).mono ?_); rintro e w2 ⟨rfl, hb⟩; have n0_ := Aside0.mk (Yv HB hb); have n1_ := Aside0.mk (BRow.below HV.out hb); clear HB HV hb; have HB := n0_; have HV := n1_; clear n0_ n1_; simp only [errW_none, errW_some]) | ((with_reducible refine gate_builtin (b := .append) (xs := #[.tmp 45, .tmp 46]) rfl ?_); at_builtin; refine wpList_append_brow rfl (.tmp 45) (.tmp 46) 40 9 rfl w.heap.size 5 Try.underlying40 Try.underlying9 (by kernel_rfl) (.slice (some ⟨g, 0, none⟩) xs.length cap) xs rfl HV.out t1 rfl (by omega) (below_size HB.out) ?_; intro v9 w9 hv9 hg9; have n0_ := Aside0.mk (HB.out.grown hg9 (below_size HB.out) (fun k hk => by have h_ : g = k := (by simpa [Value.ownBlock] using hk); rw [← h_]; exact hgb.out)); have n1_ := Aside0.mk hv9; clear HB HV hv9 hg9; have HB := n0_; have HV := n1_; clear n0_ n1_))
                    go_roundg m
                    case measure => omega
                    case rel => exact ⟨i + 1, xs ++ bytesOf t1, (by go_num), ⟨by have := HI.out; omega⟩, H', HV, ⟨by rw [List.length_append, bytesOf_length]; omega⟩, HB⟩
                  · rw [if_neg (fun h => hle h.2)] at hH
                    simp only [Option.some.injEq, Prod.mk.injEq] at hH
                    obtain ⟨rfl, rfl⟩ := hH
                    have hno : decide (1048576 < (wrap64 ((xs.length : Int) + (t1.size : Int)))) = true := decide_eq_true (by unfold wrap64; omega)
                    go_wp2_with (first | (go_at_call 43; (with_reducible refine (pack_Text.calls 100 (rdOf ByteArray.empty l0 (i : Int)) t1 _ _ HT.out).mono ?_); rintro e w2 ⟨rfl, hb⟩; have n0_ := Aside0.mk (Yv HB hb); have n1_ := Aside0.mk (BRow.below HV.out hb); clear HB HV hb; have HB := n0_; have HV := n1_; clear n0_ n1_; simp only [errW_none, errW_some]))
                    refine bodyPost_ret (results_tmp2 rfl _ _ _) rfl ?_
                    exact ⟨rfl, HB.out⟩
              · rw [if_neg hts] at hH
                cases hH
      exact go n2 HN.out
    · rw [if_neg h2] at h
      cases h
  · rw [if_neg h1] at h
    simp only [Option.some.injEq, Prod.mk.injEq] at h
    obtain ⟨rfl, rfl⟩ := h
    go_enter Try.func26, Try.ntmps26
    go_wp2
    refine bodyPost_ret (results_tmp2 rfl _ _ _) rfl ?_
    exact ⟨rfl, HB.out⟩
end Go.Proofs.Ytbdkfmhkgeoeaaa.Print
