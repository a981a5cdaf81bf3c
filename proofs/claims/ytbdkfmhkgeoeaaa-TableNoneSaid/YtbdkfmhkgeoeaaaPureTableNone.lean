/- A key that no entry has is not found; nor is one up to a number that is below all of its own: for all arguments that the row lets in. -/
import Derived.Test.YtbdkfmhkgeoeaaaTabC
import Derived.Sort.CutIn
namespace Go.Proofs.Ytbdkfmhkgeoeaaa.Pure
open Go.RowKit Go.Proofs.Ytbdkfmhkgeoeaaa.Print Go.Proofs.YtbdkfmhkgeoeaaaX Go.Proofs.YtbdkfmhkgeoeaaaW.PrintWords Go.Proofs.YtbdkfmhkgeoeaaaW.PrintLast Go.Proofs.YtbdkfmhkgeoeaaaW.PrintMore
set_option linter.unusedVariables false
set_option linter.unusedSimpArgs false

def anyF (l : List Ent) (key : ByteArray) (seq : Int) (i : Nat) : Bool := (l.take i).any (hit key seq)
set_option maxHeartbeats 4000000 in
set_option maxRecDepth 100000 in
theorem tableNoneWalk (A0 : Option Addr) (c0 : Nat) (l0 : List Ent) (a1 : ByteArray) (a2 : Int) (w : World) (hr0 : Kd.C k36 w A0 l0.length l0) (hc0 : l0.length ≤ c0)
    (v0 : l0.length ≤ maxLen ∧ l0.length * 48 ≤ 140737488351232 ∧ ∀ x ∈ l0, V36 x) (v1 : a1.size ≤ 140737488351232) (v2 : (Lit.int .i64 a2).wf = true) :
    Calls Try.prog 4 #[.slice A0 l0.length c0, .string a1, .int .i64 a2] w fun e w' => e = .returned (.bool true) ∧ Below w.heap.size w w' := by
  have hu25 := Try.underlying25
  have hu48 := Try.underlying48
  have hex := examples_calls w
  obtain ⟨d, hd⟩ : ∃ d, min l0.length 200 = d := ⟨_, rfl⟩
  have hdl : d ≤ l0.length ∧ d ≤ 200 := by omega
  have hmn : (if (200 : Int) < (l0.length : Int) then (200 : Int) else (l0.length : Int)) = (d : Int) := by split <;> omega
  have hmin : min (l0.length : Int) 200 = (d : Int) := by omega
  have hCd := Kd.C_take hr0 hdl.1
  have hld : (l0.take d).length = d := by rw [List.length_take]; omega
  have hcd : d ≤ c0 := by omega
  rw [hld] at hCd
  generalize l0.take d = l at hCd hld
  have hL0 := v0.2.1
  have hl0z : d ≤ l0.length := hdl.1
  have hd2 : d ≤ 200 := hdl.2
  clear hd hdl hr0 v0
  go_enter Try.func4, Try.ntmps4
  go_upto_region 3 with (go_at_call 8; refine hex.mono ?_; clear hex; rintro e w1 ⟨rfl, b1⟩)
  have hCd1 := Kd.C_below hCd b1
  clear hmn hmin
  by_cases hbad : l.length = 0 ∨ sortedB l = false
  · have hB := build_calls A0 c0 l 3 10 w1 (by rw [hld]; exact hCd1) (by rw [hld]; exact hcd) (by omega)
    have e1 : buildR l 3 10 = (⟨#[]⟩, some 1) := by unfold buildR; rw [if_neg (by decide), if_pos hbad]
    rw [e1, hld] at hB
    have hB' : Calls Try.prog 9 #[.slice A0 d c0, .int .i64 3, .int .i64 10] w1 fun e w' => e = .returned (.tuple #[.string (⟨#[]⟩ : ByteArray), .iface 48 (.int .i64 1)]) ∧ Below w1.heap.size w1 w' := hB
    clear hB hbad
    go_wp2_with (go_at_call 9; refine hB'.mono ?_; clear hB'; rintro e w2 ⟨rfl, b2⟩)
    go_ret
    exact ⟨rfl, b1.trans (b2.mono b1.size)⟩
  · have hne : 0 < l.length := by omega
    have hs : sortedB l = true := by
      cases h : sortedB l with
      | true => rfl
      | false => exact absurd (.inr h) hbad
    have hB := build_calls A0 c0 l 3 10 w1 (by rw [hld]; exact hCd1) (by rw [hld]; exact hcd) (by omega)
    rw [buildR_yes l 3 10 (by decide) (by decide) (by decide) (by decide) hs hne, hld] at hB
    obtain ⟨bs, hbs⟩ : ∃ b, bytesT l 3 10 = b := ⟨_, rfl⟩
    have hB' : Calls Try.prog 9 #[.slice A0 d c0, .int .i64 3, .int .i64 10] w1 fun e w' => e = .returned (.tuple #[.string bs, .nilIface]) ∧ Below w1.heap.size w1 w' := by rw [← hbs]; exact hB
    have hO : ∀ W, Calls Try.prog 12 #[.string bs] W fun e w' => ∃ tb, e = .returned (.tuple #[.pointer (some ⟨tb, 0, none⟩), .nilIface]) ∧ W.heap.size ≤ tb ∧ TB w' tb (chsF l.length 3 l) (makeR (keysF l) ((10 : Nat) : Int)).1 ∧ Below W.heap.size W w' := fun W => by
      rw [← hbs]; exact opens l 3 10 W (by decide) (by decide) (by decide) (by decide) hs hne (by omega)
    clear hB hbs hbad
    go_upto_region 10 with (first
      | (go_at_call 9; refine hB'.mono ?_; clear hB'; rintro e w2 ⟨rfl, b2⟩)
      | (go_at_call 12; refine (hO _).mono ?_; clear hO; rintro e w3 ⟨tb, rfl, htb, hT, b3⟩))
    have hB3 : Below w.heap.size w w3 := (b1.trans (b2.mono b1.size)).trans (b3.mono (Nat.le_trans b1.size b2.size))
    have hC3 := Kd.C_below hCd hB3
    clear hCd1 hCd b1 b2 b3
    go_wp2
    go_loopg [12, 13] d (fun gg v12 v13 wr => ∃ i : Nat, i ≤ d ∧ d - i ≤ gg ∧ v13 = .int .i64 (i : Int) ∧ (∃ t : Bool, v12 = .bool t ∧ Aside0 (t = anyF l a1 a2 i)) ∧ wr = w3)
    case atStart => exact ⟨0, Nat.zero_le _, Nat.le_refl _, rfl, ⟨false, rfl, ⟨rfl⟩⟩, rfl⟩
    case round =>
      obtain ⟨i, hin, hig, rfl, ⟨t, rfl, ht⟩, hwr⟩ := hrel
      subst hwr
      by_cases hlt : i < d
      · have hltz : (i : Int) < (d : Int) := by omega
        obtain ⟨ad, hA, hx0, hx1, hx2, hx3⟩ := at_T36 hC3 (i : Int) (by omega) (by omega)
        rw [rd_gt, Int.toNat_natCast] at hx0 hx1 hx2 hx3
        have hst : anyF l a1 a2 (i + 1) = (anyF l a1 a2 i || hit a1 a2 (gt l i)) := by
          unfold anyF
          rw [List.take_add_one, List.getElem?_eq_getElem (by omega), List.any_append, gt_get (by omega)]
          simp
        rw [← ht.out] at hst
        unfold hit at hst
        have HST := Aside0.mk hst
        clear hst ht
        generalize gt l i = x at hx0 hx1 hx2 hx3 HST
        subst hA
        cases t with
        | true =>
          have HN : Aside0 (true = anyF l a1 a2 (i + 1)) := ⟨by rw [HST.out]; rfl⟩
          clear HST
          go_wp2
          go_roundg (d - (i + 1))
          case measure => omega
          case rel => exact ⟨i + 1, by omega, Nat.le_refl _, by go_num, ⟨_, rfl, HN⟩, rfl⟩
        | false =>
          cases hk : (x.f0.toList == a1.toList) with
          | true =>
            by_cases hq : x.f1 ≤ a2
            · have HN : Aside0 (true = anyF l a1 a2 (i + 1)) := ⟨by rw [HST.out, hk, decide_eq_true hq]; rfl⟩
              clear HST
              go_wp2
              go_roundg (d - (i + 1))
              case measure => omega
              case rel => exact ⟨i + 1, by omega, Nat.le_refl _, by go_num, ⟨_, rfl, HN⟩, rfl⟩
            · have HN : Aside0 (false = anyF l a1 a2 (i + 1)) := ⟨by rw [HST.out, hk, decide_eq_false hq]; rfl⟩
              clear HST
              go_wp2
              go_roundg (d - (i + 1))
              case measure => omega
              case rel => exact ⟨i + 1, by omega, Nat.le_refl _, by go_num, ⟨_, rfl, HN⟩, rfl⟩
          | false =>
            have HN : Aside0 (false = anyF l a1 a2 (i + 1)) := ⟨by rw [HST.out, hk]; rfl⟩
            clear HST
            go_wp2
            go_roundg (d - (i + 1))
            case measure => omega
            case rel => exact ⟨i + 1, by omega, Nat.le_refl _, by go_num, ⟨_, rfl, HN⟩, rfl⟩
      · have hltz : ¬ (i : Int) < (d : Int) := by omega
        obtain rfl : i = d := by omega
        have ht2 : t = l.any (hit a1 a2) := by rw [ht.out]; unfold anyF; rw [List.take_of_length_le (by omega)]
        have hfi : (∃ e : Ent, t = true ∧ findR l a1 a2 = (e.f0, e.f1, e.f2, e.f3, true) ∧ e.f0.toList = a1.toList ∧ e.f1 ≤ a2) ∨ (t = false ∧ findR l a1 a2 = (⟨#[]⟩, 0, false, ⟨#[]⟩, false)) := by
          unfold findR
          cases hf : l.find? (hit a1 a2) with
          | some e =>
            have h1 := List.find?_some hf
            have h2 := List.mem_of_find?_eq_some hf
            unfold hit at h1
            rw [Bool.and_eq_true, beq_iff_eq, decide_eq_true_eq] at h1
            exact .inl ⟨e, by rw [ht2]; exact List.any_eq_true.2 ⟨e, h2, List.find?_some hf⟩, rfl, h1.1, h1.2⟩
          | none =>
            refine .inr ⟨?_, rfl⟩
            rw [ht2]
            exact List.any_eq_false.2 (fun e he => List.find?_eq_none.1 hf e he)
        clear ht ht2
        rcases hfi with ⟨x, rfl, hF, hxk, hxs⟩ | ⟨rfl, hF⟩
        · have hG := get_of tb a1 a2 l 3 _ wr (by decide) (by decide) hs (by omega) hT _ _ _ _ _ hF
          have hxb : (x.f0.toList == a1.toList) = true := beq_iff_eq.2 hxk
          clear hF hT hs hxk
          go_upto_region 15 with (go_at_call 13; refine hG.mono ?_; clear hG; rintro e w6 ⟨rfl, b6⟩)
          have hBa : Below w6.heap.size w6 (w6.alloc (.cells #[.string x.f0, .int .i64 x.f1, .bool x.f2, .string x.f3] 36)) := below_alloc (Below.refl _ _) _
          have hB7 := (hB3.trans (b6.mono hB3.size)).trans (hBa.mono (Nat.le_trans hB3.size b6.size))
          obtain ⟨⟨xc0, xc1, xc2, xc3⟩, xf0, xf1, xf2, xf3⟩ := Zk4 (Aside0.mk (heap_alloc_new w6 (.cells #[.string x.f0, .int .i64 x.f1, .bool x.f2, .string x.f3] 36)))
          generalize w6.heap.size = xb at xc0 xc1 xc2 xc3 xf0 xf1 xf2 xf3 ⊢
          generalize w6.alloc (.cells #[.string x.f0, .int .i64 x.f1, .bool x.f2, .string x.f3] 36) = w7 at xc0 xc1 xc2 xc3 xf0 xf1 xf2 xf3 hB7 ⊢
          clear hBa b6
          go_wp2
          go_ret
          exact ⟨rfl, hB7⟩
        · have hG := get_of tb a1 a2 l 3 _ wr (by decide) (by decide) hs (by omega) hT _ _ _ _ _ hF
          clear hF hT hs
          go_upto_region 15 with (go_at_call 13; refine hG.mono ?_; clear hG; rintro e w6 ⟨rfl, b6⟩)
          have hBa : Below w6.heap.size w6 (w6.alloc (.cells #[.string (⟨#[]⟩ : ByteArray), .int .i64 0, .bool false, .string (⟨#[]⟩ : ByteArray)] 36)) := below_alloc (Below.refl _ _) _
          have hB7 := (hB3.trans (b6.mono hB3.size)).trans (hBa.mono (Nat.le_trans hB3.size b6.size))
          obtain ⟨⟨xc0, xc1, xc2, xc3⟩, xf0, xf1, xf2, xf3⟩ := Zk4 (Aside0.mk (heap_alloc_new w6 (.cells #[.string (⟨#[]⟩ : ByteArray), .int .i64 0, .bool false, .string (⟨#[]⟩ : ByteArray)] 36)))
          generalize w6.heap.size = xb at xc0 xc1 xc2 xc3 xf0 xf1 xf2 xf3 ⊢
          generalize w6.alloc (.cells #[.string (⟨#[]⟩ : ByteArray), .int .i64 0, .bool false, .string (⟨#[]⟩ : ByteArray)] 36) = w7 at xc0 xc1 xc2 xc3 xf0 xf1 xf2 xf3 hB7 ⊢
          clear hBa b6
          go_wp2
          go_ret
          exact ⟨rfl, hB7⟩
end Go.Proofs.Ytbdkfmhkgeoeaaa.Pure
