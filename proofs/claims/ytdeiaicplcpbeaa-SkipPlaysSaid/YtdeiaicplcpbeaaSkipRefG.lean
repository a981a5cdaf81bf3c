import Derived.Test.YtdeiaicplcpbeaaSkipRefL
namespace Go.Proofs.Ytdeiaicplcpbeaa.Print
open Go.RowKit Go.Proofs.YtdeiaicplcpbeaaX Go.Proofs.YtdeiaicplcpbeaaW.PrintWords Go.Proofs.YtdeiaicplcpbeaaW.PrintLast
set_option linter.unusedVariables false
set_option linter.unusedSimpArgs false

theorem find_some0 {key : ByteArray} {l : List One} {z : One} (h : findO key l = some z) : ∃ h2 : (lessO key l).length < l.length, l[(lessO key l).length] = z := by
  by_cases hlt : (lessO key l).length < l.length
  · refine ⟨hlt, ?_⟩
    rw [find_at0 hlt] at h
    split at h
    · exact Option.some.inj h
    · cases h
  · rw [find_none0 hlt] at h; cases h
theorem RL.elem {n0 rb : Nat} {l : List One} {W : World} (h : RL n0 W rb l) (k : Nat) (hk : k < l.length) : ∃ ad c, W.cell? ⟨rb, 0, none⟩ = some (.slice (some ad) l.length c) ∧ W.cell? (ad.add (k * 3)) = some (.string l[k].1) ∧ W.cell? ⟨(ad.add (k * 3)).block, (ad.add (k * 3)).off + 1, none⟩ = some (.string l[k].2.1) ∧ W.cell? ⟨(ad.add (k * 3)).block, (ad.add (k * 3)).off + 2, none⟩ = some (.int .i64 (l[k].2.2 : Int)) := by
  obtain ⟨A, c, hb, _, hc, hC⟩ := h.read
  obtain ⟨ad, hA, hx0, hx1, hx2⟩ := at_T55 hC (k : Int) (by omega) (by omega)
  subst hA
  rw [rdS l k hk, Int.toNat_natCast] at hx0 hx1 hx2
  exact ⟨ad, c, hb, hx0, hx1, hx2⟩
set_option maxHeartbeats 4000000 in
set_option maxRecDepth 100000 in
theorem rget_calls {n0 rb : Nat} {l : List One} {key : ByteArray} {w : World} (hR : RL n0 w rb l) (hl : l.length ≤ 1000000) :
    Calls Try.prog 12 #[.pointer (some ⟨rb, 0, none⟩), .string key] w fun e w' => e = .returned (.tuple #[.string (getO key l).1, .bool (getO key l).2]) ∧ Below w.heap.size w w' := by
  have ha := at_calls (key := key) hR hl
  unfold getO
  cases hf : findO key l with
  | none =>
    rw [hf] at ha
    dsimp only [Option.isSome] at ha ⊢
    go_enter Try.func12, Try.ntmps12
    go_wp2_with (go_at_call 22; refine ha.mono ?_; rintro e w1 ⟨he, hB1⟩; subst he)
    go_ret2
    exact ⟨rfl, hB1⟩
  | some z =>
    rw [hf] at ha
    dsimp only [Option.isSome] at ha ⊢
    obtain ⟨hlt, hz⟩ := find_some0 hf
    have hel := fun (X : World) (hX : RL n0 X rb l) => hX.elem _ hlt
    rw [hz] at hel
    generalize (lessO key l).length = k at ha hel hlt hz
    have hltz : (k : Int) < (l.length : Int) := by omega
    clear hf hz
    go_enter Try.func12, Try.ntmps12
    go_wp2_with (go_at_call 22; refine ha.mono ?_; rintro e w1 ⟨he, hB1⟩; subst he; obtain ⟨ad, c, h0, h1, h2, h3⟩ := hel _ (hR.below hB1); clear hel h1 h3)
    go_ret2
    exact ⟨rfl, hB1⟩
set_option maxHeartbeats 4000000 in
set_option maxRecDepth 100000 in
theorem rheight_calls {n0 rb : Nat} {l : List One} {key : ByteArray} {w : World} (hR : RL n0 w rb l) (hl : l.length ≤ 1000000) :
    Calls Try.prog 16 #[.pointer (some ⟨rb, 0, none⟩), .string key] w fun e w' => e = .returned (.int .i64 (heightO key l : Int)) ∧ Below w.heap.size w w' := by
  have ha := at_calls (key := key) hR hl
  unfold heightO
  cases hf : findO key l with
  | none =>
    rw [hf] at ha
    dsimp only [Option.isSome] at ha ⊢
    go_enter Try.func16, Try.ntmps16
    go_wp2_with (go_at_call 22; refine ha.mono ?_; rintro e w1 ⟨he, hB1⟩; subst he)
    go_ret
    exact ⟨rfl, hB1⟩
  | some z =>
    rw [hf] at ha
    dsimp only [Option.isSome] at ha ⊢
    obtain ⟨hlt, hz⟩ := find_some0 hf
    have hel := fun (X : World) (hX : RL n0 X rb l) => hX.elem _ hlt
    rw [hz] at hel
    generalize (lessO key l).length = k at ha hel hlt hz
    have hltz : (k : Int) < (l.length : Int) := by omega
    clear hf hz
    go_enter Try.func16, Try.ntmps16
    go_wp2_with (go_at_call 22; refine ha.mono ?_; rintro e w1 ⟨he, hB1⟩; subst he; obtain ⟨ad, c, h0, h1, h2, h3⟩ := hel _ (hR.below hB1); clear hel h1 h2)
    go_ret
    exact ⟨rfl, hB1⟩
set_option maxHeartbeats 4000000 in
set_option maxRecDepth 100000 in
theorem rseek_calls {n0 rb : Nat} {l : List One} {key : ByteArray} {w : World} (hR : RL n0 w rb l) (hl : l.length ≤ 1000000) :
    Calls Try.prog 14 #[.pointer (some ⟨rb, 0, none⟩), .string key] w fun e w' => e = .returned (.tuple #[.string (seekO key l).1, .string (seekO key l).2.1, .bool (seekO key l).2.2]) ∧ Below w.heap.size w w' := by
  have ha := at_calls (key := key) hR hl
  unfold seekO
  rw [more_at0]
  have hle := less_le key l
  by_cases hlt : (lessO key l).length < l.length
  · rw [List.getElem?_eq_getElem hlt]
    dsimp only
    have hel := fun (X : World) (hX : RL n0 X rb l) => hX.elem _ hlt
    obtain ⟨z, hz⟩ : ∃ z, z = l[(lessO key l).length] := ⟨_, rfl⟩
    rw [← hz] at hel ⊢
    generalize (lessO key l).length = k at ha hel hlt hz
    generalize (findO key l).isSome = fb at ha
    have hltz : (k : Int) < (l.length : Int) := by omega
    have hne : ((k : Int) == (l.length : Int)) = false := beq_eq_false_iff_ne.2 (by omega)
    have hne2 : (k == l.length) = false := beq_eq_false_iff_ne.2 (by omega)
    clear hz hle
    go_enter Try.func14, Try.ntmps14
    go_wp2_with (go_at_call 22; refine ha.mono ?_; rintro e w1 ⟨he, hB1⟩; subst he; obtain ⟨ad, c, h0, h1, h2, h3⟩ := hel _ (hR.below hB1); clear hel h3)
    repeat (go_quiet (fail); try go_wp2)
    go_ret3
    exact ⟨rfl, pw_below_drewN hB1 _⟩
  · rw [List.getElem?_eq_none (by omega)]
    dsimp only
    have he : (lessO key l).length = l.length := by omega
    rw [he] at ha
    generalize (findO key l).isSome = fb at ha
    have hr := fun (X : World) (hX : RL n0 X rb l) => hX.read
    clear he hlt hle
    go_enter Try.func14, Try.ntmps14
    go_wp2_with (go_at_call 22; refine ha.mono ?_; rintro e w1 ⟨he, hB1⟩; subst he; obtain ⟨A, c, h0, _, _, _⟩ := hr _ (hR.below hB1); clear hr)
    go_ret3
    exact ⟨rfl, hB1⟩
def laneR (h : Int) (l : List One) : List ByteArray := (l.filter (fun x => decide (h < (x.2.2 : Int)))).map (·.1)
theorem laneR_O {h : Int} {l : List One} (hG : GoodO l) : laneR h l = laneO h l := by
  unfold laneR laneO
  by_cases c : h ≥ 12
  · rw [if_pos c]
    have : l.filter (fun x => decide (h < (x.2.2 : Int))) = [] := List.filter_eq_nil_iff.2 (fun x hx => by have := (hG.hs x hx).2; simp; omega)
    rw [this]; rfl
  · rw [if_neg c]
    congr 1
    apply List.filter_congr
    intro x hx
    have := (hG.hs x hx).1
    rw [decide_eq_decide]; omega
theorem laneR_take {h : Int} {l : List One} {i : Nat} (hi : i < l.length) : laneR h (l.take (i + 1)) = if h < (l[i].2.2 : Int) then laneR h (l.take i) ++ [l[i].1] else laneR h (l.take i) := by
  rw [take_succ hi]
  unfold laneR
  rw [List.filter_append, List.map_append, List.filter_cons]
  by_cases c : h < (l[i].2.2 : Int)
  · rw [if_pos (decide_eq_true c), if_pos c]; rfl
  · rw [if_neg (by simpa using c), if_neg c]; simp
set_option maxHeartbeats 4000000 in
set_option maxRecDepth 100000 in
theorem rlane_calls {n0 rb : Nat} {l : List One} {h : Int} {w : World} (hR : RL n0 w rb l) (hl : l.length ≤ 1000000) :
    Calls Try.prog 19 #[.pointer (some ⟨rb, 0, none⟩), .int .i64 h] w fun e w' => ∃ v, e = .returned v ∧ SRow w' w.heap.size v (laneR h l) ∧ Below w.heap.size w w' := by
  obtain ⟨i0, hi, iz0, iz1, iz2⟩ := info_parts infoS_
  go_enter Try.func19, Try.ntmps19
  go_wp2
  go_loopg [5, 6] l.length (fun gg v5 v6 wr => ∃ i : Nat, i ≤ l.length ∧ l.length - i ≤ gg ∧ v6 = .int .i64 i ∧ SRow wr w.heap.size v5 (laneR h (l.take i)) ∧ Below w.heap.size w wr)
  case atStart => exact ⟨0, Nat.zero_le _, Nat.le_refl _, rfl, World.ownsRow_nil _ _ _ _, Below.refl _ _⟩
  case round =>
    obtain ⟨i, hil, hig, rfl, hS, hB⟩ := hrel
    by_cases hlt : i < l.length
    · have hltz : (i : Int) < (l.length : Int) := by omega
      obtain ⟨ad, c, h0, h1, h2, h3⟩ := (hR.below hB).elem i hlt
      have hnx := laneR_take (h := h) hlt
      have hpl : (laneR h (l.take i)).length ≤ 1000000 := by
        unfold laneR
        rw [List.length_map]
        refine Nat.le_trans (List.length_filter_le _ _) ?_
        rw [List.length_take]; omega
      generalize l[i] = x at h1 h2 h3 hnx
      generalize laneR h (l.take i) = xs at hS hnx hpl
      by_cases ch : h < (x.2.2 : Int)
      · rw [if_pos ch] at hnx
        have cb : decide ((x.2.2 : Int) > h) = true := decide_eq_true ch
        have hnx' := Aside0.mk hnx
        clear hnx h2
        go_wp2_with (at_builtin; refine wpList_append_own _ rfl _ _ 38 rfl w.heap.size 9 i0 _ 1 16 Try.underlying38 hi iz0 iz1 iz2 rfl (by decide) u5 xs.length (xs.map Value.string) rfl (SRow.below hS (below_alloc (Below.refl _ _) _)) ⟨wr.heap.size, 0, none⟩ 1 1 [.string x.1] rfl rfl (cells_newS _ _) (by simp [Value.oneCell']) (by unfold maxLen; omega) (by omega) (by rw [World.size_alloc]; exact Nat.le_trans hB.size (Nat.le_succ _)) ?_; intro v9 w9 ho9 hg9 _)
        go_roundg (l.length - (i + 1))
        case measure => omega
        case rel =>
          have hB9 : Below w.heap.size wr w9 := ((Below.refl w.heap.size wr).alloc hB.size _).grown hg9 (by rw [World.size_alloc]; exact Nat.le_trans hB.size (Nat.le_succ _)) (fun k hk => SRow.base_le hS hk)
          refine ⟨i + 1, by omega, Nat.le_refl _, by go_num, ?_, hB.trans hB9⟩
          unfold SRow
          rw [hnx'.out, List.length_append, List.map_append]
          exact ho9
      · rw [if_neg ch] at hnx
        have cb : decide ((x.2.2 : Int) > h) = false := decide_eq_false ch
        have hnx' := Aside0.mk hnx
        clear hnx h2
        go_wp2
        go_roundg (l.length - (i + 1))
        case measure => omega
        case rel => exact ⟨i + 1, by omega, Nat.le_refl _, by go_num, by rw [hnx'.out]; exact hS, hB⟩
    · have hltz : ¬ (i : Int) < (l.length : Int) := by omega
      obtain rfl : i = l.length := by omega
      rw [List.take_of_length_le (Nat.le_refl _)] at hS
      obtain ⟨A, c, h0, _, _, _⟩ := (hR.below hB).read
      go_wp2
      go_ret
      exact ⟨_, rfl, hS, hB⟩
end Go.Proofs.Ytdeiaicplcpbeaa.Print
