/- Contracts proved by hand: see the theorems' own lines. -/
import Derived.BigQuiet
import Derived.LoopIn
import Derived.LoopNIn
import Derived.OwnWalkIn
import Derived.RangeFuncBound
import Derived.RangeFuncBox
import Derived.RangeFuncCalls
import Derived.RangeFuncLeaves
import Derived.RangeFuncNested
import Derived.RangeFuncRecord
import Derived.Shelf.Abstract
import Derived.Shelf.RegionOpen
import Derived.Sort.CutIn
import Derived.TacticsInMore
import Derived.Test.YteljlfodjbgejaaHMergeAny
import Derived.Test.YteljlfodjbgejaaHMergeMerged
import Derived.Test.YteljlfodjbgejaaHMergeOut
import Derived.Test.YteljlfodjbgejaaPrint0
import Derived.Test.YteljlfodjbgejaaPrint4
import Derived.Test.YteljlfodjbgejaaXRounds
import Derived.WalkKit
namespace Go.Proofs.Yteljlfodjbgejaa.Print
open Go.Sort Go.RowKit Go.Shelf Go.Proofs.YteljlfodjbgejaaW.PrintWords Go.Proofs.YteljlfodjbgejaaW.PrintLast Go.Proofs.YteljlfodjbgejaaX
set_option linter.unusedVariables false
set_option linter.unusedSimpArgs false
attribute [local go_sem] Oper.semAt_some

theorem keepsD (W : World) (m : Nat) : KeepsOthers W (W.drewN m) := ⟨Nat.le_refl _, fun k o hk _ => hk⟩
/-! ## Merge -/
def kBig : Nat := 1000002
def lastE (l : List S34) : S34 := rd_T34 l ((l.length : Int) - 1)
/-- The next entry comes to what is merged, if it is none that is the last one's fellow. -/
def mergeStep (out : List S34) (e : S34) : List S34 := if 0 < out.length ∧ (lastE out).f0.toList = e.f0.toList ∧ (lastE out).f1 = e.f1 then out else out ++ [e]
theorem mergeStep_len (out : List S34) (e : S34) : (mergeStep out e).length ≤ out.length + 1 := by
  unfold mergeStep
  split <;> simp
theorem mergeStep_fold (l : List S34) : ∀ out, (l.foldl mergeStep out).length ≤ out.length + l.length := by
  induction l with
  | nil => intro out; simp
  | cons x l ih =>
    intro out
    have := ih (mergeStep out x)
    have := mergeStep_len out x
    rw [List.foldl_cons, List.length_cons]
    omega
theorem merged_len (ls : List (List S34)) : ∀ m ks, (mergedF ls m ks).length ≤ m := by
  intro m
  induction m with
  | zero => intro ks; simp [mergedF]
  | succ m ih =>
    intro ks
    simp only [mergedF]
    split
    · simp
    · rw [List.length_cons]; have := ih (ks.set (bestF ls ks ls.length 0 (-1)).toNat (ks.getD (bestF ls ks ls.length 0 (-1)).toNat 0 + 1)); omega
def merge_Merge.f (ls : List (List S34)) : Option (List S34 × Option Int) :=
  if ls.length ≤ 1000 ∧ ls.all (fun x => decide (x.length ≤ 1000) && (block_Sorted.f kBig x).isSome) = true ∧ restF ls (List.replicate ls.length 0) ≤ 1000000 then
    (if ls.any (fun x => !((block_Sorted.f kBig x).getD false)) = true then some ([], some 1) else some ((mergedF ls (restF ls (List.replicate ls.length 0) + 1) (List.replicate ls.length 0)).foldl mergeStep [], none))
  else none
set_option maxHeartbeats 4000000 in
set_option maxRecDepth 100000 in
theorem merge_Merge.calls (A0 : Option Addr) (c0 : Nat) (l0 : List (List S34)) (r1 : List S34) (r2 : Option Int) (w : World) (hr0 : Kd.C (Kd.slice 34 k34) w A0 l0.length l0) (hc0 : l0.length ≤ c0) (h : merge_Merge.f l0 = some (r1, r2)) :
    Calls Try.prog 12 #[.slice A0 l0.length c0] w (fun e w' => ∃ v_ : Value, e = .returned (.tuple #[v_, errW r2]) ∧ Kd.R k34 34 w' w.heap.size (fun _ => True) v_ r1 ∧ Below w.heap.size w w') := by
  unfold merge_Merge.f at h
  by_cases hb : l0.length ≤ 1000 ∧ l0.all (fun x => decide (x.length ≤ 1000) && (block_Sorted.f kBig x).isSome) = true ∧ restF l0 (List.replicate l0.length 0) ≤ 1000000
  · rw [if_pos hb] at h
    obtain ⟨hb1, hb2, hb3⟩ := hb
    rw [List.all_eq_true] at hb2
    have hb2' : ∀ x ∈ l0, x.length ≤ 1000 ∧ block_Sorted.f kBig x = some ((block_Sorted.f kBig x).getD false) := fun x hx => by
      have h := hb2 x hx
      rw [Bool.and_eq_true, decide_eq_true_eq] at h
      obtain ⟨y, hy⟩ := Option.isSome_iff_exists.1 h.2
      exact ⟨h.1, by rw [hy]; rfl⟩
    have hany := anyList_calls A0 c0 l0 (fun x => !((block_Sorted.f kBig x).getD false)) 24 #[] (enters_of Try.func24 (by kernel_rfl) rfl) w hr0 (by omega) (notSorted_calls kBig l0 (fun x => (block_Sorted.f kBig x).getD false) w (fun x hx => (hb2' x hx).2))
    generalize (l0.any fun x => !((block_Sorted.f kBig x).getD false)) = bad at h hany
    refine (callsIn_wide (n := 4)).1 ?_
    refine callsIn_of_wp_marks Try.func12 rfl trivial ?_ rfl
    simp only [Try.ntmps12, List.size_toArray, List.length_cons, List.length_nil, Nat.reduceAdd, Nat.reduceSub, Array.replicate_succ, Array.replicate_zero, List.push_toArray, List.append_toArray, List.nil_append, List.cons_append]
    cases bad with
    | true =>
      rw [if_pos rfl] at h
      obtain ⟨rfl, rfl⟩ := Prod.mk.inj (Option.some.inj h)
      gi_wp2_with (first | (refine ⟨trivial, ?_⟩; gi_at_call 23; refine (callsIn_wide.2 hany).mono ?_; rintro e w1 ⟨rfl, hb1⟩))
      refine ⟨_, results_tmp2 rfl _ _ _, .slice none 0 0, rfl, Kd.R_nil _ _ _ _ _, hb1⟩
    | false =>
      rw [if_neg (by decide)] at h
      obtain ⟨hr1', rfl⟩ := Prod.mk.inj (Option.some.inj h)
      obtain ⟨i0, hi, iz0, iz1, iz2⟩ := info_parts info34
      obtain ⟨fu, hfu⟩ : ∃ fu, restF l0 (List.replicate l0.length 0) + 1 = fu := ⟨_, rfl⟩
      rw [hfu] at hr1'
      have hMl := merged_len l0 fu (List.replicate l0.length 0)
      generalize hM : mergedF l0 fu (List.replicate l0.length 0) = M at hMl hr1'
      gi_wp2_with (first | (refine ⟨trivial, ?_⟩; gi_at_call 23; refine (callsIn_wide.2 hany).mono ?_; rintro e w1 ⟨rfl, hb1⟩) | (refine ⟨trivial, ?_⟩; gi_at_call 25; refine (callsIn_wide.2 (merged_calls A0 l0.length c0 (by omega) _)).mono ?_; rintro e w2 ⟨b1, b2, ba, rfl, hg1, hg2, hga, h12, h1a, h2a, hr1, hr2, hra, hb2⟩))
      have bO := Boxed.new w1 24 (.slice none 0 0)
      obtain ⟨ob, hob⟩ : ∃ ob, w1.heap.size = ob := ⟨_, rfl⟩
      have hwob : w.heap.size ≤ ob := by have := hb1.size; omega
      have hBa : Below w.heap.size w (w1.alloc (.cells #[.slice none 0 0] 24)) := hb1.alloc hb1.size _
      rw [World.size_alloc, hob] at hg1 hg2 hga
      have hB2 : Below w.heap.size w w2 := below_step hBa hb2
      have bO2 := Boxed.below bO hb2
      rw [hob] at bO2
      rw [hob]
      obtain ⟨n1, hn1⟩ : ∃ n1, w2.heap.size = n1 := ⟨_, rfl⟩
      have hba1 : ba < n1 := by rw [← hn1]; exact (Array.getElem?_eq_some_iff.1 hra).1
      have hb11 : b1 < n1 := by rw [← hn1]; exact (Array.getElem?_eq_some_iff.1 hr1).1
      have hb21 : b2 < n1 := by rw [← hn1]; exact (Array.getElem?_eq_some_iff.1 hr2).1
      have hob1 : ob < n1 := by omega
      refine wpIn_range_turned (α := S34) (gf := 35) (lb := #[.pointer (some ⟨b1, 0, none⟩), .pointer (some ⟨b2, 0, none⟩)]) (fun k => k = ba) (fun x => #[entV4 x]) (fun xs => xs = M) (fun pre x => pre ++ [x] <+: M) (fun X Y => KpM b1 b2 ba X Y ∧ Below w.heap.size X Y) rfl
        (fun args W => enters_of Try.func35 (by kernel_rfl) rfl args W) (fun k hk => by rw [hn1, hk]; exact hba1) (fun _ => rfl) (fun {A B C} h1 h2 => ⟨⟨h2.1.1.trans h1.1.1, h2.1.2.1.trans h1.1.2.1, h2.1.2.2.trans h1.1.2.2⟩, h1.2.trans h2.2⟩)
        (fun W l o' hl => ⟨⟨World.putObj_heap_other (by omega), World.putObj_heap_other (by omega), World.putObj_heap_other (by omega)⟩, belowP W l o' (by omega)⟩)
        (fun pre W => (∃ v, Boxed W ob 24 v ∧ ERow W n1 v (pre.foldl mergeStep [])) ∧ Below w.heap.size w W ∧ n1 ≤ W.heap.size)
        (fun s X Y ht hs => ⟨hs.1.imp (fun v hv => ⟨Boxed.turned hv.1 ht (by omega), ERow.turned hv.2 ht (fun k hk => by omega)⟩), turnB hs.2.1 ht (Nat.le_refl _) (fun k hk => by omega), Nat.le_trans hs.2.2 ht.size⟩)
        (fun s X l o o' hl ho hc hs => ⟨hs.1.imp (fun v hv => ⟨boxedP hv.1 o' (by omega), ERow.put hv.2 ho hc o'⟩), hs.2.1.trans (belowP X l o' (by omega)), Nat.le_trans hs.2.2 (grownBy_putObj' X l o').size⟩)
        ⟨⟨_, bO2, ERow.nil _ _⟩, hB2, by omega⟩
        (fun pre x a' W => ∃ g, W.heap[g]? = some (.cells #[.string x.f0, .int .i64 x.f1, .bool x.f2, .string x.f3] 34 (0, 0)) ∧ n1 ≤ g ∧ a' = { tmps := #[.slice A0 l0.length c0, undef, .slice none 0 0, .nilIface, .pointer (some ⟨ob, 0, none⟩), .pointer (some ⟨g, 0, none⟩), undef, .slice A0 l0.length c0, .bool false, undef, .slice A0 l0.length c0, .func (.func 35) #[] #[.pointer (some ⟨b1, 0, none⟩), .pointer (some ⟨b2, 0, none⟩)], entV4 x, undef, undef, undef, undef, undef, undef, undef, undef, undef, undef, undef, undef, undef, undef, undef, undef, undef, undef, undef, undef, undef, undef, undef, undef, undef, undef, undef, undef, undef, undef, undef], defers := [] })
        (fun s x c W l o o' hl ho hc hs => hs.imp (fun g hg => ⟨(World.putObj_heap_other (fun e => by rw [← e, hg.1] at ho; cases ho; cases hc)).trans hg.1, hg.2⟩)) ?hseq ?hassign ?hbody ?hdone
      case hseq =>
        intro l J W1 hBW hJ hY h0
        have hle : ∀ i : Nat, i < l0.length → (rd_L4 l0 (i : Int)).length ≤ 1000000 := fun i hi => by
          have hm : rd_L4 l0 (i : Int) ∈ l0 := by unfold rd_L4; rw [Int.toNat_natCast, List.getD_eq_getElem?_getD, List.getElem?_eq_getElem hi]; exact List.getElem_mem hi
          have := (hb2' _ hm).1
          omega
        refine (merged1_in (4 - 1) (by decide) l b1 b2 ba w A0 c0 l0 (by omega) hle hr0 hc0 (fun s X => J s X ∧ Below w.heap.size w X) W1 (fun s X Y ht hs => ⟨hJ s X Y ht hs.1, turnB hs.2 ht (Nat.le_refl _) (fun k hk => by omega)⟩) (fun s X hs => hs.2) (by omega) h1a h2a fu (by omega) ?_ (blk_below hr1 hBW) (blk_below hr2 hBW) (hra.below hBW) ⟨h0, below_step hB2 hBW⟩).mono (fun e W' hh => ⟨hh.1, M, rfl, hM ▸ hh.2.1⟩)
        intro pre x X hJx hpre
        rw [hM] at hpre
        obtain ⟨fn, tmps, assign, body, hy, hR⟩ := hY pre x X hJx.1 hpre
        exact ⟨fn, tmps, assign, body, hy, hR.mono (fun e X' hh => ⟨hh.1, ⟨hh.2.1, hJx.2.trans hh.2.2.2⟩, hh.2.2.1⟩)⟩
      case hassign =>
        intro l pre x W K hi hv hK
        obtain ⟨⟨v, hvb, hvr⟩, hBW, hnW⟩ := hi
        unfold entV4 at hK ⊢
        gi_wp2
        exact hK _ _ ((KeepsOthers.alloc W _).from _) ⟨⟨Below.heap_alloc _ _ _ (by omega), Below.heap_alloc _ _ _ (by omega), Below.heap_alloc _ _ _ (by omega)⟩, (Below.refl _ _).alloc (by have := hBW.size; omega) _⟩ ⟨⟨v, hvb.alloc _, ERow.below hvr (below_alloc (Below.refl _ _) _)⟩, hBW.alloc hBW.size _, by rw [World.size_alloc]; omega⟩ ⟨W.heap.size, heap_alloc_new W _, hnW, rfl⟩
      case hbody =>
        rintro l pre x a' W ⟨⟨v, hvb, hvr⟩, hBW, hnW⟩ ⟨g, hg, hgn, rfl⟩ hv
        have hpl : (pre.foldl mergeStep []).length ≤ pre.length := by have := mergeStep_fold pre []; simpa using this
        have hpM : pre.length ≤ M.length := by have := hv.length_le; rw [List.length_append] at this; simp at this; omega
        have hst : (pre ++ [x]).foldl mergeStep [] = mergeStep (pre.foldl mergeStep []) x := by rw [List.foldl_append]; rfl
        rw [hst]
        generalize pre.foldl mergeStep [] = acc at hvr hpl ⊢
        obtain ⟨Av, cv, rfl, hlv, hCv⟩ := ERow.at hvr
        have hoc := hvb.cell
        have hof := hvb.frozen
        obtain ⟨⟨ec0, ec1, ec2, ec3⟩, _⟩ := Zk4 (Aside0.mk hg)
        by_cases hz : acc.length = 0
        · obtain rfl := List.length_eq_zero_iff.1 hz
          have hz0 : (0 < ([] : List S34).length) = False := eq_false (by omega)
          have hms : mergeStep [] x = [] ++ [x] := rfl
          rw [hms]
          gi_upto_region 7 with (fail)
          refine quietR_lit (by kernel_rfl) (by kernel_rfl) (fun ⟨_, _, hh⟩ => by cases hh.1) (by kernel_rfl) ?_
          repeat (go_big_quiet_step (fail))
          refine wpQuiet_nil ?_
          rintro w4 ⟨nq, hw4⟩
          have hKd : KeepsOthers W w4 := hw4 ▸ keepsD W nq
          have hBd : Below w.heap.size W w4 := hw4 ▸ pw_below_drewN (Below.refl _ _) nq
          have hsm : ∀ k : Nat, w4.heap[k]? = W.heap[k]? := fun k => by rw [hw4]; rfl
          have hvb2 : Boxed w4 ob 24 (.slice Av 0 cv) := (hsm ob).trans hvb
          have hvr2 : ERow w4 n1 (.slice Av 0 cv) [] := by rw [hw4]; exact ERow.below hvr (pw_below_drewN (Below.refl _ _) nq)
          have hg4 := (hsm g).trans hg
          have hn4 : n1 ≤ w4.heap.size := by rw [hw4]; exact hnW
          clear hw4 hg hvb hvr hoc hof ec0 ec1 ec2 ec3
          have hoc := hvb2.cell
          have hof := hvb2.frozen
          obtain ⟨⟨ec0, ec1, ec2, ec3⟩, _⟩ := Zk4 (Aside0.mk hg4)
          gi_wp2_with (gi_at_builtin; refine wpListIn_append_own _ rfl _ _ 24 rfl n1 34 i0 _ 4 48 Try.underlying24 hi iz0 iz1 iz2 rfl (by decide) _ _ _ rfl (hvr2.alloc _) ⟨w4.heap.size, 0, none⟩ 1 1 (eC x) rfl rfl (cells_newE _ _ _) (one_eC x) (by unfold maxLen; omega) (by omega) (by rw [World.size_alloc]; omega) ?_; intro v' w5 hown' hgrow _; have hown2 : w5.ownsRow n1 34 4 v' (([] : List S34) ++ [x]).length ((([] : List S34) ++ [x]).flatMap eC) := (by simpa using hown'); obtain ⟨g', cap', rfl⟩ := ownsRow_succ hown'; obtain ⟨hv1, hv2, hr5, hk5, hb5, hkp5⟩ := appendedE hvb2 hvr2 (n0 := w.heap.size) (by omega) (by omega) hwob hob1 hown2 hgrow; have hc1 := hv1.cell; have hf1 := hv1.frozen)
          exact ⟨(hKd.trans hk5).from _, ⟨⟨(hkp5 b1 hb11 (by omega)).trans (hsm b1), (hkp5 b2 hb21 (by omega)).trans (hsm b2), (hkp5 ba hba1 (by omega)).trans (hsm ba)⟩, hBd.trans hb5⟩, ⟨_, hv2, hr5⟩, (hBW.trans hBd).trans hb5, (by have := hk5.size; rw [World.size_setCell] at this; omega)⟩
        · have hz0 : (0 < acc.length) = True := eq_true (by omega)
          obtain ⟨ad, hA, hy0, hy1, hy2, hy3⟩ := at_T34 hCv ((acc.length : Int) - 1) (by omega) (by omega)
          subst hA
          have hms : mergeStep acc x = if (lastE acc).f0.toList = x.f0.toList ∧ (lastE acc).f1 = x.f1 then acc else acc ++ [x] := by
            unfold mergeStep
            by_cases c : (lastE acc).f0.toList = x.f0.toList ∧ (lastE acc).f1 = x.f1
            · rw [if_pos c, if_pos ⟨by omega, c⟩]
            · rw [if_neg c, if_neg (fun e => c e.2)]
          rw [hms]
          have hle : rd_T34 acc ((acc.length : Int) - 1) = lastE acc := rfl
          have hix : ((acc.length : Int) - 1).toNat = acc.length - 1 := by omega
          rw [hle, hix] at hy0 hy1 hy2 hy3
          generalize lastE acc = y at hy0 hy1 hy2 hy3 ⊢
          by_cases c1 : y.f0.toList = x.f0.toList
          · have c1b : (y.f0.toList == x.f0.toList) = true := beq_iff_eq.mpr c1
            by_cases c2 : y.f1 = x.f1
            · have c2b : (y.f1 == x.f1) = true := beq_iff_eq.mpr c2
              rw [if_pos ⟨c1, c2⟩]
              clear c1 c2
              gi_upto_region 7 with (fail)
              refine quietR_lit (by kernel_rfl) (by kernel_rfl) (fun ⟨_, _, hh⟩ => by cases hh.1) (by kernel_rfl) ?_
              repeat (go_big_quiet_step (fail))
              refine wpQuiet_nil ?_
              rintro w4 ⟨nq, hw4⟩
              obtain rfl : w4 = W.drewN nq := hw4
              have hvb2 : Boxed (W.drewN nq) ob 24 (.slice (some ad) acc.length cv) := hvb
              have hBd := pw_below_drewN hBW nq
              gi_wp2
              exact ⟨(keepsD W nq).from _, ⟨⟨rfl, rfl, rfl⟩, pw_below_drewN (Below.refl _ _) nq⟩, ⟨.slice (some ad) acc.length cv, hvb2, ERow.below hvr (pw_below_drewN (Below.refl _ _) nq)⟩⟩
            · have c2b : (y.f1 == x.f1) = false := beq_eq_false_iff_ne.mpr c2
              rw [if_neg (fun e => c2 e.2)]
              clear c1 c2
              gi_upto_region 7 with (fail)
              refine quietR_lit (by kernel_rfl) (by kernel_rfl) (fun ⟨_, _, hh⟩ => by cases hh.1) (by kernel_rfl) ?_
              repeat (go_big_quiet_step (fail))
              refine wpQuiet_nil ?_
              rintro w4 ⟨nq, hw4⟩
              have hKd : KeepsOthers W w4 := hw4 ▸ keepsD W nq
              have hBd : Below w.heap.size W w4 := hw4 ▸ pw_below_drewN (Below.refl _ _) nq
              have hsm : ∀ k : Nat, w4.heap[k]? = W.heap[k]? := fun k => by rw [hw4]; rfl
              have hvb2 : Boxed w4 ob 24 (.slice (some ad) acc.length cv) := (hsm ob).trans hvb
              have hvr2 : ERow w4 n1 (.slice (some ad) acc.length cv) acc := by rw [hw4]; exact ERow.below hvr (pw_below_drewN (Below.refl _ _) nq)
              have hg4 := (hsm g).trans hg
              have hn4 : n1 ≤ w4.heap.size := by rw [hw4]; exact hnW
              clear hw4 hg hvb hvr hoc hof ec0 ec1 ec2 ec3
              have hoc := hvb2.cell
              have hof := hvb2.frozen
              obtain ⟨⟨ec0, ec1, ec2, ec3⟩, _⟩ := Zk4 (Aside0.mk hg4)
              gi_wp2_with (gi_at_builtin; refine wpListIn_append_own _ rfl _ _ 24 rfl n1 34 i0 _ 4 48 Try.underlying24 hi iz0 iz1 iz2 rfl (by decide) _ _ _ rfl (hvr2.alloc _) ⟨w4.heap.size, 0, none⟩ 1 1 (eC x) rfl rfl (cells_newE _ _ _) (one_eC x) (by unfold maxLen; omega) (by omega) (by rw [World.size_alloc]; omega) ?_; intro v' w5 hown' hgrow _; have hown2 : w5.ownsRow n1 34 4 v' (acc ++ [x]).length ((acc ++ [x]).flatMap eC) := (by simpa using hown'); obtain ⟨g', cap', rfl⟩ := ownsRow_succ hown'; obtain ⟨hv1, hv2, hr5, hk5, hb5, hkp5⟩ := appendedE hvb2 hvr2 (n0 := w.heap.size) (by omega) (by omega) hwob hob1 hown2 hgrow; have hc1 := hv1.cell; have hf1 := hv1.frozen)
              exact ⟨(hKd.trans hk5).from _, ⟨⟨(hkp5 b1 hb11 (by omega)).trans (hsm b1), (hkp5 b2 hb21 (by omega)).trans (hsm b2), (hkp5 ba hba1 (by omega)).trans (hsm ba)⟩, hBd.trans hb5⟩, ⟨_, hv2, hr5⟩, (hBW.trans hBd).trans hb5, (by have := hk5.size; rw [World.size_setCell] at this; omega)⟩
          · have c1b : (y.f0.toList == x.f0.toList) = false := beq_eq_false_iff_ne.mpr c1
            rw [if_neg (fun e => c1 e.1)]
            clear c1
            gi_upto_region 7 with (fail)
            refine quietR_lit (by kernel_rfl) (by kernel_rfl) (fun ⟨_, _, hh⟩ => by cases hh.1) (by kernel_rfl) ?_
            repeat (go_big_quiet_step (fail))
            refine wpQuiet_nil ?_
            rintro w4 ⟨nq, hw4⟩
            have hKd : KeepsOthers W w4 := hw4 ▸ keepsD W nq
            have hBd : Below w.heap.size W w4 := hw4 ▸ pw_below_drewN (Below.refl _ _) nq
            have hsm : ∀ k : Nat, w4.heap[k]? = W.heap[k]? := fun k => by rw [hw4]; rfl
            have hvb2 : Boxed w4 ob 24 (.slice (some ad) acc.length cv) := (hsm ob).trans hvb
            have hvr2 : ERow w4 n1 (.slice (some ad) acc.length cv) acc := by rw [hw4]; exact ERow.below hvr (pw_below_drewN (Below.refl _ _) nq)
            have hg4 := (hsm g).trans hg
            have hn4 : n1 ≤ w4.heap.size := by rw [hw4]; exact hnW
            clear hw4 hg hvb hvr hoc hof ec0 ec1 ec2 ec3
            have hoc := hvb2.cell
            have hof := hvb2.frozen
            obtain ⟨⟨ec0, ec1, ec2, ec3⟩, _⟩ := Zk4 (Aside0.mk hg4)
            gi_wp2_with (gi_at_builtin; refine wpListIn_append_own _ rfl _ _ 24 rfl n1 34 i0 _ 4 48 Try.underlying24 hi iz0 iz1 iz2 rfl (by decide) _ _ _ rfl (hvr2.alloc _) ⟨w4.heap.size, 0, none⟩ 1 1 (eC x) rfl rfl (cells_newE _ _ _) (one_eC x) (by unfold maxLen; omega) (by omega) (by rw [World.size_alloc]; omega) ?_; intro v' w5 hown' hgrow _; have hown2 : w5.ownsRow n1 34 4 v' (acc ++ [x]).length ((acc ++ [x]).flatMap eC) := (by simpa using hown'); obtain ⟨g', cap', rfl⟩ := ownsRow_succ hown'; obtain ⟨hv1, hv2, hr5, hk5, hb5, hkp5⟩ := appendedE hvb2 hvr2 (n0 := w.heap.size) (by omega) (by omega) hwob hob1 hown2 hgrow; have hc1 := hv1.cell; have hf1 := hv1.frozen)
            exact ⟨(hKd.trans hk5).from _, ⟨⟨(hkp5 b1 hb11 (by omega)).trans (hsm b1), (hkp5 b2 hb21 (by omega)).trans (hsm b2), (hkp5 ba hba1 (by omega)).trans (hsm ba)⟩, hBd.trans hb5⟩, ⟨_, hv2, hr5⟩, (hBW.trans hBd).trans hb5, (by have := hk5.size; rw [World.size_setCell] at this; omega)⟩
      case hdone =>
        rintro D xs W hD rfl ⟨⟨v, hvb, hvr⟩, hBW, hnW⟩ hK
        have hoc := hvb.cell
        rw [hr1'] at hvr
        gi_wp2
        refine ⟨by simp, .inl ⟨_, _, rfl, run_takeDeferred hK, ?_⟩⟩
        exact ⟨_, results_tmp2 rfl _ _ _, v, rfl, Kd.R_lower (ERow.R (ERow.put hvr hK rfl _)) (by omega), hBW.trans (belowP W D _ (by omega))⟩
  · rw [if_neg hb] at h
    cases h
end Go.Proofs.Yteljlfodjbgejaa.Print
