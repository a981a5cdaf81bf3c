/- Contracts proved by hand: see the theorems' own lines. -/
import Derived.BigQuiet
import Derived.LoopIn
import Derived.LoopNIn
import Derived.OwnWalkIn
import Derived.RangeFuncBound
import Derived.RangeFuncBox
import Derived.RangeFuncCalls
import Derived.RangeFuncLeaves
import Derived.RangeFuncNested
import Derived.RangeFuncRecord
import Derived.Shelf.Abstract
import Derived.Shelf.RegionOpen
import Derived.Sort.CutIn
import Derived.Sort.LoopGhostIn
import Derived.TacticsInMore
import Derived.Test.YteljlfodjbgejaaHMergeKeys
import Derived.Test.YteljlfodjbgejaaHMergeMerge
import Derived.Test.YteljlfodjbgejaaHMergeOut
import Derived.Test.YteljlfodjbgejaaPrint0
import Derived.Test.YteljlfodjbgejaaPrint4
import Derived.Test.YteljlfodjbgejaaXRounds
import Derived.WalkKit
namespace Go.Proofs.Yteljlfodjbgejaa.Print
open Go.Sort Go.RowKit Go.Shelf Go.Proofs.YteljlfodjbgejaaW.PrintWords Go.Proofs.YteljlfodjbgejaaW.PrintLast Go.Proofs.YteljlfodjbgejaaX
set_option linter.unusedVariables false
set_option linter.unusedSimpArgs false
attribute [local go_sem] Oper.semAt_some

/-! ## The parts are the list -/
theorem groups_flat : ∀ (m : Nat) (l : List S34), l.length ≤ m → (groupsF m l).flatten = l := by
  intro m
  induction m with
  | zero => intro l h; rw [List.length_eq_zero_iff.1 (Nat.le_zero.1 h)]; rfl
  | succ m ih =>
    intro l h
    simp only [groupsF]
    by_cases c : l.length = 0
    · rw [if_pos c, List.length_eq_zero_iff.1 c]; rfl
    · rw [if_neg c, List.flatten_cons, ih _ (by rw [List.length_drop]; have := grpN_pos l (by omega); omega), List.take_append_drop]
theorem groups_ne : ∀ (m : Nat) (l : List S34) (g : List S34), g ∈ groupsF m l → 0 < g.length := by
  intro m
  induction m with
  | zero => intro l g h; simp [groupsF] at h
  | succ m ih =>
    intro l g h
    simp only [groupsF] at h
    by_cases c : l.length = 0
    · rw [if_pos c] at h; cases h
    · rw [if_neg c] at h
      rcases List.mem_cons.1 h with rfl | h
      · rw [List.length_take]; have := grpN_pos l (by omega); omega
      · exact ih _ _ h
theorem pre_flat {a : List (List S34)} {x : List S34} {l : List S34} (h : a ++ [x] <+: groupsF l.length l) : a.flatten.length + x.length ≤ l.length ∧ 0 < x.length := by
  obtain ⟨r, hr⟩ := h
  have := congrArg List.flatten hr
  rw [groups_flat _ _ (Nat.le_refl _), List.flatten_append, List.flatten_append] at this
  have := congrArg List.length this
  simp only [List.length_append, List.flatten_cons, List.flatten_nil, List.append_nil] at this
  exact ⟨by omega, groups_ne l.length l x (by rw [← hr]; simp)⟩
/-! ## What Fold makes of a part -/
def markF (k : List S34) (bs : List Bool) (s : Int) : List Bool := if 0 ≤ idxF (seqLe s) k 0 then bs.set (idxF (seqLe s) k 0).toNat true else bs
def marksF (keep : List Int) (k : List S34) : List Bool := keep.foldl (markF k) ((List.replicate k.length false).set 0 true)
def stayF : List Bool → List S34 → List S34
  | b :: bs, e :: es => if b = true then e :: stayF bs es else stayF bs es
  | _, _ => []
def tailF : Nat → List S34 → List S34
  | 0, l => l
  | m + 1, l => if 0 < l.length ∧ (lastE l).f2 = true then tailF m (l.take (l.length - 1)) else l
def foldStep (keep : List Int) (bottom : Bool) (out k : List S34) : List S34 := out ++ (if bottom = true then tailF (stayF (marksF keep k) k).length (stayF (marksF keep k) k) else stayF (marksF keep k) k)
theorem stay_len : ∀ (bs : List Bool) (k : List S34), (stayF bs k).length ≤ k.length := by
  intro bs
  induction bs with
  | nil => intro k; simp [stayF]
  | cons b bs ih =>
    intro k
    cases k with
    | nil => simp [stayF]
    | cons e k =>
      have := ih k
      simp only [stayF]
      split <;> simp only [List.length_cons] <;> omega
theorem tail_len : ∀ (m : Nat) (l : List S34), (tailF m l).length ≤ l.length := by
  intro m
  induction m with
  | zero => intro l; exact Nat.le_refl _
  | succ m ih =>
    intro l
    simp only [tailF]
    split
    · have := ih (l.take (l.length - 1)); rw [List.length_take] at this; omega
    · exact Nat.le_refl _
theorem foldStep_len (keep : List Int) (bottom : Bool) (out k : List S34) : (foldStep keep bottom out k).length ≤ out.length + k.length := by
  unfold foldStep
  rw [List.length_append]
  have h1 := stay_len (marksF keep k) k
  have h2 := tail_len (stayF (marksF keep k) k).length (stayF (marksF keep k) k)
  split <;> omega
theorem foldStep_fold (keep : List Int) (bottom : Bool) (gs : List (List S34)) : ∀ out, (gs.foldl (foldStep keep bottom) out).length ≤ out.length + gs.flatten.length := by
  induction gs with
  | nil => intro out; simp
  | cons g gs ih =>
    intro out
    have h1 := ih (foldStep keep bottom out g)
    have h2 := foldStep_len keep bottom out g
    rw [List.foldl_cons, List.flatten_cons, List.length_append]
    omega
theorem markF_len (k : List S34) (bs : List Bool) (s : Int) : (markF k bs s).length = bs.length := by
  unfold markF
  split
  · rw [List.length_set]
  · rfl
/-- The marks, in their block. -/
def NRow (W : World) (nb : Nat) (bs : List Bool) : Prop := W.heap[nb]? = some (.cells (bs.map (fun b : Bool => Value.bool b)).toArray 4 (0, 0))
theorem NRow.cell {W : World} {nb : Nat} {bs : List Bool} (h : NRow W nb bs) (i : Nat) (hi : i < bs.length) : W.cell? ⟨nb, i, none⟩ = some (.bool (bs.getD i false)) ∧ W.frozen? ⟨nb, i, none⟩ = false := by
  refine ⟨?_, blk_frozen h i⟩
  rw [cell_of_row W nb i _ _ _ h]
  simp [List.getD_eq_getElem?_getD, hi]
theorem NRow.set {W : World} {nb : Nat} {bs : List Bool} (h : NRow W nb bs) (i : Nat) (b : Bool) : NRow (W.setCell ⟨nb, i, none⟩ (.bool b)) nb (bs.set i b) := by
  unfold NRow
  rw [setCell_eq_setRow W nb i _ _ _ _ h, setRow_heap W nb _ _ _ _ h]
  congr 2
  simp [List.map_set]
theorem NRow.below {W W1 : World} {nb : Nat} {bs : List Bool} (h : NRow W nb bs) (hb : Below W.heap.size W W1) : NRow W1 nb bs := (hb.block _ (Array.getElem?_eq_some_iff.1 h).1).trans h
theorem made_repB (m : Nat) : madeCells (Value.bool false).cells m = ((List.replicate m false).map (fun b : Bool => Value.bool b)).toArray := by
  have e : (Value.bool false).cells = #[Value.bool false] := rfl
  rw [e]
  apply Array.ext
  · simp [madeCells]
  · intro i h1 h2
    simp [madeCells, Nat.mod_one]
theorem stay_drop (bs : List Bool) (k : List S34) (i : Nat) (h1 : i < k.length) (h2 : bs.length = k.length) : stayF (bs.drop i) (k.drop i) = (if bs.getD i false = true then [rd_T34 k (i : Int)] else []) ++ stayF (bs.drop (i + 1)) (k.drop (i + 1)) := by
  rw [drop_rd k i h1, List.drop_eq_getElem_cons (show i < bs.length by omega)]
  simp only [stayF]
  rw [List.getD_eq_getElem?_getD, List.getElem?_eq_getElem (show i < bs.length by omega)]
  simp only [Option.getD_some]
  split <;> simp
theorem drop_rdI (xs : List Int) (i : Nat) (h : i < xs.length) : xs.drop i = rd xs (i : Int) :: xs.drop (i + 1) := by
  rw [List.drop_eq_getElem_cons h]
  unfold rd
  rw [Int.toNat_natCast, List.getD_eq_getElem?_getD, List.getElem?_eq_getElem h]
  rfl
theorem mark0_eq (m : Nat) : (Array.replicate m (Value.bool false)).setIfInBounds 0 (.bool true) = (((List.replicate m false).set 0 true).map (fun b : Bool => Value.bool b)).toArray := by
  apply Array.ext'
  simp [List.map_set]
theorem grown_keep {X w5 : World} {nb : Nat} {v : Value} {cur : List S34} {tmp : Obj} (hE : ERow X nb v cur) (hX : nb ≤ X.heap.size) (hg : (X.alloc tmp).grownBy w5 v.ownBlock) : Below nb X w5 ∧ ∀ {b : Nat} {bs : List Bool}, NRow X b bs → NRow w5 b bs := by
  refine ⟨((Below.refl _ X).alloc hX tmp).grown hg (by rw [World.size_alloc]; omega) (fun k hk => (hE.base_le hk).1), fun {b bs} hn => ?_⟩
  have hlt := (Array.getElem?_eq_some_iff.1 hn).1
  refine ((hg.block b (by rw [World.size_alloc]; omega) (fun e => ?_)).trans (Below.heap_alloc X tmp b hlt)).trans hn
  obtain ⟨cs, hcs⟩ := (hE.base_le e.symm).2.2
  have := hcs.symm.trans hn
  simp at this
theorem marks0 (keep : List Int) (k : List S34) (hk : 0 < k.length) : (marksF keep k).getD 0 false = true := by
  have key : ∀ (ks : List Int) (bs : List Bool), bs.getD 0 false = true → (ks.foldl (markF k) bs).getD 0 false = true := by
    intro ks
    induction ks with
    | nil => intro bs h; exact h
    | cons s ks ih =>
      intro bs h
      rw [List.foldl_cons]
      refine ih _ ?_
      unfold markF
      split
      · rw [List.getD_eq_getElem?_getD, List.getElem?_set]
        split
        · split
          · rfl
          · rename_i h1 h2
            rw [List.getD_eq_getElem?_getD, List.getElem?_eq_none (by omega)] at h
            cases h
        · rw [← List.getD_eq_getElem?_getD]; exact h
      · exact h
  refine key keep _ ?_
  rw [List.getD_eq_getElem?_getD, List.getElem?_set, if_pos rfl, if_pos (by rw [List.length_replicate]; exact hk)]
  rfl
theorem stay_pos (bs : List Bool) (k : List S34) (hk : 0 < k.length) (hl : bs.length = k.length) (h0 : bs.getD 0 false = true) : 0 < (stayF bs k).length := by
  cases bs with
  | nil => simp at hl; omega
  | cons b bs =>
    cases k with
    | nil => simp at hk
    | cons e k =>
      have hb : b = true := h0
      simp only [stayF]
      rw [if_pos hb]
      simp
theorem row_cells {W : World} {nb g c : Nat} {cur : List S34} (h : ERow W nb (.slice (some ⟨g, 0, none⟩) cur.length c) cur) : ∀ j u, (cur.flatMap eC)[j]? = some u → W.cell? ((⟨g, 0, none⟩ : Addr).add j) = some u := by
  exact World.ownsRow.cells h (g := g) rfl
theorem all_eC (cur : List S34) : ∀ u ∈ cur.flatMap eC, u.oneCell' = true := by
  intro u hu
  obtain ⟨x, _, hx⟩ := List.mem_flatMap.1 hu
  exact one_eC x u hx
theorem appendedM {W w1 : World} {n0 n1 B : Nat} {v v' : Value} {xs ys : List S34} (hv : Boxed W B 24 v) (hrow : ERow W n1 v xs) (h01 : n0 ≤ n1) (hn1 : n1 ≤ W.heap.size) (hB : n0 ≤ B) (hB1 : B < n1)
    (hown : w1.ownsRow n1 34 4 v' ys.length (ys.flatMap eC)) (hgrow : W.grownBy w1 v.ownBlock) :
    Boxed w1 B 24 v ∧ Boxed (w1.setCell ⟨B, 0, none⟩ v') B 24 v' ∧ ERow (w1.setCell ⟨B, 0, none⟩ v') n1 v' ys ∧ KeepsOthers W (w1.setCell ⟨B, 0, none⟩ v') ∧ Below n0 W (w1.setCell ⟨B, 0, none⟩ v') ∧ (∀ k, k < n1 → k ≠ B → (w1.setCell ⟨B, 0, none⟩ v').heap[k]? = W.heap[k]?) := by
  have hv1 : Boxed w1 B 24 v := hv.kept hgrow (hv.not_row (by decide) hrow)
  refine ⟨hv1, hv1.set v', hown.kept (grownBy_setCell' w1 B v') (.inr (hv1.not_row (by decide) hown).symm), ?_, ?_, fun k hk hkB => ?_⟩
  · refine (KeepsOthers.of_grownBy hgrow fun j o ej hj => ?_).trans (KeepsOthers.setCell _ _ _)
    obtain ⟨cs, hcs⟩ := (hrow.base_le ej).2.2
    rw [hcs] at hj; cases hj; rfl
  · refine ((Below.refl n0 W).grown hgrow (Nat.le_trans h01 hn1) fun j ej => ?_).setCell (p := ⟨B, 0, none⟩) hB v'
    have := (hrow.base_le ej).1
    omega
  · refine (Below.heap_setCell w1 ⟨B, 0, none⟩ v' k hkB).trans (hgrow.block k (by omega) (fun e => ?_))
    have := (hrow.base_le e.symm).1
    omega
theorem take_eC (q : List S34) (m : Nat) : (q.take m).flatMap eC = (q.flatMap eC).take (m * 4) := by
  induction q generalizing m with
  | nil => simp
  | cons x q ih =>
    cases m with
    | zero => simp
    | succ m =>
      rw [List.take_succ_cons, List.flatMap_cons, List.flatMap_cons, ih m, show (m + 1) * 4 = m * 4 + 4 by omega]
      show [_, _, _, _] ++ _ = List.take (m * 4 + 4) ([_, _, _, _] ++ _)
      rw [List.take_append]
      simp [eC]
theorem add_z (g m : Nat) : (⟨g, 0, none⟩ : Addr).add m = ⟨g, m, none⟩ := by unfold Addr.add; split <;> simp_all
theorem two_alloc (w : World) (o1 o2 : Obj) : ((w.alloc o1).alloc o2).heap[w.heap.size]? = some o1 ∧ ((w.alloc o1).alloc o2).heap[w.heap.size + 1]? = some o2 ∧ Below w.heap.size w ((w.alloc o1).alloc o2) := by
  have h1 := heap_alloc_new w o1
  have h2 := heap_alloc_new (w.alloc o1) o2
  rw [World.size_alloc] at h2
  exact ⟨(Below.heap_alloc _ _ _ (by rw [World.size_alloc]; omega)).trans h1, h2, ((Below.refl _ w).alloc (Nat.le_refl _) _).alloc (by simp) _⟩
def merge_Fold.f (l : List S34) (keep : List Int) (bottom : Bool) : Option (List S34 × Option Int) :=
  if l.length ≤ 1000000 ∧ keep.length ≤ 4611686018427387904 ∧ (block_Sorted.f kBig l).isSome = true then
    (if (block_Sorted.f kBig l).getD false = false then some ([], some 1) else some ((groupsF l.length l).foldl (foldStep keep bottom) [], none))
  else none
set_option maxHeartbeats 4000000 in
set_option maxRecDepth 100000 in
theorem merge_Fold.calls (A0 : Option Addr) (c0 : Nat) (l0 : List S34) (A1 : Option Addr) (c1 : Nat) (l1 : List Int) (a2 : Bool) (r1 : List S34) (r2 : Option Int) (w : World) (hr0 : Kd.C k34 w A0 l0.length l0) (hc0 : l0.length ≤ c0) (hr1 : Kd.C (Kd.int .i64) w A1 l1.length l1) (hc1 : l1.length ≤ c1) (h : merge_Fold.f l0 l1 a2 = some (r1, r2)) :
    Calls Try.prog 15 #[.slice A0 l0.length c0, .slice A1 l1.length c1, .bool a2] w (fun e w' => ∃ v_ : Value, e = .returned (.tuple #[v_, errW r2]) ∧ Kd.R k34 34 w' w.heap.size (fun _ => True) v_ r1 ∧ Below w.heap.size w w') := by
  unfold merge_Fold.f at h
  by_cases hb : l0.length ≤ 1000000 ∧ l1.length ≤ 4611686018427387904 ∧ (block_Sorted.f kBig l0).isSome = true
  · rw [if_pos hb] at h
    obtain ⟨hl0, hl1, hb2⟩ := hb
    obtain ⟨srt, hs⟩ := Option.isSome_iff_exists.1 hb2
    rw [hs] at h
    have hsort := fun W hB => block_Sorted.calls kBig A0 c0 l0 srt W (Kd.C_below hr0 hB) hc0 hs
    refine (callsIn_wide (n := 4)).1 ?_
    refine callsIn_of_wp_marks Try.func15 rfl trivial ?_ rfl
    simp only [Try.ntmps15, List.size_toArray, List.length_cons, List.length_nil, Nat.reduceAdd, Nat.reduceSub, Array.replicate_succ, Array.replicate_zero, List.push_toArray, List.append_toArray, List.nil_append, List.cons_append]
    have hB0 : Below w.heap.size w ((w.alloc (.cells #[.slice A1 l1.length c1] 36)).alloc (.cells #[.bool a2] 4)) := ((Below.refl _ w).alloc (Nat.le_refl _) _).alloc (by simp) _
    have hf1 := heap_alloc_new w (.cells #[.slice A1 l1.length c1] 36)
    have hf2 := heap_alloc_new (w.alloc (.cells #[.slice A1 l1.length c1] 36)) (.cells #[.bool a2] 4)
    have hf1' : ((w.alloc (.cells #[.slice A1 l1.length c1] 36)).alloc (.cells #[.bool a2] 4)).heap[w.heap.size]? = some (.cells #[.slice A1 l1.length c1] 36) := (Below.heap_alloc _ _ _ (by simp)).trans hf1
    rw [World.size_alloc] at hf2
    cases srt with
    | false =>
      rw [if_pos (show (some false).getD false = false from rfl)] at h
      obtain ⟨rfl, rfl⟩ := Prod.mk.inj (Option.some.inj h)
      gi_wp2_with (first | (refine ⟨trivial, ?_⟩; gi_at_call 19; refine (callsIn_wide.2 (hsort _ hB0)).mono ?_; rintro e w1 ⟨rfl, hb1⟩))
      refine ⟨_, results_tmp2 rfl _ _ _, .slice none 0 0, rfl, Kd.R_nil _ _ _ _ _, below_step hB0 hb1⟩
    | true =>
      rw [if_neg (show ¬ (some true).getD false = false by decide)] at h
      obtain ⟨hr1', rfl⟩ := Prod.mk.inj (Option.some.inj h)
      obtain ⟨i0, hi, iz0, iz1, iz2⟩ := info_parts info34
      gi_wp2_with (first | (refine ⟨trivial, ?_⟩; gi_at_call 19; refine (callsIn_wide.2 (hsort _ hB0)).mono ?_; rintro e w1 ⟨rfl, hb1⟩) | (refine ⟨trivial, ?_⟩; gi_at_call 26; refine (callsIn_wide.2 (keys_calls A0 l0.length c0 _)).mono ?_; rintro e w2 ⟨rfl, hw2⟩))
      obtain ⟨q1, q2, q3⟩ := two_alloc w1 (.cells #[.slice none 0 0] 24) (.cells #[.slice A0 l0.length c0] 24)
      have hB1 := below_step hB0 hb1
      have k1 := blk_below hf1' hb1
      have k2 := blk_below hf2 hb1
      have k1' := blk_below k1 q3
      have k2' := blk_below k2 q3
      have hB2 := below_step hB1 q3
      have hsz : ((w1.alloc (.cells #[.slice none 0 0] 24)).alloc (.cells #[.slice A0 l0.length c0] 24)).heap.size = w1.heap.size + 2 := by rw [World.size_alloc, World.size_alloc]
      have hk1 := (Array.getElem?_eq_some_iff.1 k1).1
      have hk2 := (Array.getElem?_eq_some_iff.1 k2).1
      obtain ⟨W2, hW2⟩ : ∃ W2, (w1.alloc (.cells #[.slice none 0 0] 24)).alloc (.cells #[.slice A0 l0.length c0] 24) = W2 := ⟨_, rfl⟩
      rw [hW2] at q1 q2 q3 k1' k2' hB2 hsz
      rw [hW2]
      have hwob := hB1.size
      obtain ⟨ob, hob⟩ : ∃ ob, w1.heap.size = ob := ⟨_, rfl⟩
      rw [hob] at q1 q2 hsz hk1 hk2 hwob
      rw [hob]
      obtain ⟨bl, hbl⟩ : ∃ bl, ob + 1 = bl := ⟨_, rfl⟩
      obtain ⟨bb, hbb⟩ : ∃ bb, w.heap.size + 1 = bb := ⟨_, rfl⟩
      obtain ⟨kb, hkb⟩ : ∃ kb, w.heap.size = kb := ⟨_, rfl⟩
      rw [hbl] at q2
      rw [hbb] at k2' hk2
      rw [hkb] at k1' hk1
      rw [hbl, hbb]
      rw [show Value.pointer (some { block := w.heap.size, off := 0 }) = Value.pointer (some { block := kb, off := 0 }) by rw [hkb]]
      obtain ⟨n1, hn1⟩ : ∃ n1, W2.heap.size = n1 := ⟨_, rfl⟩
      rw [hn1] at hsz
      have hG := groups_flat l0.length l0 (Nat.le_refl _)
      have pn1 : n1 ≤ ob + 2 ∧ ob + 2 ≤ n1 := ⟨by omega, by omega⟩
      have pbl : bl ≤ ob + 1 ∧ ob + 1 ≤ bl := ⟨by omega, by omega⟩
      have pbb : bb ≤ w.heap.size + 1 ∧ w.heap.size + 1 ≤ bb := ⟨by omega, by omega⟩
      have pkb : kb ≤ w.heap.size ∧ w.heap.size ≤ kb := ⟨by omega, by omega⟩
      clear hsz hbl hbb hkb hob
      refine wpIn_range_turned (α := KG w) (gf := 36) (lb := #[.pointer (some ⟨bl, 0, none⟩)]) (fun k => k = bl) (fun x => x.enc) (fun xs => xs.map (·.l) = groupsF l0.length l0) (fun pre x => pre.map (·.l) ++ [x.l] <+: groupsF l0.length l0) (fun X Y => KpB bl X Y ∧ Below w.heap.size X Y) rfl
        (fun args W => enters_of Try.func36 (by kernel_rfl) rfl args W) (fun k hk => by rw [hn1, hk]; omega) (fun _ => rfl) (fun {A B C} h1 h2 => ⟨Eq.trans h2.1 h1.1, h1.2.trans h2.2⟩)
        (fun W l o' hl => ⟨World.putObj_heap_other (by omega), belowP W l o' (by omega)⟩)
        (fun pre W => (∃ v, Boxed W ob 24 v ∧ ERow W n1 v ((pre.map (·.l)).foldl (foldStep l1 a2) [])) ∧ Below w.heap.size w W ∧ n1 ≤ W.heap.size ∧ W.heap[kb]? = some (.cells #[.slice A1 l1.length c1] 36 (0, 0)) ∧ W.heap[bb]? = some (.cells #[.bool a2] 4 (0, 0)))
        (fun s X Y ht hs => ⟨hs.1.imp (fun v hv => ⟨Boxed.turned hv.1 ht (by omega), ERow.turned hv.2 ht (fun k hk => by omega)⟩), turnB hs.2.1 ht (Nat.le_refl _) (fun k hk => by omega), Nat.le_trans hs.2.2.1 ht.size, ht.same hs.2.2.2.1 (by omega), ht.same hs.2.2.2.2 (by omega)⟩)
        (fun s X l o o' hl ho hc hs => ⟨hs.1.imp (fun v hv => ⟨boxedP hv.1 o' (by omega), ERow.put hv.2 ho hc o'⟩), hs.2.1.trans (belowP X l o' (by omega)), Nat.le_trans hs.2.2.1 (grownBy_putObj' X l o').size, (World.putObj_heap_other (by omega)).trans hs.2.2.2.1, (World.putObj_heap_other (by omega)).trans hs.2.2.2.2⟩)
        ⟨⟨_, q1, ERow.nil _ _⟩, hB2, by omega, k1', k2'⟩
        (fun pre x a' W => a' = { tmps := #[.slice A0 l0.length c0, .slice A1 l1.length c1, .bool a2, undef, .pointer (some ⟨kb, 0, none⟩), .pointer (some ⟨bb, 0, none⟩), .slice none 0 0, .nilIface, .pointer (some ⟨ob, 0, none⟩), .slice x.A x.l.length x.c, undef, undef, undef, undef, undef, undef, undef, .slice A0 l0.length c0, .bool true, .bool false, undef, .slice A0 l0.length c0, .func (.func 36) #[] #[.pointer (some ⟨bl, 0, none⟩)], .slice x.A x.l.length x.c, undef, undef, undef, undef, undef, undef, undef, undef, undef, undef, undef, undef, undef, undef, undef, undef, undef, undef, undef, undef, undef, undef, undef, undef, undef, undef, undef, undef, undef, undef, undef, undef, undef, undef, undef, undef, undef, undef, undef, undef, undef, undef, undef, undef, undef, undef, undef, undef, undef, undef, undef, undef, undef, undef, undef, undef, undef, undef, undef, undef], defers := [] })
        (fun s x c W l o o' hl ho hc hs => hs) ?hseq ?hassign ?hbody ?hdone
      case hseq =>
        intro l J W1 hBW hJ hY h0
        refine (keys1_in (4 - 1) (by decide) l bl w A0 c0 l0 (by omega) hr0 hc0 (fun s X => J s X ∧ Below w.heap.size w X) W1 (fun s X Y ht hs => ⟨hJ s X Y ht hs.1, turnB hs.2 ht (Nat.le_refl _) (fun k hk => by omega)⟩) (fun s X hs => hs.2) (by omega) ?_ (blk_below q2 hBW) ⟨h0, below_step hB2 hBW⟩).mono (fun e W' hh => ⟨hh.1, hh.2.imp (fun ys hy => ⟨hy.1, hy.2.1⟩)⟩)
        intro pre x X hJx hpre
        obtain ⟨fn, tmps, assign, body, hy, hR⟩ := hY pre x X hJx.1 hpre
        exact ⟨fn, tmps, assign, body, hy, hR.mono (fun e X' hh => ⟨hh.1, ⟨hh.2.1, hJx.2.trans hh.2.2.2⟩, hh.2.2.1⟩)⟩
      case hassign =>
        intro l pre x W K hi hv hK
        unfold KG.enc at hK ⊢
        gi_wp2
        exact hK _ _ (KeepsFrom.refl _ _) ⟨rfl, Below.refl _ _⟩ hi rfl
      case hdone =>
        rintro D xs W hD hxs ⟨⟨v, hvb, hvr⟩, hBW, hnW, _, _⟩ hK
        have hoc := hvb.cell
        rw [hxs, hr1'] at hvr
        gi_wp2
        refine ⟨by simp, .inl ⟨_, _, rfl, run_takeDeferred hK, ?_⟩⟩
        exact ⟨_, results_tmp2 rfl _ _ _, v, rfl, Kd.R_lower (ERow.R (ERow.put hvr hK rfl _)) (by omega), hBW.trans (belowP W D _ (by omega))⟩
      case hbody =>
        rintro l pre ⟨Ax, cx, k, hkr, hkc⟩ a' W ⟨⟨v, hvb, hvr⟩, hBW, hnW, hkb', hbb'⟩ rfl hv
        dsimp only
        obtain ⟨hflat, hkpos⟩ := pre_flat hv
        dsimp only at hflat hkpos
        have hacc := foldStep_fold l1 a2 (pre.map (·.l)) []
        have hst : ((pre ++ [(⟨Ax, cx, k, hkr, hkc⟩ : KG w)]).map (·.l)).foldl (foldStep l1 a2) [] = foldStep l1 a2 ((pre.map (·.l)).foldl (foldStep l1 a2) []) k := by rw [List.map_append, List.foldl_append]; rfl
        rw [hst]
        generalize (pre.map (·.l)).foldl (foldStep l1 a2) [] = acc at hvr hacc ⊢
        have hlen : acc.length + k.length ≤ 1000000 := by simp only [List.length_nil] at hacc; omega
        clear hacc hst
        generalize hres : foldStep l1 a2 acc k = res
        unfold foldStep at hres
        have hmk : ∀ W : World, (Instr.makeSlice 42 (.int .i64 (k.length : Int)) (.int .i64 (k.length : Int))).run Try.prog W = .ok (.slice (some ⟨W.heap.size, 0, none⟩) k.length k.length) (W.alloc (.cells ((List.replicate k.length false).map (fun b : Bool => Value.bool b)).toArray 4)) := fun W => by
          have hin : (Go.Proofs.Try.prog.info? 4).map (fun i => (i.zero, i.size, i.bytes)) = some (some (.bool false), 1, 1) := by kernel_rfl
          obtain ⟨i1, hi1, hzz⟩ := Option.map_eq_some_iff.1 hin
          simp only [Prod.mk.injEq] at hzz
          obtain ⟨jz0, jz1, jz2⟩ := hzz
          have hr := run_make (P := Try.prog) W 42 4 i1 (.bool false) Try.underlying42 hi1 jz0 .i64 .i64 (k.length : Int) (k.length : Int) (by omega) (by omega) (by rw [jz2]; omega) (by omega)
          rw [jz1, Nat.mul_one, Int.toNat_natCast, made_repB] at hr
          exact hr
        have hN0 : NRow (W.alloc (.cells ((List.replicate k.length false).map (fun b : Bool => Value.bool b)).toArray 4)) W.heap.size (List.replicate k.length false) := heap_alloc_new W _
        have hBN : Below W.heap.size W (W.alloc (.cells ((List.replicate k.length false).map (fun b : Bool => Value.bool b)).toArray 4)) := (Below.refl _ W).alloc (Nat.le_refl _) _
        have hkp0 : (0 < k.length) = True := eq_true hkpos
        clear hN0 hBN
        gi_upto_region 8 with (fail)
        obtain ⟨nb, hnb⟩ : ∃ nb, W.heap.size = nb := ⟨_, rfl⟩
        refine wpIn_world (fun X => NRow X nb ((List.replicate k.length false).set 0 true) ∧ Below nb W X) ⟨by rw [← hnb, mark0_eq]; exact heap_alloc_new W _, by rw [← hnb]; exact (Below.refl _ W).alloc (Nat.le_refl _) _⟩ ?_
        rintro X ⟨hN0, hBX⟩
        rw [hnb]
        have hbase : n1 ≤ nb := by omega
        have hokb := hBX.block kb (by omega)
        have hgk := hokb.trans hkb'
        obtain ⟨hkc1, _⟩ := Zk1 (Aside0.mk hgk)
        have hm0 : ((List.replicate k.length false).set 0 true).length = k.length := by rw [List.length_set, List.length_replicate]
        have hMF : marksF l1 k = l1.foldl (markF k) ((List.replicate k.length false).set 0 true) := rfl
        generalize hini : ((List.replicate k.length false).set 0 true) = ini at hN0 hm0 hMF
        gi_wp2
        gi_loopg [31] l1.length (fun gg v31 Wi => ∃ (i : Nat) (bs : List Bool), i ≤ l1.length ∧ l1.length - i ≤ gg ∧ v31 = .int .i64 i ∧ bs.length = k.length ∧ (l1.drop i).foldl (markF k) bs = marksF l1 k ∧ NRow Wi nb bs ∧ Below nb W Wi)
        case atStart => exact ⟨0, ini, Nat.zero_le _, by omega, rfl, hm0, hMF.symm, hN0, hBX⟩
        case round =>
          obtain ⟨i, bs, hil, hig, rfl, hbl2, hbsM, hNR, hBi⟩ := hrel
          by_cases hlt : i < l1.length
          · have hltz : (i : Int) < (l1.length : Int) := by omega
            have hBi' : Below W.heap.size W wr := by rw [hnb]; exact hBi
            have hBwr := below_step hBW hBi'
            obtain ⟨ad, hA, hx0⟩ := Kd.at_int (Kd.C_below hr1 hBwr) (i : Int) (by omega) hltz
            subst hA
            rw [Int.toNat_natCast] at hx0
            rw [drop_rdI l1 i hlt, List.foldl_cons] at hbsM
            obtain ⟨s, hs⟩ : ∃ s, rd l1 (i : Int) = s := ⟨_, rfl⟩
            rw [hs] at hx0 hbsM
            have hBa : Below wr.heap.size wr (wr.alloc (.cells #[.int .i64 s] 3)) := (Below.refl _ wr).alloc (Nat.le_refl _) _
            have hix := indexEnt_calls Ax cx k (seqLe s) 28 #[.pointer (some ⟨wr.heap.size, 0, none⟩)] (enters_of Try.func28 (by kernel_rfl) rfl) (wr.alloc (.cells #[.int .i64 s] 3)) (Kd.C_below (Kd.C_below hkr hBwr) hBa) (by omega)
              (fun X x hX => (seqLe_calls wr.heap.size s x X (blk_below (heap_alloc_new wr _) hX)).mono (fun e w' h => ⟨h.1, below_step hX h.2⟩))
            have hrg := idxF_range (seqLe s) k 0
            have hmk2 : markF k bs s = if 0 ≤ idxF (seqLe s) k 0 then bs.set (idxF (seqLe s) k 0).toNat true else bs := rfl
            generalize idxF (seqLe s) k 0 = iz at hix hrg hmk2
            have hnbw : nb ≤ wr.heap.size := by have := (Array.getElem?_eq_some_iff.1 hNR).1; omega
            rcases hrg with rfl | ⟨hz0, hz1⟩
            · rw [if_neg (by decide)] at hmk2
              rw [hmk2] at hbsM
              gi_wp2_with (first | (refine ⟨trivial, ?_⟩; gi_at_call 27; refine (CallsIn.inRound l (callsIn_wide.2 hix)).mono ?_; rintro e w6 ⟨rfl, hb6⟩; have hB6 := hBa.trans (hb6.mono hBa.size); have hNR6 := hNR.below hB6))
              gi_roundg (l1.length - (i + 1))
              case measure => omega
              case rel => exact ⟨i + 1, bs, hlt, Nat.le_refl _, by go_num, hbl2, hbsM, hNR6, hBi.trans (hB6.mono hnbw)⟩
            · obtain ⟨j, rfl⟩ : ∃ j : Nat, iz = (j : Int) := ⟨iz.toNat, by omega⟩
              rw [if_pos (show 0 ≤ (j : Int) by omega), Int.toNat_natCast] at hmk2
              rw [hmk2] at hbsM
              have hjk : j < k.length := by omega
              have hd1 : decide (0 ≤ (j : Int)) = true := decide_eq_true (by omega)
              gi_wp2_with (first | (refine ⟨trivial, ?_⟩; gi_at_call 27; refine (CallsIn.inRound l (callsIn_wide.2 hix)).mono ?_; rintro e w6 ⟨rfl, hb6⟩; have hB6 := hBa.trans (hb6.mono hBa.size); have hNR6 := hNR.below hB6; obtain ⟨nc6, nf6⟩ := hNR6.cell j (by omega)))
              gi_roundg (l1.length - (i + 1))
              case measure => omega
              case rel => exact ⟨i + 1, bs.set j true, hlt, Nat.le_refl _, by go_num, by rw [List.length_set]; exact hbl2, hbsM, hNR6.set j true, (hBi.trans (hB6.mono hnbw)).setCell (p := ⟨nb, j, none⟩) (Nat.le_refl _) _⟩
          · have hltz : ¬ (i : Int) < (l1.length : Int) := by omega
            have hil2 : i = l1.length := by omega
            subst hil2
            rw [List.drop_length] at hbsM
            have hbsM : bs = marksF l1 k := hbsM
            subst hbsM
            have hSF : stayF (marksF l1 k) k = stayF ((marksF l1 k).drop 0) (k.drop 0) := rfl
            generalize hfin : stayF (marksF l1 k) k = fin at hSF hres
            have hb0 : (marksF l1 k).getD 0 false = true := marks0 l1 k hkpos
            generalize marksF l1 k = bs at hb0 hNR hbl2 hSF hfin
            have hfl : fin.length ≤ k.length := by rw [← hfin]; exact stay_len _ _
            have hfpos : 0 < fin.length := by rw [← hfin]; exact stay_pos bs k hkpos hbl2 hb0
            clear hfin hb0
            gi_wp2
            gi_loopg [14, 46] k.length (fun gg v14 v46 Wi => ∃ (i : Nat) (cur : List S34), i ≤ k.length ∧ k.length - i ≤ gg ∧ v46 = .int .i64 i ∧ cur.length ≤ i ∧ ERow Wi nb v14 cur ∧ cur ++ stayF (bs.drop i) (k.drop i) = fin ∧ NRow Wi nb bs ∧ Below nb W Wi)
            case atStart => exact ⟨0, [], Nat.zero_le _, by omega, rfl, Nat.le_refl _, ERow.nil _ _, hSF.symm, hNR, hBi⟩
            case round =>
              clear hNR hBi hSF
              obtain ⟨i, cur, hil, hig, rfl, hcl, hER, hcur, hNR, hBi⟩ := hrel
              by_cases hlt : i < k.length
              · have hltz : (i : Int) < (k.length : Int) := by omega
                have hBi' : Below W.heap.size W wr := by rw [hnb]; exact hBi
                have hBwr := below_step hBW hBi'
                obtain ⟨ad, hA, hx0, hx1, hx2, hx3⟩ := at_T34 (Kd.C_below hkr hBwr) (i : Int) (by omega) hltz
                subst hA
                rw [Int.toNat_natCast] at hx0 hx1 hx2 hx3
                rw [stay_drop bs k i hlt hbl2] at hcur
                generalize rd_T34 k (i : Int) = x at hx0 hx1 hx2 hx3 hcur
                gi_upto_region 19 with (fail)
                obtain ⟨g, hg⟩ : ∃ g, wr.heap.size = g := ⟨_, rfl⟩
                refine wpIn_world (fun X => X.heap[wr.heap.size]? = some (.cells #[.string x.f0, .int .i64 x.f1, .bool x.f2, .string x.f3] 34 (0, 0)) ∧ Below wr.heap.size wr X) ⟨heap_alloc_new wr _, (Below.refl _ wr).alloc (Nat.le_refl _) _⟩ ?_
                rintro X ⟨he, hBX2⟩
                have hNX := hNR.below hBX2
                have hEX := ERow.below hER hBX2
                have hnbw : nb ≤ wr.heap.size := by have := (Array.getElem?_eq_some_iff.1 hNR).1; omega
                have hBX3 := hBi.trans (hBX2.mono hnbw)
                have hXs : nb ≤ X.heap.size := by have := hBX2.size; omega
                rw [hg] at he
                rw [hg]
                obtain ⟨⟨ec0, ec1, ec2, ec3⟩, _⟩ := Zk4 (Aside0.mk he)
                obtain ⟨nc, nf⟩ := hNX.cell i (by omega)
                obtain ⟨b, hb'⟩ : ∃ b, bs.getD i false = b := ⟨_, rfl⟩
                rw [hb'] at nc hcur
                obtain ⟨Av, cv, rfl, hcv, hCC⟩ := ERow.at hEX
                cases b with
                | true =>
                  rw [if_pos rfl, ← List.append_assoc] at hcur
                  gi_wp2_with (gi_at_builtin; refine wpListIn_append_own _ rfl _ _ 24 rfl nb 34 i0 _ 4 48 Try.underlying24 hi iz0 iz1 iz2 rfl (by decide) _ _ _ rfl (hEX.alloc _) ⟨X.heap.size, 0, none⟩ 1 1 (eC x) rfl rfl (cells_newE _ _ _) (one_eC x) (by unfold maxLen; omega) (by omega) (by rw [World.size_alloc]; omega) ?_; intro v' w5 hown' hgrow _; have hown2 : ERow w5 nb v' (cur ++ [x]) := (by simpa [ERow] using hown'); have hk5 := grown_keep hEX hXs hgrow; have hN5 := hk5.2 hNX)
                  gi_roundg (k.length - (i + 1))
                  case measure => omega
                  case rel => exact ⟨i + 1, cur ++ [x], hlt, Nat.le_refl _, by go_num, by rw [List.length_append]; simp; omega, hown2, hcur, hN5, hBX3.trans hk5.1⟩
                | false =>
                  rw [if_neg (by decide)] at hcur
                  gi_wp2
                  gi_roundg (k.length - (i + 1))
                  case measure => omega
                  case rel => exact ⟨i + 1, cur, hlt, Nat.le_refl _, by go_num, by omega, hEX, hcur, hNX, hBX3⟩
              · have hltz : ¬ (i : Int) < (k.length : Int) := by omega
                have hil2 : i = k.length := by omega
                subst hil2
                have hcn : stayF (bs.drop k.length) ([] : List S34) = [] := by cases bs.drop k.length <;> rfl
                rw [List.drop_length, hcn, List.append_nil] at hcur
                subst hcur
                have hBi' : Below W.heap.size W wr := by rw [hnb]; exact hBi
                have hBw5 := below_step hBW hBi'
                have hvb5 := Boxed.below hvb hBi'
                have hvr5 := ERow.below hvr hBi'
                obtain ⟨hbc, _⟩ := Zk1 (Aside0.mk (blk_below hbb' hBi'))
                have hoc5 := hvb5.cell
                have hof5 := hvb5.frozen
                have hszw := hBi.size
                obtain ⟨g5, c5', rfl⟩ := ownsRow_succ (k := cur.length - 1) (by rw [Nat.sub_add_cancel hfpos]; exact hER)
                rw [Nat.sub_add_cancel hfpos]
                rw [Nat.sub_add_cancel hfpos] at hER
                clear hNR hfpos
                obtain ⟨W5, hW5⟩ : ∃ W5, wr = W5 := ⟨_, rfl⟩
                rw [hW5] at hER hBi hBi' hBw5 hvb5 hvr5 hbc hoc5 hof5 hszw
                rw [hW5]
                gi_wp2
                gi_loopg [14] cur.length (fun gg v14 Wi => ∃ (q : List S34) (c : Nat), Wi = W5 ∧ v14 = .slice (some ⟨g5, 0, none⟩) q.length c ∧ ERow W5 nb (.slice (some ⟨g5, 0, none⟩) q.length c) q ∧ q.length ≤ gg ∧ q.length ≤ cur.length ∧ acc ++ (if a2 = true then tailF q.length q else q) = res)
                case atStart => exact ⟨cur, c5', rfl, rfl, hER, Nat.le_refl _, Nat.le_refl _, hres⟩
                case round =>
                  clear hER hres
                  obtain ⟨q, c, rfl, rfl, hEq, hqg, hqc, hcr⟩ := hrel
                  cases a2 with
                  | false =>
                    rw [if_neg (by decide)] at hcr
                    gi_wp2_with (gi_at_builtin; refine wpListIn_append_own _ rfl _ _ 24 rfl n1 34 i0 _ 4 48 Try.underlying24 hi iz0 iz1 iz2 rfl (by decide) _ _ _ rfl hvr5 ⟨g5, 0, none⟩ q.length c (q.flatMap eC) rfl hEq.1 (row_cells hEq) (all_eC q) (by unfold maxLen; omega) (by omega) (by omega) ?_; intro v' w6 hown' hgrow _; have hown2 : ERow w6 n1 v' (acc ++ q) := (by simpa [ERow] using hown'); obtain ⟨A6, c6, rfl, _, _⟩ := ERow.at hown2; obtain ⟨hv1, hv2, hr5, hk5, hb5, hkp5⟩ := appendedM hvb5 hvr5 (n0 := w.heap.size) (by omega) (by omega) (by omega) (by omega) hown2 hgrow; have hc1 := hv1.cell; have hf1 := hv1.frozen)
                    rw [hcr] at hv2 hr5 hk5 hb5 hkp5
                    have hlt5 : W.heap.size ≤ wr.heap.size := hszw
                    exact ⟨(KeepsFrom.mk hBi'.size (fun k o _ hk _ => (hBi'.block k (Array.getElem?_eq_some_iff.1 hk).1).trans hk)).trans (hk5.from _), ⟨(hkp5 bl (by omega) (by omega)).trans (hBi'.block bl (by omega)), (hBi'.mono (by omega)).trans hb5⟩, ⟨_, hv2, hr5⟩, hBw5.trans hb5, (by have := hk5.size; rw [World.size_setCell] at this; omega), (hkp5 kb (by omega) (by omega)).trans ((hBi'.block kb (by omega)).trans hkb'), (hkp5 bb (by omega) (by omega)).trans ((hBi'.block bb (by omega)).trans hbb')⟩
                  | true =>
                    rw [if_pos rfl] at hcr
                    by_cases hz : q.length = 0
                    · have hq0 : (0 < q.length) = False := eq_false (by omega)
                      have htl : tailF q.length q = q := by rw [hz]; rfl
                      rw [htl] at hcr
                      clear hz
                      gi_wp2_with (gi_at_builtin; refine wpListIn_append_own _ rfl _ _ 24 rfl n1 34 i0 _ 4 48 Try.underlying24 hi iz0 iz1 iz2 rfl (by decide) _ _ _ rfl hvr5 ⟨g5, 0, none⟩ q.length c (q.flatMap eC) rfl hEq.1 (row_cells hEq) (all_eC q) (by unfold maxLen; omega) (by omega) (by omega) ?_; intro v' w6 hown' hgrow _; have hown2 : ERow w6 n1 v' (acc ++ q) := (by simpa [ERow] using hown'); obtain ⟨A6, c6, rfl, _, _⟩ := ERow.at hown2; obtain ⟨hv1, hv2, hr5, hk5, hb5, hkp5⟩ := appendedM hvb5 hvr5 (n0 := w.heap.size) (by omega) (by omega) (by omega) (by omega) hown2 hgrow; have hc1 := hv1.cell; have hf1 := hv1.frozen)
                      rw [hcr] at hv2 hr5 hk5 hb5 hkp5
                      have hlt5 : W.heap.size ≤ wr.heap.size := hszw
                      exact ⟨(KeepsFrom.mk hBi'.size (fun k o _ hk _ => (hBi'.block k (Array.getElem?_eq_some_iff.1 hk).1).trans hk)).trans (hk5.from _), ⟨(hkp5 bl (by omega) (by omega)).trans (hBi'.block bl (by omega)), (hBi'.mono (by omega)).trans hb5⟩, ⟨_, hv2, hr5⟩, hBw5.trans hb5, (by have := hk5.size; rw [World.size_setCell] at this; omega), (hkp5 kb (by omega) (by omega)).trans ((hBi'.block kb (by omega)).trans hkb'), (hkp5 bb (by omega) (by omega)).trans ((hBi'.block bb (by omega)).trans hbb')⟩
                    · have hq0 : (0 < q.length) = True := eq_true (by omega)
                      obtain ⟨Aq, cq, hq1, hq2, hCq⟩ := ERow.at hEq
                      obtain ⟨hq3, _, hq4⟩ := Value.slice.inj hq1
                      obtain ⟨ad, hA, _, _, hy2, _⟩ := at_T34 hCq ((q.length : Int) - 1) (by omega) (by omega)
                      rw [← hq3] at hA
                      obtain rfl := Option.some.inj hA
                      have hix : ((q.length : Int) - 1).toNat = q.length - 1 := by omega
                      have hle : rd_T34 q ((q.length : Int) - 1) = lastE q := rfl
                      rw [hle, hix, show (⟨g5, 0, none⟩ : Addr).add ((q.length - 1) * 4) = ⟨g5, (q.length - 1) * 4, none⟩ from add_z g5 _] at hy2
                      dsimp only at hy2
                      have hqc2 : q.length ≤ c := by omega
                      clear hq1 hq3 hq4 hCq hle
                      have hstep : tailF q.length q = if (lastE q).f2 = true then tailF (q.length - 1) (q.take (q.length - 1)) else q := by
                        obtain ⟨m, hm⟩ : ∃ m, q.length = m + 1 := ⟨q.length - 1, by omega⟩
                        rw [hm, Nat.add_sub_cancel]
                        simp only [tailF]
                        rw [hm, Nat.add_sub_cancel]
                        by_cases c : (lastE q).f2 = true
                        · rw [if_pos ⟨by omega, c⟩, if_pos c]
                        · rw [if_neg (fun e => c e.2), if_neg c]
                      rw [hstep] at hcr
                      clear hstep
                      generalize (lastE q).f2 = b at hy2 hcr
                      cases b with
                      | false =>
                        rw [if_neg (by decide)] at hcr
                        gi_wp2_with (gi_at_builtin; refine wpListIn_append_own _ rfl _ _ 24 rfl n1 34 i0 _ 4 48 Try.underlying24 hi iz0 iz1 iz2 rfl (by decide) _ _ _ rfl hvr5 ⟨g5, 0, none⟩ q.length c (q.flatMap eC) rfl hEq.1 (row_cells hEq) (all_eC q) (by unfold maxLen; omega) (by omega) (by omega) ?_; intro v' w6 hown' hgrow _; have hown2 : ERow w6 n1 v' (acc ++ q) := (by simpa [ERow] using hown'); obtain ⟨A6, c6, rfl, _, _⟩ := ERow.at hown2; obtain ⟨hv1, hv2, hr5, hk5, hb5, hkp5⟩ := appendedM hvb5 hvr5 (n0 := w.heap.size) (by omega) (by omega) (by omega) (by omega) hown2 hgrow; have hc1 := hv1.cell; have hf1 := hv1.frozen)
                        rw [hcr] at hv2 hr5 hk5 hb5 hkp5
                        have hlt5 : W.heap.size ≤ wr.heap.size := hszw
                        exact ⟨(KeepsFrom.mk hBi'.size (fun k o _ hk _ => (hBi'.block k (Array.getElem?_eq_some_iff.1 hk).1).trans hk)).trans (hk5.from _), ⟨(hkp5 bl (by omega) (by omega)).trans (hBi'.block bl (by omega)), (hBi'.mono (by omega)).trans hb5⟩, ⟨_, hv2, hr5⟩, hBw5.trans hb5, (by have := hk5.size; rw [World.size_setCell] at this; omega), (hkp5 kb (by omega) (by omega)).trans ((hBi'.block kb (by omega)).trans hkb'), (hkp5 bb (by omega) (by omega)).trans ((hBi'.block bb (by omega)).trans hbb')⟩
                      | true =>
                        rw [if_pos rfl] at hcr
                        have hct : ∀ W : World, (Instr.slice 24 (.slice (some ⟨g5, 0, none⟩) q.length c) none (some (.int .i64 ((q.length : Int) - 1))) none).run Try.prog W = .ok (.slice (some ⟨g5, 0, none⟩) (q.length - 1) c) W := fun W => by
                          have h := cut_to (P := Try.prog) 24 34 .i64 Try.underlying24 hi (some ⟨g5, 0, none⟩) q.length c ((q.length : Int) - 1) (by omega) (by omega) hqc2 W
                          rwa [hix] at h
                        have hqt : (q.take (q.length - 1)).length = q.length - 1 := by rw [List.length_take]; omega
                        have hEt : ERow wr nb (.slice (some ⟨g5, 0, none⟩) (q.take (q.length - 1)).length c) (q.take (q.length - 1)) := by
                          have h := own_take hEq (m := q.length - 1) (by omega)
                          unfold ERow
                          rw [take_eC, hqt]
                          exact h
                        have hqz : ¬ q.length = 0 := hz
                        clear hz
                        gi_wp2
                        gi_roundg (q.length - 1)
                        case measure => omega
                        case rel => exact ⟨q.take (q.length - 1), c, rfl, by rw [hqt], hEt, by rw [hqt]; exact Nat.le_refl _, by rw [hqt]; omega, by rw [if_pos (by first | rfl | trivial), hqt]; exact hcr⟩
  · rw [if_neg hb] at h
    cases h
end Go.Proofs.Yteljlfodjbgejaa.Print
