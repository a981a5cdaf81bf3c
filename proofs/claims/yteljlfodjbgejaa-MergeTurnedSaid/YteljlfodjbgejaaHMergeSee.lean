/- Contracts proved by hand: see the theorems' own lines. -/
import Derived.BigQuiet
import Derived.Laws.Cover1
import Derived.LoopIn
import Derived.LoopNIn
import Derived.OwnWalkIn
import Derived.RangeFuncBound
import Derived.RangeFuncBox
import Derived.RangeFuncCalls
import Derived.RangeFuncLeaves
import Derived.RangeFuncNested
import Derived.RangeFuncRecord
import Derived.Shelf.Abstract
import Derived.Shelf.RegionOpen
import Derived.Sort.CutIn
import Derived.Sort.LoopGhostIn
import Derived.TacticsInMore
import Derived.Test.YteljlfodjbgejaaHMergeFold
import Derived.Test.YteljlfodjbgejaaPrint0
import Derived.Test.YteljlfodjbgejaaPrint4
import Derived.Test.YteljlfodjbgejaaPrint5
import Derived.Test.YteljlfodjbgejaaXRounds
import Derived.WalkKit
namespace Go.Proofs.Yteljlfodjbgejaa.Print
open Go.Sort Go.RowKit Go.Shelf Go.Proofs.YteljlfodjbgejaaW.PrintWords Go.Proofs.YteljlfodjbgejaaW.PrintLast Go.Proofs.YteljlfodjbgejaaX
set_option linter.unusedVariables false
set_option linter.unusedSimpArgs false
attribute [local go_sem] Oper.semAt_some

theorem bytes_tot : ∀ x y : List UInt8, (Op.bytesLess x y || x == y) = !(Op.bytesLess y x)
  | [], [] => rfl
  | [], _ :: _ => rfl
  | _ :: _, [] => rfl
  | a :: x, b :: y => by
    have e1 : Op.bytesLess (a :: x) (b :: y) = (decide (a < b) || (a == b && Op.bytesLess x y)) := rfl
    have e2 : Op.bytesLess (b :: y) (a :: x) = (decide (b < a) || (b == a && Op.bytesLess y x)) := rfl
    have ih := bytes_tot x y
    rw [e1, e2]
    rcases Nat.lt_trichotomy a.toNat b.toNat with h | h | h
    · have h1 : a < b := h
      have h2 : ¬ b < a := fun k => Nat.lt_asymm h k
      have h3 : b ≠ a := fun k => Nat.lt_irrefl _ (k ▸ h)
      simp [h1, h2, h3]
    · have h1 : a = b := UInt8.toNat_inj.1 h
      subst h1
      have h2 : ¬ a < a := fun k => Nat.lt_irrefl _ k
      simp only [h2, decide_false, Bool.false_or, beq_self_eq_true, Bool.true_and]
      rw [← ih]
      simp
    · have h1 : b < a := h
      have h2 : ¬ a < b := fun k => Nat.lt_asymm h k
      have h3 : a ≠ b := fun k => Nat.lt_irrefl _ (k ▸ h)
      simp [h1, h2, h3]
/-- Texts compared by '<='. -/
theorem str_leq (t : TypeId) (a b : ByteArray) : binOp .leq t (.string a) (.string b) = pure (.bool (!(Op.bytesLess b.toList a.toList))) := by
  rw [binOp_string_leq, bytes_tot]
/-- What a search tells: the entry, and whether there is one. -/
def findE (k : List S34) (seq : Int) : Option (S34 × Bool) := (block_Find.f kBig k (rd_T34 k 0).f0 seq).map (fun r => (⟨r.1, r.2.1, r.2.2.1, r.2.2.2.1⟩, r.2.2.2.2))
def seeStep (seq : Int) (out k : List S34) : List S34 := match findE k seq with
  | some (x, true) => if x.f2 = true then out else out ++ [x]
  | _ => out
theorem seeStep_len (seq : Int) (out k : List S34) : (seeStep seq out k).length ≤ out.length + 1 := by
  unfold seeStep
  split
  · split
    · omega
    · simp
  · omega
theorem seeStep_fold (seq : Int) (gs : List (List S34)) : ∀ out, (gs.foldl (seeStep seq) out).length ≤ out.length + gs.length := by
  induction gs with
  | nil => intro out; simp
  | cons g gs ih =>
    intro out
    have h1 := ih (seeStep seq out g)
    have h2 := seeStep_len seq out g
    rw [List.foldl_cons, List.length_cons]
    omega
theorem flat_count : ∀ (gs : List (List S34)), (∀ g ∈ gs, 0 < g.length) → gs.length ≤ gs.flatten.length := by
  intro gs
  induction gs with
  | nil => intro _; simp
  | cons g gs ih =>
    intro h
    have h1 := ih (fun x hx => h x (List.mem_cons_of_mem _ hx))
    have h2 := h g List.mem_cons_self
    rw [List.flatten_cons, List.length_append, List.length_cons]
    omega
theorem world_any {G : World → Prop} {w : World} (R : World → Prop) (hw : R w) (h : ∀ W, R W → G W) : G w := h w hw
def merge_See.f (l : List S34) (seq : Int) : Option (List S34 × Option Int) :=
  if l.length ≤ 1000000 ∧ (block_Sorted.f kBig l).isSome = true ∧ (groupsF l.length l).all (fun k => (findE k seq).isSome) = true then
    (if (block_Sorted.f kBig l).getD false = false then some ([], some 1) else some ((groupsF l.length l).foldl (seeStep seq) [], none))
  else none
set_option maxHeartbeats 4000000 in
set_option maxRecDepth 100000 in
theorem merge_See.calls (A0 : Option Addr) (c0 : Nat) (l0 : List S34) (a1 : Int) (r1 : List S34) (r2 : Option Int) (w : World) (hr0 : Kd.C k34 w A0 l0.length l0) (hc0 : l0.length ≤ c0) (h : merge_See.f l0 a1 = some (r1, r2)) :
    Calls Try.prog 17 #[.slice A0 l0.length c0, .int .i64 a1] w (fun e w' => ∃ v_ : Value, e = .returned (.tuple #[v_, errW r2]) ∧ Kd.R k34 34 w' w.heap.size (fun _ => True) v_ r1 ∧ Below w.heap.size w w') := by
  unfold merge_See.f at h
  by_cases hb : l0.length ≤ 1000000 ∧ (block_Sorted.f kBig l0).isSome = true ∧ (groupsF l0.length l0).all (fun k => (findE k a1).isSome) = true
  · rw [if_pos hb] at h
    obtain ⟨hl0, hb2, hfd⟩ := hb
    obtain ⟨srt, hs⟩ := Option.isSome_iff_exists.1 hb2
    rw [hs] at h
    have hsort := fun W hB => block_Sorted.calls kBig A0 c0 l0 srt W (Kd.C_below hr0 hB) hc0 hs
    refine (callsIn_wide (n := 4)).1 ?_
    refine callsIn_of_wp_marks Try.func17 rfl trivial ?_ rfl
    simp only [Try.ntmps17, List.size_toArray, List.length_cons, List.length_nil, Nat.reduceAdd, Nat.reduceSub, Array.replicate_succ, Array.replicate_zero, List.push_toArray, List.append_toArray, List.nil_append, List.cons_append]
    have hB0 : Below w.heap.size w (w.alloc (.cells #[.int .i64 a1] 3)) := (Below.refl _ w).alloc (Nat.le_refl _) _
    have hf1' := heap_alloc_new w (.cells #[.int .i64 a1] 3)
    cases srt with
    | false =>
      rw [if_pos (show (some false).getD false = false from rfl)] at h
      obtain ⟨rfl, rfl⟩ := Prod.mk.inj (Option.some.inj h)
      gi_wp2_with (first | (refine ⟨trivial, ?_⟩; gi_at_call 19; refine (callsIn_wide.2 (hsort _ hB0)).mono ?_; rintro e w1 ⟨rfl, hb1⟩))
      refine ⟨_, results_tmp2 rfl _ _ _, .slice none 0 0, rfl, Kd.R_nil _ _ _ _ _, below_step hB0 hb1⟩
    | true =>
      rw [if_neg (show ¬ (some true).getD false = false by decide)] at h
      obtain ⟨hr1', rfl⟩ := Prod.mk.inj (Option.some.inj h)
      obtain ⟨i0, hi, iz0, iz1, iz2⟩ := info_parts info34
      gi_wp2_with (first | (refine ⟨trivial, ?_⟩; gi_at_call 19; refine (callsIn_wide.2 (hsort _ hB0)).mono ?_; rintro e w1 ⟨rfl, hb1⟩) | (refine ⟨trivial, ?_⟩; gi_at_call 26; refine (callsIn_wide.2 (keys_calls A0 l0.length c0 _)).mono ?_; rintro e w2 ⟨rfl, hw2⟩))
      obtain ⟨q1, q2, q3⟩ := two_alloc w1 (.cells #[.slice none 0 0] 24) (.cells #[.slice A0 l0.length c0] 24)
      have hB1 := below_step hB0 hb1
      have k1 := blk_below hf1' hb1
      have k1' := blk_below k1 q3
      have hB2 := below_step hB1 q3
      have hsz : ((w1.alloc (.cells #[.slice none 0 0] 24)).alloc (.cells #[.slice A0 l0.length c0] 24)).heap.size = w1.heap.size + 2 := by rw [World.size_alloc, World.size_alloc]
      have hk1 := (Array.getElem?_eq_some_iff.1 k1).1
      obtain ⟨W2, hW2⟩ : ∃ W2, (w1.alloc (.cells #[.slice none 0 0] 24)).alloc (.cells #[.slice A0 l0.length c0] 24) = W2 := ⟨_, rfl⟩
      rw [hW2] at q1 q2 q3 k1' hB2 hsz
      rw [hW2]
      have hwob := hB1.size
      obtain ⟨ob, hob⟩ : ∃ ob, w1.heap.size = ob := ⟨_, rfl⟩
      rw [hob] at q1 q2 hsz hk1 hwob
      rw [hob]
      obtain ⟨bl, hbl⟩ : ∃ bl, ob + 1 = bl := ⟨_, rfl⟩
      obtain ⟨kb, hkb⟩ : ∃ kb, w.heap.size = kb := ⟨_, rfl⟩
      rw [hbl] at q2
      rw [hkb] at k1' hk1
      rw [hbl]
      rw [show Value.pointer (some { block := w.heap.size, off := 0 }) = Value.pointer (some { block := kb, off := 0 }) by rw [hkb]]
      obtain ⟨n1, hn1⟩ : ∃ n1, W2.heap.size = n1 := ⟨_, rfl⟩
      rw [hn1] at hsz
      have hG := groups_flat l0.length l0 (Nat.le_refl _)
      have pn1 : n1 ≤ ob + 2 ∧ ob + 2 ≤ n1 := ⟨by omega, by omega⟩
      have pbl : bl ≤ ob + 1 ∧ ob + 1 ≤ bl := ⟨by omega, by omega⟩
      have pkb : kb ≤ w.heap.size ∧ w.heap.size ≤ kb := ⟨by omega, by omega⟩
      clear hsz hbl hkb hob
      refine wpIn_range_turned (α := KG w) (gf := 36) (lb := #[.pointer (some ⟨bl, 0, none⟩)]) (fun k => k = bl) (fun x => x.enc) (fun xs => xs.map (·.l) = groupsF l0.length l0) (fun pre x => pre.map (·.l) ++ [x.l] <+: groupsF l0.length l0) (fun X Y => KpB bl X Y ∧ Below w.heap.size X Y) rfl
        (fun args W => enters_of Try.func36 (by kernel_rfl) rfl args W) (fun k hk => by rw [hn1, hk]; omega) (fun _ => rfl) (fun {A B C} h1 h2 => ⟨Eq.trans h2.1 h1.1, h1.2.trans h2.2⟩)
        (fun W l o' hl => ⟨World.putObj_heap_other (by omega), belowP W l o' (by omega)⟩)
        (fun pre W => (∃ v, Boxed W ob 24 v ∧ ERow W n1 v ((pre.map (·.l)).foldl (seeStep a1) [])) ∧ Below w.heap.size w W ∧ n1 ≤ W.heap.size ∧ W.heap[kb]? = some (.cells #[.int .i64 a1] 3 (0, 0)))
        (fun s X Y ht hs => ⟨hs.1.imp (fun v hv => ⟨Boxed.turned hv.1 ht (by omega), ERow.turned hv.2 ht (fun k hk => by omega)⟩), turnB hs.2.1 ht (Nat.le_refl _) (fun k hk => by omega), Nat.le_trans hs.2.2.1 ht.size, ht.same hs.2.2.2 (by omega)⟩)
        (fun s X l o o' hl ho hc hs => ⟨hs.1.imp (fun v hv => ⟨boxedP hv.1 o' (by omega), ERow.put hv.2 ho hc o'⟩), hs.2.1.trans (belowP X l o' (by omega)), Nat.le_trans hs.2.2.1 (grownBy_putObj' X l o').size, (World.putObj_heap_other (by omega)).trans hs.2.2.2⟩)
        ⟨⟨_, q1, ERow.nil _ _⟩, hB2, by omega, k1'⟩
        (fun pre x a' W => a' = { tmps := #[.slice A0 l0.length c0, .int .i64 a1, undef, .pointer (some ⟨kb, 0, none⟩), .slice none 0 0, .nilIface, .pointer (some ⟨ob, 0, none⟩), .slice x.A x.l.length x.c, undef, undef, .slice A0 l0.length c0, .bool true, .bool false, undef, .slice A0 l0.length c0, .func (.func 36) #[] #[.pointer (some ⟨bl, 0, none⟩)], .slice x.A x.l.length x.c, undef, undef, undef, undef, undef, undef, undef, undef, undef, undef, undef, undef, undef, undef, undef, undef, undef, undef, undef, undef, undef], defers := [] })
        (fun s x c W l o o' hl ho hc hs => hs) ?hseq ?hassign ?hbody ?hdone
      case hseq =>
        intro l J W1 hBW hJ hY h0
        refine (keys1_in (4 - 1) (by decide) l bl w A0 c0 l0 (by omega) hr0 hc0 (fun s X => J s X ∧ Below w.heap.size w X) W1 (fun s X Y ht hs => ⟨hJ s X Y ht hs.1, turnB hs.2 ht (Nat.le_refl _) (fun k hk => by omega)⟩) (fun s X hs => hs.2) (by omega) ?_ (blk_below q2 hBW) ⟨h0, below_step hB2 hBW⟩).mono (fun e W' hh => ⟨hh.1, hh.2.imp (fun ys hy => ⟨hy.1, hy.2.1⟩)⟩)
        intro pre x X hJx hpre
        obtain ⟨fn, tmps, assign, body, hy, hR⟩ := hY pre x X hJx.1 hpre
        exact ⟨fn, tmps, assign, body, hy, hR.mono (fun e X' hh => ⟨hh.1, ⟨hh.2.1, hJx.2.trans hh.2.2.2⟩, hh.2.2.1⟩)⟩
      case hassign =>
        intro l pre x W K hi hv hK
        unfold KG.enc at hK ⊢
        gi_wp2
        exact hK _ _ (KeepsFrom.refl _ _) ⟨rfl, Below.refl _ _⟩ hi rfl
      case hdone =>
        rintro D xs W hD hxs ⟨⟨v, hvb, hvr⟩, hBW, hnW, _⟩ hK
        have hoc := hvb.cell
        rw [hxs, hr1'] at hvr
        gi_wp2
        refine ⟨by simp, .inl ⟨_, _, rfl, run_takeDeferred hK, ?_⟩⟩
        exact ⟨_, results_tmp2 rfl _ _ _, v, rfl, Kd.R_lower (ERow.R (ERow.put hvr hK rfl _)) (by omega), hBW.trans (belowP W D _ (by omega))⟩
      case hbody =>
        rintro l pre ⟨Ax, cx, k, hkr, hkc⟩ a' W ⟨⟨v, hvb, hvr⟩, hBW, hnW, hkb'⟩ rfl hv
        dsimp only
        obtain ⟨hflat, hkpos⟩ := pre_flat hv
        dsimp only at hflat hkpos hv
        have hkm : k ∈ groupsF l0.length l0 := by obtain ⟨r, hr⟩ := hv; rw [← hr]; simp
        have hfk := List.all_eq_true.1 hfd k hkm
        have hcnt : (pre.map (·.l)).length ≤ 1000000 := by
          have h1 := flat_count (pre.map (·.l)) (fun g hg => by obtain ⟨r, hr⟩ := hv; exact groups_ne l0.length l0 g (by rw [← hr]; simp only [List.mem_append]; exact .inl (.inl hg)))
          omega
        have hacc := seeStep_fold a1 (pre.map (·.l)) []
        have hst : ((pre ++ [(⟨Ax, cx, k, hkr, hkc⟩ : KG w)]).map (·.l)).foldl (seeStep a1) [] = seeStep a1 ((pre.map (·.l)).foldl (seeStep a1) []) k := by rw [List.map_append, List.foldl_append]; rfl
        rw [hst]
        generalize (pre.map (·.l)).foldl (seeStep a1) [] = acc at hvr hacc ⊢
        have hlen : acc.length ≤ 1000000 := by simp only [List.length_nil] at hacc; omega
        clear hacc hst
        generalize hres : seeStep a1 acc k = res
        unfold seeStep at hres
        obtain ⟨⟨⟨r1, r2, r3, r4⟩, r5⟩, hF⟩ := Option.isSome_iff_exists.1 hfk
        rw [hF] at hres
        unfold findE at hF
        obtain ⟨⟨s1, s2, s3, s4, s5⟩, hF1, hF2⟩ := Option.map_eq_some_iff.1 hF
        obtain ⟨hF3, hF4⟩ := Prod.mk.inj hF2
        dsimp only at hF3 hF4
        obtain ⟨rfl, rfl, rfl, rfl⟩ := S34.mk.inj hF3
        subst hF4
        clear hF hF2 hF3 hfk
        obtain ⟨ad, hA, hx0, _, _, _⟩ := at_T34 (Kd.C_below hkr hBW) 0 (by omega) (by omega)
        subst hA
        rw [show (0 : Int).toNat * 4 = 0 from rfl, show ad.add 0 = ad from by unfold Addr.add; split <;> simp_all] at hx0
        have hfind : ∀ X, Below w.heap.size w X → Calls Try.prog 20 #[.slice (some ad) k.length cx, .string (rd_T34 k 0).f0, .int .i64 a1] X _ := fun X hX => block_Find.calls kBig (some ad) cx k (rd_T34 k 0).f0 a1 s1 s2 s3 s4 s5 X (Kd.C_below hkr hX) hkc hF1
        generalize (rd_T34 k 0).f0 = key at hx0 hfind
        obtain ⟨hkc1, _⟩ := Zk1 (Aside0.mk hkb')
        have hadl := World.block_lt_of_cell? _ _ hx0
        have hcellK : ∀ X, Below W.heap.size W X → X.cell? ad = some (.string key) := fun X hX => (hX.cell hadl).trans hx0
        have hcellB : ∀ X, Below W.heap.size W X → X.cell? ⟨kb, 0, none⟩ = some (.int .i64 a1) := fun X hX => (hX.cell (World.block_lt_of_cell? _ _ hkc1)).trans hkc1
        have hkp0 : (0 < k.length) = True := eq_true hkpos
        gi_upto_region 6 with (fail)
        refine startC_ (S := fun w' => w'.cell? ad = some (.string key) ∧ w'.cell? ⟨kb, 0, none⟩ = some (.int .i64 a1)) (ds := []) #[false, false, false, false, false, false, false, false, false, false, false, false, false] (by kernel_rfl) (by kernel_rfl) (fun ⟨_, _, hh⟩ => by cases hh.1) rfl rfl ⟨hx0, hkc1⟩ ?_
        intro hHeld
        have hD : Below W.heap.size W W.drew := below_drew1 (Below.refl _ _)
        generalize W.drew = Wd at hD hHeld ⊢
        --REG
        refine pure_ (i := 0) (N := some 18) (v := ?_) (a' := ?_) #[true, false, false, false, false, false, false, false, false, false, false, false, false] rfl rfl (by kernel_rfl) (fun _ _ _ h => h) (Or.inl ⟨by rfl, ?_⟩) ?_ ?_
        rotate_left
        · intro w'
          go_simp
          with_reducible rfl
        rotate_left
        · simp only [Act.put, List.setIfInBounds_toArray, List.set_cons_zero, List.set_cons_succ, i64_w, i32_w]
          rfl
        refine pure_ (i := 1) (N := some 19) (v := ?_) (a' := ?_) #[true, true, false, false, false, false, false, false, false, false, false, false, false] rfl rfl (by kernel_rfl) (fun _ _ _ h => h) (Or.inl ⟨by rfl, ?_⟩) ?_ ?_
        rotate_left
        · intro w'
          go_simp
          with_reducible rfl
        rotate_left
        · simp only [Act.put, List.setIfInBounds_toArray, List.set_cons_zero, List.set_cons_succ, i64_w, i32_w]
          rfl
        refine pure_ (i := 2) (N := some 20) (v := ?_) (a' := ?_) #[true, true, true, false, false, false, false, false, false, false, false, false, false] rfl rfl (by kernel_rfl) (fun _ _ _ h => h) (Or.inl ⟨by rfl, ?_⟩) ?_ ?_
        rotate_left
        · intro w'
          go_simp
          with_reducible rfl
        rotate_left
        · simp only [Act.put, List.setIfInBounds_toArray, List.set_cons_zero, List.set_cons_succ, i64_w, i32_w]
          rfl
        refine pure_ (i := 3) (N := some 21) (v := ?_) (a' := ?_) #[true, true, true, true, false, false, false, false, false, false, false, false, false] rfl rfl (by kernel_rfl) (fun _ _ _ h => h) (Or.inl ⟨by rfl, ?_⟩) ?_ ?_
        rotate_left
        · intro w'
          go_simp
          with_reducible rfl
        rotate_left
        · simp only [Act.put, List.setIfInBounds_toArray, List.set_cons_zero, List.set_cons_succ, i64_w, i32_w]
          rfl
        refine take_ (i := 4) (N := some 22) (v := ?_) (a' := ?_) #[true, true, true, true, true, false, false, false, false, false, false, false, false] rfl rfl (by kernel_rfl) (fun _ _ _ h => h) (Or.inl ⟨by rfl, ?_⟩) hHeld ?_ ?_
        rotate_left
        · rintro w' ⟨s0, s1⟩
          go_simp
          with_reducible rfl
        rotate_left
        · simp only [Act.put, List.setIfInBounds_toArray, List.set_cons_zero, List.set_cons_succ, i64_w, i32_w]
          rfl
        refine take_ (i := 5) (N := some 23) (v := ?_) (a' := ?_) #[true, true, true, true, true, true, false, false, false, false, false, false, false] rfl rfl (by kernel_rfl) (fun _ _ _ h => h) (Or.inl ⟨by rfl, ?_⟩) hHeld ?_ ?_
        rotate_left
        · rintro w' ⟨s0, s1⟩
          go_simp
          with_reducible rfl
        rotate_left
        · simp only [Act.put, List.setIfInBounds_toArray, List.set_cons_zero, List.set_cons_succ, i64_w, i32_w]
          rfl
        refine two_ (i := 6) (j := 10) (Ni := some 24) (Nj := some 8) #[true, true, true, true, true, true, true, false, false, false, false, false, false] #[true, true, true, true, true, true, false, false, false, false, true, false, false] rfl rfl rfl rfl (by kernel_rfl) (by decide) (by decide) (fun K hK => ?_) (fun K hK => ?_)
        · refine goes_ Try.func20 (by kernel_rfl) rfl #[.slice (some ad) k.length cx, .string key, .int .i64 a1] (by rfl) rfl rfl (by (try simp only [List.map_toArray, List.map_cons, List.map_nil]); first | done | rfl) ?_
          refine (hfind _ (below_step hBW hD)).mono ?_
          rintro e w7 ⟨rfl, hb⟩
          refine ⟨_, rfl, ?_⟩
          have hD7 : Below W.heap.size W w7 := hD.trans (hb.mono hD.size)
          refine hK.out _ _ ⟨hcellK w7 hD7, hcellB w7 hD7⟩ (fun hHeld => ?_)
          clear hb hK K
          refine norm_ (a' := ?_) ?_ ?_
          rotate_left
          · show Act.put _ (some 24) _ = _
            simp only [Act.put, List.setIfInBounds_toArray, List.set_cons_zero, List.set_cons_succ, i64_w, i32_w]
            rfl
          refine pure_ (i := 7) (N := some 17) (v := ?_) (a' := ?_) #[true, true, true, true, true, true, true, true, false, false, false, false, false] rfl rfl (by kernel_rfl) (fun _ _ _ h => h) (Or.inl ⟨by rfl, ?_⟩) ?_ ?_
          rotate_left
          · intro w'
            go_simp
            with_reducible rfl
          rotate_left
          · simp only [Act.put, List.setIfInBounds_toArray, List.set_cons_zero, List.set_cons_succ, i64_w, i32_w]
            rfl
          refine pure_ (i := 8) (N := some 25) (v := ?_) (a' := ?_) #[true, true, true, true, true, true, true, true, true, false, false, false, false] rfl rfl (by kernel_rfl) (fun _ _ _ h => h) (Or.inl ⟨by rfl, ?_⟩) ?_ ?_
          rotate_left
          · intro w'
            go_simp
            with_reducible rfl
          rotate_left
          · simp only [Act.put, List.setIfInBounds_toArray, List.set_cons_zero, List.set_cons_succ, i64_w, i32_w]
            rfl
          refine pure_ (i := 9) (N := some 26) (v := ?_) (a' := ?_) #[true, true, true, true, true, true, true, true, true, true, false, false, false] rfl rfl (by kernel_rfl) (fun _ _ _ h => h) (Or.inl ⟨by rfl, ?_⟩) ?_ ?_
          rotate_left
          · intro w'
            go_simp
            with_reducible rfl
          rotate_left
          · simp only [Act.put, List.setIfInBounds_toArray, List.set_cons_zero, List.set_cons_succ, i64_w, i32_w]
            rfl
          refine one_ (i := 10) (N := some 8) #[true, true, true, true, true, true, true, true, true, true, true, false, false] rfl rfl (by kernel_rfl) (by decide) (fun K hK => ?_)
          refine value_ (w1 := ?_) (v := ?_) (by rfl) rfl ?_ ?_
          rotate_left 2
          · go_simp
            first | (constructor <;> rfl) | rfl
          have hD8 : Below W.heap.size W (w7.alloc (.cells #[.string (⟨#[]⟩ : ByteArray), .int .i64 0, .bool false, .string (⟨#[]⟩ : ByteArray)] 34)) := hD7.alloc hD7.size _
          have BE := Aside0.mk (heap_alloc_new w7 (.cells #[.string (⟨#[]⟩ : ByteArray), .int .i64 0, .bool false, .string (⟨#[]⟩ : ByteArray)] 34))
          refine hK.out _ _ ⟨hcellK _ hD8, hcellB _ hD8⟩ (fun hHeld => ?_)
          clear hK K
          refine norm_ (a' := ?_) ?_ ?_
          rotate_left
          · show Act.put _ (some 8) _ = _
            simp only [Act.put, List.setIfInBounds_toArray, List.set_cons_zero, List.set_cons_succ, i64_w, i32_w]
            rfl
          have hgW : W.heap.size ≤ w7.heap.size := hD7.size
          obtain ⟨⟨ec0, ec1, ec2, ec3⟩, ef0, ef1, ef2, ef3⟩ := Zk4 BE
          refine one_ (i := 11) (N := none) #[true, true, true, true, true, true, true, true, true, true, true, true, false] rfl rfl (by kernel_rfl) (by decide) (fun K hK => ?_)
          refine skip_ (w1 := ?_) (by rfl) rfl ?_ ?_
          rotate_left
          · go_simp
            rfl
          have hBf : Below W.heap.size W (w7.alloc (.cells #[.string s1, .int .i64 s2, .bool s3, .string s4] 34)) := hD7.alloc hD7.size _
          have hEf := heap_alloc_new w7 (.cells #[.string s1, .int .i64 s2, .bool s3, .string s4] 34)
          refine hK.out _ _ ⟨hcellK _ hBf, hcellB _ hBf⟩ (fun hHeld => ?_)
          clear hK K hHeld ec0 ec1 ec2 ec3 ef0 ef1 ef2 ef3
          refine world_any (G := fun X => wpAnyLast _ _ _ _ _ _ _ _ _ X) (fun X => X.heap[w7.heap.size]? = some (.cells #[.string s1, .int .i64 s2, .bool s3, .string s4] 34 (0, 0)) ∧ Below W.heap.size W X) ⟨hEf, hBf⟩ ?_
          rintro X ⟨heX, hBX⟩
          obtain ⟨g, hg⟩ : ∃ g, w7.heap.size = g := ⟨_, rfl⟩
          rw [hg] at heX
          rw [hg]
          clear hBf hEf BE hg
          refine pure_ (i := 12) (N := some 9) (v := ?_) (a' := ?_) #[true, true, true, true, true, true, true, true, true, true, true, true, true] rfl rfl (by kernel_rfl) (fun _ _ _ h => h) (Or.inl ⟨by rfl, ?_⟩) ?_ ?_
          rotate_left
          · intro w'
            go_simp
            with_reducible rfl
          rotate_left
          · simp only [Act.put, List.setIfInBounds_toArray, List.set_cons_zero, List.set_cons_succ, i64_w, i32_w]
            rfl
          refine done_ (by kernel_rfl) ?_
          obtain ⟨⟨ec0, ec1, ec2, ec3⟩, _⟩ := Zk4 (Aside0.mk heX)
          have hvb2 := Boxed.below hvb hBX
          have hvr2 := ERow.below hvr hBX
          have hszX := hBX.size
          have hKX : KeepsFrom n1 W X := ⟨hBX.size, fun k o _ hk _ => (hBX.block k (Array.getElem?_eq_some_iff.1 hk).1).trans hk⟩
          obtain ⟨Av, cv, rfl, hlv, _⟩ := ERow.at hvr2
          have hoc := hvb2.cell
          have hof := hvb2.frozen
          cases s5 with
          | false =>
            dsimp only at hres
            subst hres
            gi_wp2
            exact ⟨⟨hBX.block bl (by omega), hBX.mono (by omega)⟩, ⟨_, hvb2, hvr2⟩, below_step hBW hBX, by omega, (hBX.block kb (by omega)).trans hkb'⟩
          | true =>
            dsimp only at hres
            cases s3 with
            | true =>
              rw [if_pos rfl] at hres
              subst hres
              gi_wp2
              exact ⟨⟨hBX.block bl (by omega), hBX.mono (by omega)⟩, ⟨_, hvb2, hvr2⟩, below_step hBW hBX, by omega, (hBX.block kb (by omega)).trans hkb'⟩
            | false =>
              rw [if_neg (by decide)] at hres
              generalize hye : (⟨s1, s2, false, s4⟩ : S34) = y at hres
              subst hres
              gi_wp2_with (gi_at_builtin; refine wpListIn_append_own _ rfl _ _ 24 rfl n1 34 i0 _ 4 48 Try.underlying24 hi iz0 iz1 iz2 rfl (by decide) _ _ _ rfl (hvr2.alloc _) ⟨X.heap.size, 0, none⟩ 1 1 (eC ⟨s1, s2, false, s4⟩) rfl rfl (cells_newE X ⟨s1, s2, false, s4⟩ _) (one_eC ⟨s1, s2, false, s4⟩) (by unfold maxLen; omega) (by omega) (by rw [World.size_alloc]; omega) ?_; intro v' w5 hown' hgrow _; have hown2 : ERow w5 n1 v' (acc ++ [y]) := (by rw [← hye]; simpa [ERow] using hown'); obtain ⟨g', cap', rfl⟩ := ownsRow_succ hown'; obtain ⟨hv1, hv2, hr5, hk5, hb5, hkp5⟩ := appendedE hvb2 hvr2 (n0 := w.heap.size) (by omega) (by omega) (by omega) (by omega) (ys := acc ++ [y]) hown2 hgrow; have hc1 := hv1.cell; have hf1 := hv1.frozen)
              exact ⟨hKX.trans (hk5.from _), ⟨(hkp5 bl (by omega) (by omega)).trans (hBX.block bl (by omega)), (hBX.mono (by omega)).trans hb5⟩, ⟨_, hv2, hr5⟩, (below_step hBW hBX).trans hb5, (by have := hk5.size; rw [World.size_setCell] at this; omega), (hkp5 kb (by omega) (by omega)).trans ((hBX.block kb (by omega)).trans hkb')⟩
        · refine value_ (w1 := ?_) (v := ?_) (by rfl) rfl ?_ ?_
          rotate_left 2
          · go_simp
            first | (constructor <;> rfl) | rfl
          have hD8 : Below W.heap.size W (Wd.alloc (.cells #[.string (⟨#[]⟩ : ByteArray), .int .i64 0, .bool false, .string (⟨#[]⟩ : ByteArray)] 34)) := hD.alloc hD.size _
          have BE0 := heap_alloc_new Wd (.cells #[.string (⟨#[]⟩ : ByteArray), .int .i64 0, .bool false, .string (⟨#[]⟩ : ByteArray)] 34)
          refine hK.out _ _ ⟨hcellK _ hD8, hcellB _ hD8⟩ (fun hHeld => ?_)
          clear hK K
          refine norm_ (a' := ?_) ?_ ?_
          rotate_left
          · show Act.put _ (some 8) _ = _
            simp only [Act.put, List.setIfInBounds_toArray, List.set_cons_zero, List.set_cons_succ, i64_w, i32_w]
            rfl
          refine one_ (i := 6) (N := some 24) #[true, true, true, true, true, true, true, false, false, false, true, false, false] rfl rfl (by kernel_rfl) (by decide) (fun K hK => ?_)
          refine goes_ Try.func20 (by kernel_rfl) rfl #[.slice (some ad) k.length cx, .string key, .int .i64 a1] (by rfl) rfl rfl (by (try simp only [List.map_toArray, List.map_cons, List.map_nil]); first | done | rfl) ?_
          refine (hfind _ (below_step hBW hD8)).mono ?_
          rintro e w7 ⟨rfl, hb⟩
          refine ⟨_, rfl, ?_⟩
          have hD7 : Below W.heap.size W w7 := hD8.trans (hb.mono hD8.size)
          have BE := Aside0.mk (blk_below BE0 hb)
          refine hK.out _ _ ⟨hcellK w7 hD7, hcellB w7 hD7⟩ (fun hHeld => ?_)
          clear hb hK K
          refine norm_ (a' := ?_) ?_ ?_
          rotate_left
          · show Act.put _ (some 24) _ = _
            simp only [Act.put, List.setIfInBounds_toArray, List.set_cons_zero, List.set_cons_succ, i64_w, i32_w]
            rfl
          refine pure_ (i := 7) (N := some 17) (v := ?_) (a' := ?_) #[true, true, true, true, true, true, true, true, false, false, true, false, false] rfl rfl (by kernel_rfl) (fun _ _ _ h => h) (Or.inl ⟨by rfl, ?_⟩) ?_ ?_
          rotate_left
          · intro w'
            go_simp
            with_reducible rfl
          rotate_left
          · simp only [Act.put, List.setIfInBounds_toArray, List.set_cons_zero, List.set_cons_succ, i64_w, i32_w]
            rfl
          refine pure_ (i := 8) (N := some 25) (v := ?_) (a' := ?_) #[true, true, true, true, true, true, true, true, true, false, true, false, false] rfl rfl (by kernel_rfl) (fun _ _ _ h => h) (Or.inl ⟨by rfl, ?_⟩) ?_ ?_
          rotate_left
          · intro w'
            go_simp
            with_reducible rfl
          rotate_left
          · simp only [Act.put, List.setIfInBounds_toArray, List.set_cons_zero, List.set_cons_succ, i64_w, i32_w]
            rfl
          refine pure_ (i := 9) (N := some 26) (v := ?_) (a' := ?_) #[true, true, true, true, true, true, true, true, true, true, true, false, false] rfl rfl (by kernel_rfl) (fun _ _ _ h => h) (Or.inl ⟨by rfl, ?_⟩) ?_ ?_
          rotate_left
          · intro w'
            go_simp
            with_reducible rfl
          rotate_left
          · simp only [Act.put, List.setIfInBounds_toArray, List.set_cons_zero, List.set_cons_succ, i64_w, i32_w]
            rfl
          have hgW : W.heap.size ≤ Wd.heap.size := hD.size
          obtain ⟨⟨ec0, ec1, ec2, ec3⟩, ef0, ef1, ef2, ef3⟩ := Zk4 BE
          refine one_ (i := 11) (N := none) #[true, true, true, true, true, true, true, true, true, true, true, true, false] rfl rfl (by kernel_rfl) (by decide) (fun K hK => ?_)
          refine skip_ (w1 := ?_) (by rfl) rfl ?_ ?_
          rotate_left
          · go_simp
            rfl
          have hBf : Below W.heap.size W (((((w7.setCell ⟨Wd.heap.size, 0, none⟩ (.string s1)).setCell ⟨Wd.heap.size, 1, none⟩ (.int .i64 s2)).setCell ⟨Wd.heap.size, 2, none⟩ (.bool s3)).setCell ⟨Wd.heap.size, 3, none⟩ (.string s4))) := below_set (below_set (below_set (below_set hD7 hgW) hgW) hgW) hgW
          have b1 := blk_put (cs := #[.string (⟨#[]⟩ : ByteArray), .int .i64 0, .bool false, .string (⟨#[]⟩ : ByteArray)]) BE.out 0 (.string s1) rfl
          have b2 := blk_put (cs := #[.string s1, .int .i64 0, .bool false, .string (⟨#[]⟩ : ByteArray)]) b1 1 (.int .i64 s2) rfl
          have b3 := blk_put (cs := #[.string s1, .int .i64 s2, .bool false, .string (⟨#[]⟩ : ByteArray)]) b2 2 (.bool s3) rfl
          have hEf := blk_put (cs := #[.string s1, .int .i64 s2, .bool s3, .string (⟨#[]⟩ : ByteArray)]) b3 3 (.string s4) rfl
          refine hK.out _ _ ⟨hcellK _ hBf, hcellB _ hBf⟩ (fun hHeld => ?_)
          clear hK K hHeld ec0 ec1 ec2 ec3 ef0 ef1 ef2 ef3
          refine world_any (G := fun X => wpAnyLast _ _ _ _ _ _ _ _ _ X) (fun X => X.heap[Wd.heap.size]? = some (.cells #[.string s1, .int .i64 s2, .bool s3, .string s4] 34 (0, 0)) ∧ Below W.heap.size W X) ⟨hEf, hBf⟩ ?_
          rintro X ⟨heX, hBX⟩
          obtain ⟨g, hg⟩ : ∃ g, Wd.heap.size = g := ⟨_, rfl⟩
          rw [hg] at heX
          rw [hg]
          clear hBf hEf BE hg
          refine pure_ (i := 12) (N := some 9) (v := ?_) (a' := ?_) #[true, true, true, true, true, true, true, true, true, true, true, true, true] rfl rfl (by kernel_rfl) (fun _ _ _ h => h) (Or.inl ⟨by rfl, ?_⟩) ?_ ?_
          rotate_left
          · intro w'
            go_simp
            with_reducible rfl
          rotate_left
          · simp only [Act.put, List.setIfInBounds_toArray, List.set_cons_zero, List.set_cons_succ, i64_w, i32_w]
            rfl
          refine done_ (by kernel_rfl) ?_
          obtain ⟨⟨ec0, ec1, ec2, ec3⟩, _⟩ := Zk4 (Aside0.mk heX)
          have hvb2 := Boxed.below hvb hBX
          have hvr2 := ERow.below hvr hBX
          have hszX := hBX.size
          have hKX : KeepsFrom n1 W X := ⟨hBX.size, fun k o _ hk _ => (hBX.block k (Array.getElem?_eq_some_iff.1 hk).1).trans hk⟩
          obtain ⟨Av, cv, rfl, hlv, _⟩ := ERow.at hvr2
          have hoc := hvb2.cell
          have hof := hvb2.frozen
          cases s5 with
          | false =>
            dsimp only at hres
            subst hres
            gi_wp2
            exact ⟨⟨hBX.block bl (by omega), hBX.mono (by omega)⟩, ⟨_, hvb2, hvr2⟩, below_step hBW hBX, by omega, (hBX.block kb (by omega)).trans hkb'⟩
          | true =>
            dsimp only at hres
            cases s3 with
            | true =>
              rw [if_pos rfl] at hres
              subst hres
              gi_wp2
              exact ⟨⟨hBX.block bl (by omega), hBX.mono (by omega)⟩, ⟨_, hvb2, hvr2⟩, below_step hBW hBX, by omega, (hBX.block kb (by omega)).trans hkb'⟩
            | false =>
              rw [if_neg (by decide)] at hres
              generalize hye : (⟨s1, s2, false, s4⟩ : S34) = y at hres
              subst hres
              gi_wp2_with (gi_at_builtin; refine wpListIn_append_own _ rfl _ _ 24 rfl n1 34 i0 _ 4 48 Try.underlying24 hi iz0 iz1 iz2 rfl (by decide) _ _ _ rfl (hvr2.alloc _) ⟨X.heap.size, 0, none⟩ 1 1 (eC ⟨s1, s2, false, s4⟩) rfl rfl (cells_newE X ⟨s1, s2, false, s4⟩ _) (one_eC ⟨s1, s2, false, s4⟩) (by unfold maxLen; omega) (by omega) (by rw [World.size_alloc]; omega) ?_; intro v' w5 hown' hgrow _; have hown2 : ERow w5 n1 v' (acc ++ [y]) := (by rw [← hye]; simpa [ERow] using hown'); obtain ⟨g', cap', rfl⟩ := ownsRow_succ hown'; obtain ⟨hv1, hv2, hr5, hk5, hb5, hkp5⟩ := appendedE hvb2 hvr2 (n0 := w.heap.size) (by omega) (by omega) (by omega) (by omega) (ys := acc ++ [y]) hown2 hgrow; have hc1 := hv1.cell; have hf1 := hv1.frozen)
              exact ⟨hKX.trans (hk5.from _), ⟨(hkp5 bl (by omega) (by omega)).trans (hBX.block bl (by omega)), (hBX.mono (by omega)).trans hb5⟩, ⟨_, hv2, hr5⟩, (below_step hBW hBX).trans hb5, (by have := hk5.size; rw [World.size_setCell] at this; omega), (hkp5 kb (by omega) (by omega)).trans ((hBX.block kb (by omega)).trans hkb')⟩
        --END
  · rw [if_neg hb] at h
    cases h
end Go.Proofs.Yteljlfodjbgejaa.Print
