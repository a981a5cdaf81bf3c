import Derived.Test.YtbdkfmhkgeoeaaaTabAB
import Derived.Test.YtbdkfmhkgeoeaaaTabK
import Derived.RangeFuncBox
import Derived.Test.YtbdkfmhkgeoeaaaXRounds
import Derived.Laws.Cover1
import Derived.Sort.CutIn
import Derived.BigQuiet
import Derived.Test.YtbdkfmhkgeoeaaaWAll
import Derived.Test.YtbdkfmhkgeoeaaaPrint11
import Derived.Test.YtbdkfmhkgeoeaaaHErrorsIs
import Derived.Test.YtbdkfmhkgeoeaaaHPackRow
import Derived.Test.YtbdkfmhkgeoeaaaHBloomAll
import Derived.Test.YtbdkfmhkgeoeaaaHBlockEncode
import Derived.Test.YtbdkfmhkgeoeaaaPrint3
import Derived.Test.YtbdkfmhkgeoeaaaHBlockDecode
import Derived.Test.YtbdkfmhkgeoeaaaPrint9
namespace Go.Proofs.Ytbdkfmhkgeoeaaa.Print
open Go.RowKit Go.Proofs.YtbdkfmhkgeoeaaaX Go.Proofs.YtbdkfmhkgeoeaaaW.PrintWords Go.Proofs.YtbdkfmhkgeoeaaaW.PrintLast
set_option linter.unusedVariables false
set_option linter.unusedSimpArgs false

/-- A text's frame. -/
def fr (s : ByteArray) : ByteArray := strOfNums (numL s.size) ++ s ++ fourS (sumR s)
theorem putR_fr (s : ByteArray) (h : s.size ≤ 1048576) : putR s = (fr s, none) := by unfold putR fr; rw [if_neg (by omega)]
theorem putR_no (s : ByteArray) (h : 1048576 < s.size) : putR s = (⟨#[]⟩, some 5) := by unfold putR; rw [if_pos h]
theorem fr_size (s : ByteArray) : (fr s).size = bsize s.size + 1 + s.size + 4 := by
  unfold fr
  rw [append_size, textL_size, fourS_size]
theorem fr_small (s : ByteArray) (h : s.size ≤ 1048576) : 5 ≤ (fr s).size ∧ (fr s).size ≤ 1048584 := by
  have := bsize_text h
  rw [fr_size]
  omega
/-- Some texts' frames, one behind the other. -/
def cat : List ByteArray → ByteArray
  | [] => ⟨#[]⟩
  | s :: l => fr s ++ cat l
theorem nil_app (a : ByteArray) : (⟨#[]⟩ : ByteArray) ++ a = a := by apply bytesOf_inj; rw [bytesOf_append]; rfl
theorem cat_size (l : List ByteArray) (h : ∀ s ∈ l, s.size ≤ 1048576) : (cat l).size ≤ 1048584 * l.length := by
  induction l with
  | nil => exact Nat.le_refl _
  | cons x l ih =>
    have h1 := fr_small x (h x List.mem_cons_self)
    have h2 := ih (fun s hs => h s (List.mem_cons_of_mem _ hs))
    simp only [cat, List.length_cons]
    rw [append_size]
    omega
theorem next_some (b : ByteArray) (h : 0 < b.size) (hb : b.size ≤ 9223372036854775807) : frame_next.f b = some (takeR b) := by
  unfold frame_next.f
  rw [if_neg (by rw [toList_nil_iff]; omega), take_eq b hb]
  rfl
theorem all_step (x0 : ByteArray) (acc : List ByteArray) (s rest : ByteArray) (k : Nat) (hs : s.size ≤ 1048576) (ha : acc.length < 8796093022208) (hr : rest.size ≤ 1000000000000) :
    frame_All.l0 (k + 1) x0 acc (fr s ++ rest) = frame_All.l0 k x0 (acc ++ [s]) rest := by
  have h1 := fr_small s hs
  conv => lhs; unfold frame_All.l0
  rw [next_some _ (by rw [append_size]; omega) (by rw [append_size]; omega)]
  have ht : takeR (fr s ++ rest) = (s, rest, none) := takeR_put s hs rest
  rw [ht]
  simp [errors_Is.f, ha]
theorem all_cat (x0 : ByteArray) (tail : ByteArray) (ht : tail.size ≤ 2000000) : ∀ (l acc : List ByteArray) (k : Nat), (∀ s ∈ l, s.size ≤ 1048576) → acc.length + l.length ≤ 1000 →
    frame_All.l0 (l.length + k) x0 acc (cat l ++ tail) = frame_All.l0 k x0 (acc ++ l) tail := by
  intro l
  induction l with
  | nil => intro acc k h hl; simp only [cat, List.length_nil, Nat.zero_add, List.append_nil]; rw [nil_app]
  | cons s l ih =>
    intro acc k h hl
    simp only [List.length_cons] at hl ⊢
    have h2 := cat_size l (fun s hs => h s (List.mem_cons_of_mem _ hs))
    simp only [cat]
    rw [app_assoc, show l.length + 1 + k = (l.length + k) + 1 by omega, all_step x0 acc s _ _ (h s List.mem_cons_self) (by omega) (by rw [append_size]; omega),
      ih (acc ++ [s]) k (fun s hs => h s (List.mem_cons_of_mem _ hs)) (by simp; omega)]
    simp
theorem all_end (x0 : ByteArray) (acc : List ByteArray) (k : Nat) : frame_All.l0 (k + 1) x0 acc ⟨#[]⟩ = some (acc, (x0.size : Int), none) := by
  conv => lhs; unfold frame_All.l0
  have : frame_next.f (⟨#[]⟩ : ByteArray) = some (⟨#[]⟩, ⟨#[]⟩, some 0) := by
    unfold frame_next.f
    rw [if_pos (by rw [toList_nil_iff]; rfl)]
  rw [this]
  simp [errors_Is.f]
end Go.Proofs.Ytbdkfmhkgeoeaaa.Print

namespace Go.Proofs.Ytbdkfmhkgeoeaaa.Print
open Go.RowKit Go.Proofs.YtbdkfmhkgeoeaaaX Go.Proofs.YtbdkfmhkgeoeaaaW.PrintWords Go.Proofs.YtbdkfmhkgeoeaaaW.PrintLast
set_option linter.unusedVariables false
set_option linter.unusedSimpArgs false

/-! ## Rows of texts -/
def textB (s : ByteArray) : ByteArray := strOfNums (numL s.size) ++ s
def rowR : List ByteArray → ByteArray → ByteArray × Option Int
  | [], b => (b, none)
  | s :: l, b => if s.size ≤ 1048576 ∧ b.size + (textB s).size ≤ 1048576 then rowR l (b ++ textB s) else (⟨#[]⟩, some 5)
def rowS (l : List ByteArray) : ByteArray × Option Int := if l.length ≤ 1000 then rowR l (strOfNums (numL l.length)) else (⟨#[]⟩, some 5)
theorem app_size (a b : ByteArray) : (a ++ b).size = a.size + b.size := by rw [bytesOf_size, bytesOf_append, List.length_append, bytesOf_length, bytesOf_length]
theorem strOf_bytes (s : ByteArray) : strOfNums (bytesOf s) = s := bytesOf_inj (bytesOf_strOfNums (bytesOf_range s))
theorem textB_sz (s : ByteArray) (h : s.size ≤ 1048576) : 1 ≤ (textB s).size ∧ (textB s).size ≤ s.size + 4 := by
  have := bsize_text h
  unfold textB
  rw [textL_size]
  omega
theorem rowAcc_eq : ∀ (l : List ByteArray) (b : ByteArray), rowAcc l (bytesOf b) = some (rowR l b) := by
  intro l
  induction l with
  | nil => intro b; simp only [rowAcc, rowR, strOf_bytes]
  | cons s l ih =>
    intro b
    simp only [rowAcc, rowR]
    rw [text_big s 100 (by decide), textR]
    by_cases h : 1048576 < s.size
    · rw [if_pos h]
      simp only [Option.bind_some]
      rw [if_pos (by decide), if_neg (fun h => by cases h.1), if_neg (by omega)]
    · rw [if_neg h]
      simp only [Option.bind_some]
      have hz := textB_sz s (by omega)
      have e : strOfNums (numL s.size) ++ s = textB s := rfl
      rw [e, if_pos (by omega), bytesOf_length]
      by_cases h2 : b.size + (textB s).size ≤ 1048576
      · rw [if_pos ⟨rfl, h2⟩, if_pos ⟨by omega, h2⟩, ← bytesOf_append, ih]
      · rw [if_neg (fun h => h2 h.2), if_neg (fun h => h2 h.2)]
theorem row_eq (l : List ByteArray) : pack_Row.f l = some (rowS l) := by
  unfold pack_Row.f rowS
  by_cases h : l.length ≤ 1000
  · rw [if_pos h, if_pos h, num_big _ 100 (by decide), numR, if_neg (by omega), Int.toNat_natCast]
    simp only [Option.bind_some]
    have h7 := bsize_7 (n := l.length) (by omega)
    rw [if_pos (by rw [size_strOfNums, numL_length]; omega), rowAcc_eq]
  · rw [if_neg h, if_neg h]

/-! ## Bytes read as a row -/
end Go.Proofs.Ytbdkfmhkgeoeaaa.Print

namespace Go.Proofs.Ytbdkfmhkgeoeaaa.Print
open Go.RowKit Go.Shelf Go.Proofs.YtbdkfmhkgeoeaaaW.PrintWords Go.Proofs.YtbdkfmhkgeoeaaaW.PrintLast Go.Proofs.YtbdkfmhkgeoeaaaW.PrintMore Go.Proofs.YtbdkfmhkgeoeaaaX
set_option linter.unusedVariables false
set_option linter.unusedSimpArgs false

/-! ## Boxes and rows while a range goes on -/
theorem belowP {b : Nat} (W : World) (l : Nat) (o' : Obj) (hl : b ≤ l) : Below b W (W.putObj l o') :=
  ⟨(grownBy_putObj' W l o').os, (grownBy_putObj' W l o').tape, (grownBy_putObj' W l o').output, (grownBy_putObj' W l o').size, fun k hk => World.putObj_heap_other (by omega)⟩
theorem below_step {b : Nat} {A B C : World} (h : Below b A B) (k : Below B.heap.size B C) (hb : b ≤ B.heap.size) : Below b A C := h.trans (k.mono hb)
def NoT (_ : Nat) : Prop := False
theorem Turned.below {W W' : World} (h : Turned NoT W W') : Below W.heap.size W W' := ⟨h.os, h.tape, h.output, h.size, fun k hk => h.block k hk (fun h => h)⟩
theorem turnN {b : Nat} {w W W' : World} (hb : Below b w W) (h : Turned NoT W W') (hw : b ≤ W.heap.size) : Below b w W' := hb.trans (h.below.mono hw)
theorem Bx.put {base gw l : Nat} {v : Value} {xs : List Int} {W : World} {o : Obj} (h : Bx base gw v xs W) (hl : W.heap[l]? = some o) (hc : o.isCells = false) (o' : Obj) : Bx base gw v xs (W.putObj l o') :=
  ⟨(World.putObj_heap_other (fun e => by rw [← e, h.box] at hl; cases hl; cases hc)).trans h.box, ownsRow_putObj h.row o' hl hc, h.gwb⟩
theorem heap_put {l k : Nat} {W : World} {o : Obj} {cs : Array Value} {t : TypeId} {f : Nat × Nat} (h : W.heap[k]? = some (.cells cs t f)) (hl : W.heap[l]? = some o) (hc : o.isCells = false) (o' : Obj) : (W.putObj l o').heap[k]? = some (.cells cs t f) :=
  (World.putObj_heap_other (fun e => by rw [← e, h] at hl; cases hl; cases hc)).trans h
theorem SRow.put {base l : Nat} {v : Value} {xs : List ByteArray} {W : World} {o : Obj} (h : SRow W base v xs) (hl : W.heap[l]? = some o) (hc : o.isCells = false) (o' : Obj) : SRow (W.putObj l o') base v xs := ownsRow_putObj h o' hl hc
theorem Bx.keepsFrom {base gw : Nat} {v : Value} {xs : List Int} {W W' : World} (h : Bx base gw v xs W) (hk : WKept gw v W W') (n : Nat) : KeepsFrom n W W' :=
  ⟨hk.size, fun k o _ ho hc => by
    rw [hk.keep k (Array.getElem?_eq_some_iff.1 ho).1 (fun e => ?_) (fun e => ?_)]
    · exact ho
    · rw [e, h.box] at ho; cases ho; cases hc
    · obtain ⟨_, cur, hcur⟩ := h.block k e
      rw [hcur] at ho; cases ho; cases hc⟩
theorem Bx.other {base gw : Nat} {v : Value} {xs : List Int} {W W' : World} (h : Bx base gw v xs W) (hk : WKept gw v W W') {k : Nat} {cs : Array Value} {t : TypeId} {f : Nat × Nat} (ho : W.heap[k]? = some (.cells cs t f)) (h1 : t ≠ 5) (h2 : t ≠ 40) : W'.heap[k]? = some (.cells cs t f) := by
  rw [hk.keep k (Array.getElem?_eq_some_iff.1 ho).1 (fun e => ?_) (fun e => ?_)]
  · exact ho
  · rw [e, h.box] at ho; cases ho; exact h2 rfl
  · obtain ⟨_, cur, hcur⟩ := h.block k e
    rw [hcur] at ho; cases ho; exact h1 rfl
theorem SRow.block {W : World} {base g : Nat} {v : Value} {xs : List ByteArray} (h : SRow W base v xs) (hg : v.ownBlock = some g) : base ≤ g ∧ ∃ cs, W.heap[g]? = some (.cells cs 9 (0, 0)) := by
  rcases h.2 with ⟨rfl, _⟩ | ⟨g', cap, cur, rfl, hb, hgb, _⟩
  · simp [Value.ownBlock] at hg
  · obtain rfl : g' = g := by simpa [Value.ownBlock] using hg
    exact ⟨hb, _, hgb⟩
theorem SRow.kept {W W' : World} {base : Nat} {v : Value} {xs : List ByteArray} (h : SRow W base v xs) {b2 gw : Nat} {v2 : Value} {ys : List Int} (hB : Bx b2 gw v2 ys W) (hk : WKept gw v2 W W') : SRow W' base v xs :=
  own_move h (fun k hk2 => by
    obtain ⟨_, cs, hc⟩ := h.block hk2
    rw [hc]
    exact hB.other hk hc (by decide) (by decide))
theorem Bx.step {base gw : Nat} {v : Value} {xs : List Int} {W W' : World} (h : Bx base gw v xs W) (hk : WKept gw v W W') : Below base W W' :=
  ⟨hk.os, hk.tape, hk.output, hk.size, fun k hl => by
    have hg := (Array.getElem?_eq_some_iff.1 h.box).1
    have hb := h.gwb
    exact hk.keep k (by omega) (fun e => by omega) (fun e => by have := (h.block k e).1; omega)⟩
theorem Bx.moved {base gw : Nat} {v : Value} {xs : List Int} {W W' : World} (h : Bx base gw v xs W) (hk : ∀ (k : Nat) (cs : Array Value) (t : TypeId) (f : Nat × Nat), W.heap[k]? = some (.cells cs t f) → t ≠ 9 → t ≠ 52 → W'.heap[k]? = some (.cells cs t f)) : Bx base gw v xs W' :=
  ⟨hk _ _ _ _ h.box (by decide) (by decide), own_move h.row (fun k hk2 => by
    obtain ⟨_, cs, hc⟩ := h.block k hk2.symm
    rw [hc]
    exact hk _ _ _ _ hc (by decide) (by decide)), h.gwb⟩
/-- Behind 'xs = append(xs, x)', xs in a box. -/
theorem appendedS {Wd w8 : World} {base fb : Nat} {v v8 : Value} {fs ys : List ByteArray} (hrow : SRow Wd base v fs) (hf : Wd.heap[fb]? = some (.cells #[v] 52 (0, 0))) (hg : Wd.grownBy w8 v.ownBlock) (h8 : SRow w8 base v8 ys) (hb : base ≤ fb) :
    w8.heap[fb]? = some (.cells #[v] 52 (0, 0)) ∧ (w8.setCell ⟨fb, 0, none⟩ v8).heap[fb]? = some (.cells #[v8] 52 (0, 0)) ∧ SRow (w8.setCell ⟨fb, 0, none⟩ v8) base v8 ys ∧ KeepsOthers Wd (w8.setCell ⟨fb, 0, none⟩ v8) ∧ Below base Wd (w8.setCell ⟨fb, 0, none⟩ v8) ∧
      (∀ (k : Nat) (cs : Array Value) (t : TypeId) (f : Nat × Nat), Wd.heap[k]? = some (.cells cs t f) → t ≠ 9 → k ≠ fb → (w8.setCell ⟨fb, 0, none⟩ v8).heap[k]? = some (.cells cs t f)) := by
  have hG : ∀ (k : Nat) (o : Obj), Wd.heap[k]? = some o → (∀ cs, o ≠ .cells cs 9 (0, 0)) → w8.heap[k]? = some o := fun k o ho hne =>
    (hg.block k (Array.getElem?_eq_some_iff.1 ho).1 (fun e => by
      obtain ⟨_, cs, hc⟩ := hrow.block e.symm
      rw [hc] at ho
      exact hne cs (Option.some.inj ho).symm)).trans ho
  have hf8 := hG fb _ hf (fun cs e => by cases e)
  have hlt := (Array.getElem?_eq_some_iff.1 hf).1
  refine ⟨hf8, blk_put (cs := #[v]) hf8 0 v8 rfl, ownsRow_setCell_other h8 (a := ⟨fb, 0, none⟩) (fun e => ?_) v8, ⟨?_, ?_⟩, ?_, ?_⟩
  · obtain ⟨_, cs, hc⟩ := h8.block e
    rw [hf8] at hc; cases hc
  · rw [World.size_setCell]; exact hg.size
  · intro k o ho hc
    refine (Below.heap_setCell w8 ⟨fb, 0, none⟩ v8 k (fun e => ?_)).trans (hG k o ho (fun cs e => by rw [e] at hc; cases hc))
    have : k = fb := e
    subst this
    rw [hf] at ho; cases ho; cases hc
  · refine ⟨hg.os, hg.tape, hg.output, by rw [World.size_setCell]; exact hg.size, fun k hk => ?_⟩
    refine (Below.heap_setCell w8 ⟨fb, 0, none⟩ v8 k (by show k ≠ fb; omega)).trans (hg.block k (by omega) (fun e => ?_))
    have := (hrow.block e.symm).1
    omega
  · intro k cs t f ho ht hkf
    exact (Below.heap_setCell w8 ⟨fb, 0, none⟩ v8 k hkf).trans (hG k _ ho (fun cs2 e => by cases e; exact ht rfl))
end Go.Proofs.Ytbdkfmhkgeoeaaa.Print

namespace Go.Proofs.Ytbdkfmhkgeoeaaa.Print
open Go.RowKit Go.Proofs.YtbdkfmhkgeoeaaaW.PrintWords Go.Proofs.YtbdkfmhkgeoeaaaW.PrintLast Go.Proofs.YtbdkfmhkgeoeaaaW.PrintMore Go.Proofs.YtbdkfmhkgeoeaaaX
set_option linter.unusedVariables false
set_option linter.unusedSimpArgs false

/-! ## table.Build: the bytes -/
def encS (c : List Ent) : ByteArray := (encR c).1
def putB (s : ByteArray) : List Int := bytesOf (putR s).1
def accB (cs : List (List Ent)) : List Int := cs.flatMap (fun c => putB (encS c))
def firstsF (cs : List (List Ent)) : List ByteArray := cs.map (fun c => (gt c 0).f0)
def keysF (l : List Ent) : List ByteArray := cU (l.map (·.f0)) (l.map (·.f0)).length
def buildL (l : List Ent) (m b : Nat) : List Int :=
  accB (chsF l.length m l) ++ putB (rowS (firstsF (chsF l.length m l))).1 ++ putB (makeR (keysF l) (b : Int)).1 ++ putB (strOfNums [(m : Int), (b : Int), 84])
theorem putB_len (s : ByteArray) : (putB s).length ≤ 1048584 := by
  unfold putB
  rw [bytesOf_length]
  by_cases h : s.size ≤ 1048576
  · rw [putR_fr s h]; exact (fr_small s h).2
  · rw [putR_no s (by omega)]; exact Nat.zero_le _
theorem accB_len : ∀ cs : List (List Ent), (accB cs).length ≤ 1048584 * cs.length
  | [] => Nat.le_refl _
  | c :: cs => by
    have h1 := accB_len cs
    have h2 := putB_len (encS c)
    have : accB (c :: cs) = putB (encS c) ++ accB cs := rfl
    rw [this, List.length_append, List.length_cons]
    omega
theorem accB_snoc (cs : List (List Ent)) (c : List Ent) : accB (cs ++ [c]) = accB cs ++ putB (encS c) := by
  unfold accB; rw [List.flatMap_append]; simp
theorem firsts_snoc (cs : List (List Ent)) (c : List Ent) : firstsF (cs ++ [c]) = firstsF cs ++ [(gt c 0).f0] := by
  unfold firstsF; rw [List.map_append]; rfl
theorem chs_len (m : Nat) (hm : 1 ≤ m) : ∀ (n : Nat) (r : List Ent), (chsF n m r).length ≤ r.length
  | 0, r => Nat.zero_le _
  | n + 1, r => by
    simp only [chsF]
    split
    · exact Nat.zero_le _
    · have := chs_len m hm n (r.drop m)
      rw [List.length_drop] at this
      rw [List.length_cons]; omega
theorem chs_mem (m : Nat) (hm : 1 ≤ m) : ∀ (n : Nat) (r c : List Ent), c ∈ chsF n m r → 0 < c.length ∧ c.length ≤ m ∧ (sortedB r = true → sortedB c = true)
  | 0, r, c, h => absurd h List.not_mem_nil
  | n + 1, r, c, h => by
    simp only [chsF] at h
    split at h
    · exact absurd h List.not_mem_nil
    · rcases List.mem_cons.1 h with rfl | h
      · refine ⟨by rw [List.length_take]; omega, by rw [List.length_take]; omega, fun hs => sorted_take hs m⟩
      · obtain ⟨h1, h2, h3⟩ := chs_mem m hm n _ c h
        exact ⟨h1, h2, fun hs => h3 (sorted_drop hs m)⟩
theorem encFrom_len (l : List Ent) (h : sortedB l = true) : ∀ (m i : Nat), i + m = l.length → (encFrom l m i).length ≤ 500 * m
  | 0, i, _ => by simp [encFrom]
  | m + 1, i, hi => by
    have ih := encFrom_len l h m (i + 1) (by omega)
    have hr := (sAt_iff.1 (sortedB_iff.1 h i (by omega))).1
    have h1 := (nAt_le l i hr).2
    have h2 := entL_len (nAt l i) (gt l i) hr (by omega)
    simp only [encFrom, List.length_append]
    omega
theorem encS_size (c : List Ent) : (encS c).size ≤ 110000 := by
  unfold encS encR
  split
  · exact Nat.zero_le _
  · split
    · rename_i h1 h2
      have h3 := encFrom_len c h2 c.length 0 (by omega)
      have h4 := numL_len (n := c.length) (by omega)
      rw [size_strOfNums]
      unfold encL
      rw [List.length_append]
      omega
    · exact Nat.zero_le _
theorem cU_mem (xs : List ByteArray) : ∀ m, m ≤ xs.length → ∀ s ∈ cU xs m, s ∈ xs
  | 0, _, s, h => absurd h List.not_mem_nil
  | m + 1, hm, s, h => by
    simp only [cU] at h
    have ih := cU_mem xs m (by omega) s
    split at h
    · rcases List.mem_append.1 h with h | h
      · exact ih h
      · rw [List.mem_singleton.1 h]
        show xs.getD m _ ∈ xs
        rw [List.getD_eq_getElem?_getD, List.getElem?_eq_getElem (by omega)]
        exact List.getElem_mem _
    · exact ih h
theorem keys_small (l : List Ent) (hs : sortedB l = true) : ∀ s ∈ keysF l, s.size ≤ 80 := by
  intro s h
  have h1 := cU_mem _ _ (Nat.le_refl _) s h
  obtain ⟨e, he, rfl⟩ := List.mem_map.1 h1
  obtain ⟨i, hi, rfl⟩ := List.mem_iff_getElem.1 he
  have h2 := (sAt_iff.1 (sortedB_iff.1 hs i hi)).1
  rw [gt_get hi] at h2
  exact (right_iff.1 h2).2.2.2.2.1
theorem filt_eq (l : List Ent) (hs : sortedB l = true) (b : Int) : bloom_Make.f (keysF l) b = some (makeR (keysF l) b) := by
  unfold bloom_Make.f
  rw [if_pos]
  rw [List.all_eq_true]
  intro s h
  have := keys_small l hs s h
  exact decide_eq_true (by omega)
theorem rowR_size : ∀ (l : List ByteArray) (b : ByteArray), b.size ≤ 1048576 → (rowR l b).1.size ≤ 1048576
  | [], b, h => h
  | s :: l, b, h => by
    simp only [rowR]
    split
    · rename_i h2
      exact rowR_size l _ (by rw [append_size]; exact h2.2)
    · exact Nat.zero_le _
theorem rowS_size (l : List ByteArray) : (rowS l).1.size ≤ 1048576 := by
  unfold rowS
  split
  · have h7 := bsize_7 (n := l.length) (by omega)
    exact rowR_size l _ (by rw [size_strOfNums, numL_length]; omega)
  · exact Nat.zero_le _
theorem setKeys_len (m : Nat) (hm : 0 < m) (K : Nat) : ∀ (ks : List ByteArray) (xs : List Int), (ks.foldl (setKey m hm K) xs).length = xs.length
  | [], xs => rfl
  | k :: ks, xs => by
    rw [List.foldl_cons, setKeys_len m hm K ks, setKey, setFold_length]
theorem makeR_size (l : List ByteArray) (b : Int) : (makeR l b).1.size ≤ 10000 := by
  unfold makeR
  split
  · exact Nat.zero_le _
  · split
    · exact Nat.zero_le _
    · rename_i h1 h2
      rw [size_strOfNums, List.length_append, setKeys_len, List.length_replicate]
      unfold nBytes
      have hb : b.toNat ≤ 20 := by omega
      have := Nat.mul_le_mul (show l.length ≤ 2000 by omega) hb
      rw [List.length_singleton]
      omega
theorem conv_row {W : World} {base n c : Nat} {A : Option Addr} {xs : List Int} (h : W.ownsRow base 5 1 (.slice A n c) n (nums .u8 xs)) : (convert 40 9 (.slice A n c)).run Try.prog W = .ok (.string (strOfNums xs)) W :=
  Kd.C_string (P := Try.prog) (A := A) (c := c) Try.underlying40 Try.underlying5 Try.underlying9 (Kd.C_of_reads (h1 := fun _ => rfl) (readsInt_of.1 (own_reads' h)))
theorem conv_new3 (W : World) (x y z : Int) : (convert 40 9 (.slice (some ⟨W.heap.size, 0, none⟩) 3 3)).run Try.prog (W.alloc (.cells #[.int .u8 x, .int .u8 y, .int .u8 z] 5)) = .ok (.string (strOfNums [x, y, z])) (W.alloc (.cells #[.int .u8 x, .int .u8 y, .int .u8 z] 5)) :=
  conv_row (base := 0) ⟨rfl, .inr ⟨W.heap.size, 3, _, rfl, Nat.zero_le _, heap_alloc_new W _, Nat.le_refl _, by decide, rfl, rfl⟩⟩
theorem Bx.shape {base gw : Nat} {v : Value} {xs : List Int} {W : World} (h : Bx base gw v xs W) : ∃ A c, v = .slice A xs.length c := by
  obtain ⟨A, c, e, _⟩ := own_reads h.row
  exact ⟨A, c, e⟩
/-- The closure that puts a frame behind what there is. -/
theorem put2_calls (s : ByteArray) (base gw : Nat) (v : Value) (xs : List Int) (w : World) (hs : s.size ≤ 140737488351232) (hw : Bx base gw v xs w) (hl : xs.length ≤ 100000000000000) :
    Calls Try.prog 22 #[.string s, .pointer (some ⟨gw, 0, none⟩)] w fun e w' => e = .returned (.tuple #[]) ∧ ∃ v', Bx base gw v' (xs ++ putB s) w' ∧ WKept gw v w w' := by
  obtain ⟨K, hK⟩ := put_ev s hs
  have h := putB_len s
  unfold putB at h
  rw [bytesOf_length] at h
  exact put1_calls s K (putR s).1 (putR s).2 base gw v xs w (hK K (Nat.le_refl _)) hw (by omega)
end Go.Proofs.Ytbdkfmhkgeoeaaa.Print

namespace Go.Proofs.Ytbdkfmhkgeoeaaa.Print
open Go.Sort Go.RowKit Go.Shelf Go.Proofs.YtbdkfmhkgeoeaaaW.PrintWords Go.Proofs.YtbdkfmhkgeoeaaaW.PrintLast Go.Proofs.YtbdkfmhkgeoeaaaW.PrintMore Go.Proofs.YtbdkfmhkgeoeaaaX
set_option linter.unusedVariables false
set_option linter.unusedSimpArgs false
attribute [local go_sem] Oper.semAt_some

abbrev pvF (bb : Nat) : Value := .func (.func 22) #[] #[.pointer (some ⟨bb, 0, none⟩)]
theorem range_act {F : Fence} {n : Nat} {P : Program} {c : Code} {Q : Exit → Act → World → Prop} {a : Act} {w : World} (h : ∀ a0, a0 = a → c.wpIn F n P Q a0 w) : c.wpIn F n P Q a w := h a rfl
set_option maxHeartbeats 4000000 in
set_option maxRecDepth 100000 in
theorem build_yes (A0 : Option Addr) (c0 : Nat) (l0 : List S36) (m b : Nat) (w : World) (hr0 : Kd.C k36 w A0 l0.length l0) (hc0 : l0.length ≤ c0) (hm1 : 1 ≤ m) (hm2 : m ≤ 50) (hb1 : 1 ≤ b) (hb2 : b ≤ 20) (hl0 : 0 < l0.length) (hl : l0.length ≤ 400) (hs : sortedB l0 = true) :
    Calls Try.prog 9 #[.slice A0 l0.length c0, .int .i64 (m : Int), .int .i64 (b : Int)] w fun e w' => e = .returned (.tuple #[.string (strOfNums (buildL l0 m b)), .nilIface]) ∧ Below w.heap.size w w' := by
  have hu25 := Try.underlying25
  have hu48 := Try.underlying48
  have hm1' : ¬ (m : Int) < 1 := by omega
  have hm2' : ¬ 50 < (m : Int) := by omega
  have hb1' : ¬ (b : Int) < 1 := by omega
  have hb2' : ¬ 20 < (b : Int) := by omega
  have h1z : ¬ (l0.length : Int) = 0 := by omega
  have h2z : ¬ 1500 < (l0.length : Int) := by omega
  have hS : Calls Try.prog 21 #[.slice A0 l0.length c0] w _ := block_Sorted.calls 2000 A0 c0 l0 true w hr0 hc0 (by rw [sorted_big l0 (by omega) 2000 (by omega), hs])
  have hq : ((l0.length : Int) - 1) / (m : Int) < 1000 := by
    have : ((l0.length : Int) - 1) / (m : Int) ≤ (l0.length : Int) - 1 := Int.ediv_le_self _ (by omega)
    omega
  have hmz : ¬ (m : Int) = 0 := by omega
  have hz0 : ¬ l0.length = 0 := by omega
  have hmz0 : ¬ m = 0 := by omega
  have hw0 := Aside0.mk (show w = w from rfl)
  refine (callsIn_wide (n := 4)).1 ?_
  refine callsIn_of_wp_marks Try.func9 rfl trivial ?_ rfl
  simp only [Try.ntmps9, List.size_toArray, List.length_cons, List.length_nil, Nat.reduceAdd, Nat.reduceSub, Array.replicate_succ, Array.replicate_zero, List.push_toArray, List.append_toArray, List.nil_append, List.cons_append]
  gi_upto_region 7 with (first | (refine ⟨trivial, ?_⟩; gi_at_call 21; refine (callsIn_wide.2 hS).mono ?_; rintro e w1 ⟨rfl, hb1⟩))
  clear hS hq h1z h2z hz0 hmz0 hmz
  obtain ⟨bb, hbb⟩ : ∃ bb, w1.heap.size = bb := ⟨_, rfl⟩
  have e1 : (w1.alloc (.cells #[.slice none 0 0] 40)).heap[bb]? = some (.cells #[.slice none 0 0] 40 (0, 0)) := hbb ▸ heap_alloc_new w1 (.cells #[.slice none 0 0] 40)
  obtain ⟨w2, hw2⟩ : ∃ w2, w1.alloc (.cells #[.slice none 0 0] 40) = w2 := ⟨_, rfl⟩
  have s2 : w2.heap.size = bb + 1 := by rw [← hw2, World.size_alloc, hbb]
  have hB2 : Below w.heap.size w w2 := by rw [← hw2]; exact hb1.alloc hb1.size _
  obtain ⟨pb, hpb⟩ : ∃ pb, bb + 1 = pb := ⟨_, rfl⟩
  have p2 : (w2.alloc (.cells #[.nilFunc] 51)).heap[pb]? = some (.cells #[.nilFunc] 51 (0, 0)) := by rw [← hpb, ← s2]; exact heap_alloc_new w2 _
  obtain ⟨pc, pf⟩ := Zk1 (Aside0.mk p2)
  obtain ⟨w3, hw3⟩ : ∃ w3, (w2.alloc (.cells #[.nilFunc] 51)).setCell ⟨pb, 0, none⟩ (pvF bb) = w3 := ⟨_, rfl⟩
  have p3 : w3.heap[pb]? = some (.cells #[pvF bb] 51 (0, 0)) := by rw [← hw3]; exact blk_put (cs := #[.nilFunc]) p2 0 (pvF bb) rfl
  have e3 : w3.heap[bb]? = some (.cells #[.slice none 0 0] 40 (0, 0)) := by
    rw [← hw3, Below.heap_setCell _ ⟨pb, 0, none⟩ (pvF bb) bb (by show bb ≠ pb; omega), Below.heap_alloc _ _ _ (by omega)]; rw [← hw2]; exact e1
  have s3 : w3.heap.size = bb + 2 := by rw [← hw3, World.size_setCell, World.size_alloc, s2]
  have hbw : w.heap.size ≤ bb := by rw [← hbb]; exact hb1.size
  have hB3 : Below w.heap.size w w3 := by rw [← hw3]; exact (hB2.alloc (by rw [s2]; omega) _).setCell (by show w.heap.size ≤ pb; omega) _
  have hpb' := Aside0.mk hpb
  have hst : ∀ (W : World) mm, (store ⟨pb, 0, none⟩ (.func (.func 22) #[] #[.pointer (some ⟨bb, 0, none⟩)]) mm).run Try.prog W = stored Try.prog W ⟨pb, 0, none⟩ (.func (.func 22) #[] #[.pointer (some ⟨bb, 0, none⟩)]) mm := fun W mm => run_store Try.prog W _ _ mm rfl
  gi_upto_region 9 with (fail)
  clear pc pf p2 hw2 hst
  obtain ⟨fb, hfb⟩ : ∃ fb, bb + 2 = fb := ⟨_, rfl⟩
  have f4 : (w3.alloc (.cells #[.slice none 0 0] 52)).heap[fb]? = some (.cells #[.slice none 0 0] 52 (0, 0)) := by rw [← hfb, ← s3]; exact heap_alloc_new w3 _
  have p4 := (Below.heap_alloc w3 (.cells #[.slice none 0 0] 52) pb (by omega)).trans p3
  have e4 := (Below.heap_alloc w3 (.cells #[.slice none 0 0] 52) bb (by omega)).trans e3
  have s4 : (w3.alloc (.cells #[.slice none 0 0] 52)).heap.size = bb + 3 := by rw [World.size_alloc, s3]
  have hB4 : Below w.heap.size w (w3.alloc (.cells #[.slice none 0 0] 52)) := hB3.alloc (by omega) _
  obtain ⟨w4, hw4⟩ : ∃ w4, w3.alloc (.cells #[.slice none 0 0] 52) = w4 := ⟨_, rfl⟩
  rw [hw4] at f4 p4 e4 s4 hB4
  gi_wp2_with (first | (refine ⟨trivial, ?_⟩; gi_at_call 24; refine (callsIn_wide.2 (chunk_calls A0 l0.length c0 m hm1 _)).mono ?_; rintro e w5 ⟨sb, nb, hsb, hnb, rfl, h5s, h5n, hb5⟩; clear hw4))
  obtain ⟨n1, hn1⟩ : ∃ n1, w5.heap.size = n1 := ⟨_, rfl⟩
  have hsb1 : sb < n1 := by rw [← hn1]; exact (Array.getElem?_eq_some_iff.1 h5s).1
  have hnb1 : nb < n1 := by rw [← hn1]; exact (Array.getElem?_eq_some_iff.1 h5n).1
  rw [s4] at hsb hnb hb5
  have f5 := (hb5.block fb (by omega)).trans f4
  have p5 := (hb5.block pb (by omega)).trans p4
  have e5 := (hb5.block bb (by omega)).trans e4
  have hB5 : Below w.heap.size w w5 := hB4.trans (hb5.mono (by omega))
  clear f4 p4 e4 s4 hB4 hb5 hB3 e3 p3 s3 hw3 hB2 s2 hbb e1 hpb' hw0
  refine range_act ?_
  intro a0 ha0
  have ha0' := Aside0.mk ha0
  refine wpIn_range_turned (α := KG w) (gf := 46) (lb := #[.pointer (some ⟨sb, 0, none⟩), .pointer (some ⟨nb, 0, none⟩)]) NoT (fun x => x.enc) (fun xs => xs.map (·.l) = chsF l0.length m l0) (fun pre x => pre.map (·.l) ++ [x.l] <+: chsF l0.length m l0) (fun X Y => KpC sb nb X Y ∧ Below w.heap.size X Y) (by rw [ha0]; rfl)
    (fun args W => enters_of Try.func46 (by kernel_rfl) rfl args W) (fun k hk => hk.elim) (fun _ => rfl) (fun {A B C} h1 h2 => ⟨⟨h2.1.1.trans h1.1.1, h2.1.2.trans h1.1.2⟩, h1.2.trans h2.2⟩)
    (fun W l o' hl => ⟨⟨World.putObj_heap_other (by omega), World.putObj_heap_other (by omega)⟩, belowP W l o' (by omega)⟩)
    (fun pre W => (∃ vb, Bx w.heap.size bb vb (accB (pre.map (·.l))) W) ∧ W.heap[pb]? = some (.cells #[pvF bb] 51 (0, 0)) ∧ (∃ vf, W.heap[fb]? = some (.cells #[vf] 52 (0, 0)) ∧ SRow W w.heap.size vf (firstsF (pre.map (·.l)))) ∧ Below w.heap.size w W ∧ n1 ≤ W.heap.size ∧ W.heap[sb]? = some (.cells #[.slice A0 l0.length c0] 22 (0, 0)) ∧ W.heap[nb]? = some (.cells #[.int .i64 (m : Int)] 3 (0, 0)))
    (fun s X Y ht hs => ⟨hs.1.imp (fun v h => h.far ht.below), ht.same hs.2.1 (fun h => h), hs.2.2.1.imp (fun v h => ⟨ht.same h.1 (fun h => h), SRow.below h.2 ht.below⟩), turnN hs.2.2.2.1 ht hs.2.2.2.1.size, Nat.le_trans hs.2.2.2.2.1 ht.size, ht.same hs.2.2.2.2.2.1 (fun h => h), ht.same hs.2.2.2.2.2.2 (fun h => h)⟩)
    (fun s X l o o' hl ho hc hs => ⟨hs.1.imp (fun v h => h.put ho hc o'), heap_put hs.2.1 ho hc o', hs.2.2.1.imp (fun v h => ⟨heap_put h.1 ho hc o', h.2.put ho hc o'⟩), hs.2.2.2.1.trans (belowP X l o' (by omega)), Nat.le_trans hs.2.2.2.2.1 (grownBy_putObj' X l o').size, heap_put hs.2.2.2.2.2.1 ho hc o', heap_put hs.2.2.2.2.2.2 ho hc o'⟩)
    ⟨⟨_, ⟨e5, World.ownsRow_nil _ _ _ _, hbw⟩⟩, p5, ⟨_, f5, World.ownsRow_nil _ _ _ _⟩, hB5, by omega, h5s, h5n⟩
    (fun pre x a' W => a' = { tmps := (a0.tmps.setIfInBounds 64 (.slice x.A x.l.length x.c)).setIfInBounds 12 (.slice x.A x.l.length x.c), defers := [] })
    (fun s x c W l o o' hl ho hc hs => hs) ?hseq ?hassign ?hbody ?hdone
  case hseq =>
    intro l J W1 hBW hJ hY h0
    refine (chunk1_in (4 - 1) (by decide) l sb nb w A0 c0 m hm1 (by omega) l0 (by omega) hr0 hc0 (fun s X => J s X ∧ Below w.heap.size w X) W1 (fun s X Y ht hs => ⟨hJ s X Y ht hs.1, turnN hs.2 ht hs.2.size⟩) (fun s X hs => hs.2) ?_ ((hBW.block sb (by omega)).trans h5s) ((hBW.block nb (by omega)).trans h5n) ⟨h0, hB5.trans (hBW.mono (by omega))⟩).mono (fun e W' hh => ⟨hh.1, hh.2.imp (fun ys hy => ⟨hy.1, hy.2.1⟩)⟩)
    intro pre x X hJx hpre
    obtain ⟨fn, tmps, assign, body, hy, hR⟩ := hY pre x X hJx.1 hpre
    exact ⟨fn, tmps, assign, body, hy, hR.mono (fun e X' hh => ⟨hh.1, ⟨hh.2.1, hJx.2.trans hh.2.2.2⟩, hh.2.2.1⟩)⟩
  case hassign =>
    intro l pre x W K hi hv hK
    rw [ha0] at hK ⊢
    unfold KG.enc
    gi_wp2
    exact hK _ _ (KeepsFrom.refl _ _) ⟨⟨rfl, rfl⟩, Below.refl _ _⟩ hi rfl
  case hbody =>
    rintro l pre ⟨Ax, cx, k, hkr, hkc⟩ a' W ⟨⟨vb, hvb⟩, hpbW, ⟨vf, hfbW, hvf⟩, hBW, hnW, hsW, hnbW⟩ rfl hv
    rw [ha0]
    simp only [List.setIfInBounds_toArray, List.set_cons_zero, List.set_cons_succ]
    dsimp only at hv hkr hkc
    have hkm : k ∈ chsF l0.length m l0 := by obtain ⟨r, hr⟩ := hv; rw [← hr]; simp
    obtain ⟨hk0, hk1, hks⟩ := chs_mem m hm1 _ _ k hkm
    have hcnt : (pre.map (·.l)).length ≤ 400 := by
      have h1 := hv.length_le
      have h2 := chs_len m hm1 l0.length l0
      rw [List.length_append] at h1
      omega
    have hal := accB_len (pre.map (·.l))
    have hE := block_Encode.calls Ax cx k (encR k).1 (encR k).2 W (Kd.C_below hkr hBW) hkc (encode_eq k)
    have hsz := encS_size k
    have e1 : (pre ++ [(⟨Ax, cx, k, hkr, hkc⟩ : KG w)]).map (·.l) = pre.map (·.l) ++ [k] := by rw [List.map_append]; rfl
    rw [e1, accB_snoc, firsts_snoc]
    unfold encS at hsz ⊢
    generalize encR k = R at hE hsz ⊢
    generalize pre.map (·.l) = cs at hvb hvf hcnt hal ⊢
    obtain ⟨r1, r2⟩ := R
    dsimp only at hE hsz ⊢
    gi_upto_region 14 with (first | (refine ⟨trivial, ?_⟩; gi_at_call 25; refine (CallsIn.inRound l (callsIn_wide.2 hE)).mono ?_; rintro e w6 ⟨rfl, hb6⟩; clear hE; have hp6 := (hb6.block pb (Array.getElem?_eq_some_iff.1 hpbW).1).trans hpbW; have hvb6 := hvb.far hb6; obtain ⟨pc6, pf6⟩ := Zk1 (Aside0.mk hp6)) | (refine ⟨trivial, ?_⟩; gi_at_call 22; refine (CallsIn.inRound l (callsIn_wide.2 (put2_calls r1 w.heap.size bb vb (accB cs) _ (by omega) hvb6 (by omega)))).mono ?_; rintro e w7 ⟨rfl, vb7, hvb7, hk7⟩; clear pc6 pf6))
    have hfb6 := (hb6.block fb (Array.getElem?_eq_some_iff.1 hfbW).1).trans hfbW
    have hs6 := (hb6.block sb (Array.getElem?_eq_some_iff.1 hsW).1).trans hsW
    have hn6 := (hb6.block nb (Array.getElem?_eq_some_iff.1 hnbW).1).trans hnbW
    have hp7 := hvb6.other hk7 hp6 (by decide) (by decide)
    have hf7 := hvb6.other hk7 hfb6 (by decide) (by decide)
    have hs7 := hvb6.other hk7 hs6 (by decide) (by decide)
    have hn7 := hvb6.other hk7 hn6 (by decide) (by decide)
    have hvf7 := (hvf.below hb6).kept hvb6 hk7
    have hB67 : Below w.heap.size W w7 := (hb6.mono hBW.size).trans (hvb6.step hk7)
    have hB7 := hBW.trans hB67
    have hK7 : KeepsFrom w5.heap.size W w7 := ((⟨hb6.size, fun k o hk _ => (hb6.block k (Array.getElem?_eq_some_iff.1 hk).1).trans hk⟩ : KeepsOthers W w6).from _).trans (hvb6.keepsFrom hk7 _)
    have hn17 : n1 ≤ w7.heap.size := Nat.le_trans hnW (Nat.le_trans hb6.size hk7.size)
    obtain ⟨Af, cf, hvfe, hcf, _⟩ := hvf7.reads
    subst hvfe
    obtain ⟨ad, hA, hx0, _, _, _⟩ := at_T36 (Kd.C_below hkr hB7) 0 (by omega) (by omega)
    subst hA
    rw [show (0 : Int).toNat * 4 = 0 from rfl, show ad.add 0 = ad from by unfold Addr.add; split <;> simp_all, show (0 : Int) = ((0 : Nat) : Int) from rfl, rd_gt] at hx0
    have hadw : ad.block < w.heap.size := by
      obtain ⟨ad2, hA2, hx2, _⟩ := at_T36 hkr 0 (by omega) (by omega)
      obtain rfl := Option.some.inj hA2
      rw [show (0 : Int).toNat * 4 = 0 from rfl, show ad.add 0 = ad from by unfold Addr.add; split <;> simp_all] at hx2
      exact World.block_lt_of_cell? _ _ hx2
    obtain ⟨x, hx⟩ : ∃ x, (gt k 0).f0 = x := ⟨_, rfl⟩
    rw [hx] at hx0
    have HX := Aside0.mk hx
    clear hx
    clear hvb6 hk7 hb6 hp6 hfb6 hs6 hn6 hvf hvb hpbW hfbW e1 hkr
    obtain ⟨fc7, ff7⟩ := Zk1 (Aside0.mk hf7)
    have hk0z : (0 : Int) < (k.length : Int) := by omega
    have hfx : (firstsF cs).length ≤ 400 := by unfold firstsF; rw [List.length_map]; exact hcnt
    obtain ⟨fs, hfs⟩ : ∃ fs, firstsF cs = fs := ⟨_, rfl⟩
    rw [hfs] at hvf7 hcf hfx fc7 hf7
    have HFS := Aside0.mk hfs
    clear hfs
    have hpair : w7.cell? ⟨fb, 0, none⟩ = some (.slice Af fs.length cf) ∧ w7.cell? ad = some (.string x) := ⟨fc7, hx0⟩
    refine startC_ (S := fun w' => w'.cell? ⟨fb, 0, none⟩ = some (.slice Af fs.length cf) ∧ w'.cell? ad = some (.string x)) (ds := [6, 7]) #[false, false, false, false, false, false, false, false] (by kernel_rfl) (by kernel_rfl) (fun ⟨_, _, hh⟩ => by cases hh.1) rfl rfl hpair ?_
    intro hHeld
    have hD : Below w7.heap.size w7 w7.drew := below_drew1 (Below.refl _ _)
    have hBD : Below w.heap.size w w7.drew := hB7.trans (hD.mono hB7.size)
    have hfD : w7.drew.heap[fb]? = _ := hf7
    have hvfD : SRow w7.drew w.heap.size (.slice Af fs.length cf) fs := hvf7.below hD
    have hsD : w7.heap.size = w7.drew.heap.size := rfl
    have hhD : ∀ k : Nat, w7.drew.heap[k]? = w7.heap[k]? := fun k => rfl
    generalize w7.drew = Wd at hHeld hD hBD hfD hvfD hsD hhD ⊢
    refine take_ (i := 0) (N := some 73) (v := ?_) (a' := ?_) #[true, false, false, false, false, false, false, false] rfl rfl (by kernel_rfl) (fun _ _ _ h => h) (Or.inl ⟨by rfl, ?_⟩) hHeld ?_ ?_; rotate_left; (focus rintro w' ⟨s0,s1⟩; go_simp; with_reducible rfl); rotate_left; (focus simp only [Act.put, List.setIfInBounds_toArray, List.set_cons_zero, List.set_cons_succ, i64_w, i32_w]; rfl)
    refine pure_ (i := 1) (N := some 74) (v := ?_) (a' := ?_) #[true, true, false, false, false, false, false, false] rfl rfl (by kernel_rfl) (fun _ _ _ h => h) (Or.inl ⟨by rfl, ?_⟩) ?_ ?_; rotate_left; (focus intro w'; go_simp; with_reducible rfl); rotate_left; (focus simp only [Act.put, List.setIfInBounds_toArray, List.set_cons_zero, List.set_cons_succ, i64_w, i32_w]; rfl)
    refine pure_ (i := 2) (N := some 75) (v := ?_) (a' := ?_) #[true, true, true, false, false, false, false, false] rfl rfl (by kernel_rfl) (fun _ _ _ h => h) (Or.inl ⟨by rfl, ?_⟩) ?_ ?_; rotate_left; (focus intro w'; go_simp; with_reducible rfl); rotate_left; (focus simp only [Act.put, List.setIfInBounds_toArray, List.set_cons_zero, List.set_cons_succ, i64_w, i32_w]; rfl)
    refine pure_ (i := 3) (N := some 76) (v := ?_) (a' := ?_) #[true, true, true, true, false, false, false, false] rfl rfl (by kernel_rfl) (fun _ _ _ h => h) (Or.inl ⟨by rfl, ?_⟩) ?_ ?_; rotate_left; (focus intro w'; go_simp; with_reducible rfl); rotate_left; (focus simp only [Act.put, List.setIfInBounds_toArray, List.set_cons_zero, List.set_cons_succ, i64_w, i32_w]; rfl)
    refine take_ (i := 4) (N := some 77) (v := ?_) (a' := ?_) #[true, true, true, true, true, false, false, false] rfl rfl (by kernel_rfl) (fun _ _ _ h => h) (Or.inl ⟨by rfl, ?_⟩) hHeld ?_ ?_; rotate_left; (focus rintro w' ⟨s0,s1⟩; go_simp; with_reducible rfl); rotate_left; (focus simp only [Act.put, List.setIfInBounds_toArray, List.set_cons_zero, List.set_cons_succ, i64_w, i32_w]; rfl)
    refine one_ (i := 5) (N := some 78) #[true, true, true, true, true, true, false, false] rfl rfl (by kernel_rfl) (by decide) (fun K hK => ?_)
    refine value_ (w1 := ?_) (v := ?_) (by rfl) rfl ?_ ?_
    rotate_left 2
    · go_simp
      first | (constructor <;> rfl) | rfl
    refine hK.out _ _ ⟨(World.cell?_alloc_some _ _ _ (by rw [hHeld.1]; rfl)).trans hHeld.1, (World.cell?_alloc_some _ _ _ (by rw [hHeld.2]; rfl)).trans hHeld.2⟩ (fun hHeld => ?_)
    clear hK K
    refine norm_ (a' := ?_) ?_ ?_
    rotate_left
    · show Act.put _ (some 78) _ = _
      simp only [Act.put, List.setIfInBounds_toArray, List.set_cons_zero, List.set_cons_succ, i64_w, i32_w]
      rfl
    refine last_ (i := 6) (N := some 79) #[true, true, true, true, true, true, true, false] rfl rfl (by kernel_rfl) (by decide) (fun K hK => ?_)
    refine step_append_cells (w0 := w) w.heap.size (by rfl) (.tmp 73) (.tmp 78) 52 9 (.string (⟨#[]⟩ : ByteArray)) 1 16 rfl Try.underlying52 infoS_ rfl (by decide) (by decide) (.slice Af fs.length cf) fs.length (fs.map Value.string) [.string x] rfl rfl rfl (by simp [Value.oneCell']) hvfD hBD hBD.size (by omega) ?_
    intro v8 w8 hown8 hB8 hg8 hat8
    have hS8 : SRow w8 w.heap.size v8 (fs ++ [x]) := by unfold SRow; rw [List.map_append, List.length_append]; exact hown8
    obtain ⟨hf8, hf9, hS9, hK9, hB9, hM9⟩ := appendedS hvfD hfD hg8 hS8 (by omega)
    obtain ⟨A8, c8, hv8, hc8, _⟩ := hS8.reads
    subst hv8
    rw [show (fs ++ [x]).length = fs.length + 1 by simp] at hf9 hS9 hK9 hB9 hM9
    obtain ⟨fc8, ff8⟩ := Zk1 (Aside0.mk hf8)
    refine hK.out _ _ ?_
    clear hK K hS8 hown8 hat8
    refine norm_ (a' := ?_) ?_ ?_
    rotate_left
    · show Act.put _ (some 79) _ = _
      simp only [Act.put, List.setIfInBounds_toArray, List.set_cons_zero, List.set_cons_succ, i64_w, i32_w]
      rfl
    refine last_ (i := 7) (N := none) #[true, true, true, true, true, true, true, true] rfl rfl (by kernel_rfl) (by decide) (fun K hK => ?_)
    refine skip_ (w1 := ?_) (by rfl) rfl ?_ ?_
    rotate_left
    · go_simp
      rfl
    refine hK.out _ _ ?_
    clear hK K
    refine done_ (by kernel_rfl) ?_
    have hs9 := hM9 sb _ _ _ ((hhD sb).trans hs7) (by decide) (by omega)
    have hn9 := hM9 nb _ _ _ ((hhD nb).trans hn7) (by decide) (by omega)
    have hKD : KeepsOthers w7 Wd := ⟨Nat.le_of_eq hsD, fun k o ho _ => (hhD k).trans ho⟩
    exact ⟨rfl, hK7.trans ((hKD.trans hK9).from _), ⟨⟨hs9.trans hsW.symm, hn9.trans hnbW.symm⟩, hB67.trans ((hD.mono hB7.size).trans hB9)⟩,
      ⟨vb7, (hvb7.far hD).moved (fun k cs t f ho h1 h2 => hM9 k cs t f ho h1 (fun e => by subst e; rw [hfD] at ho; cases ho; exact h2 rfl))⟩,
      hM9 pb _ _ _ ((hhD pb).trans hp7) (by decide) (by omega), ⟨_, hf9, by rw [HFS.out, HX.out]; exact hS9⟩, hBD.trans hB9, Nat.le_trans hn17 (Nat.le_trans (Nat.le_of_eq hsD) hK9.size), hs9, hn9⟩
  case hdone =>
    rintro D xs W hD hxs ⟨⟨vb, hvb⟩, hpbW, ⟨vf, hfbW, hvf⟩, hBW, hnW, _, _⟩ hK
    rw [hxs] at hvb hvf
    clear hxs
    obtain ⟨n2, hn2⟩ : ∃ n2, W.heap.size = n2 := ⟨_, rfl⟩
    have hkl : (l0.map (·.f0)).length = l0.length := List.length_map _
    rw [ha0]
    gi_wp2
    gi_loopw [11, 82] (fun v11 v82 wr => ∃ i : Nat, v82 = .int .i64 (i : Int) ∧ i ≤ l0.length ∧ SRow wr n2 v11 ((l0.map (·.f0)).take i) ∧ Below n2 W wr) (fun v11 v82 wr => l0.length - (intOf v82).toNat)
    case atStart => exact ⟨0, rfl, Nat.zero_le _, World.ownsRow_nil _ _ _ _, Below.refl _ _⟩
    case round =>
      obtain ⟨i, rfl, hin, hS, hBr⟩ := hrel
      by_cases hlt : i < l0.length
      · have hltz : (i : Int) < (l0.length : Int) := by omega
        have hBr2 : Below w.heap.size w wr := hBW.trans (hBr.mono (by rw [← hn2]; exact hBW.size))
        obtain ⟨ad, hA, hy0, hy1, hy2, hy3⟩ := at_T36 (Kd.C_below hr0 hBr2) (i : Int) (by omega) (by omega)
        rw [rd_gt] at hy0 hy1 hy2 hy3
        rw [Int.toNat_natCast] at hy0 hy1 hy2 hy3
        have hxi : (l0.map (·.f0)).take (i + 1) = (l0.map (·.f0)).take i ++ [(gt l0 i).f0] := by
          rw [List.take_add_one, List.getElem?_map, List.getElem?_eq_getElem hlt]
          congr 1
          rw [gt_get hlt]; rfl
        generalize gt l0 i = x at hy0 hy1 hy2 hy3 hxi
        have HXI := Aside0.mk hxi
        obtain ⟨ks, hks⟩ : ∃ ks, (l0.map (·.f0)).take i = ks := ⟨_, rfl⟩
        have hkl2 : ks.length = i := by rw [← hks, List.length_take, hkl]; omega
        rw [hks] at hS
        have HKS := Aside0.mk hks
        have hr0' := Aside0.mk hr0
        clear hxi hks hr0
        subst hA
        gi_upto_region 18 with (fail)
        have hBa : Below wr.heap.size wr (wr.alloc (.cells #[.string x.f0, .int .i64 x.f1, .bool x.f2, .string x.f3] 36)) := below_alloc (Below.refl _ _) _
        have hS18 := hS.below hBa
        have hB18 := hBr.trans (hBa.mono (by rw [← hn2]; exact hBr.size))
        obtain ⟨⟨ec0, _, _, _⟩, _⟩ := Zk4 (Aside0.mk (heap_alloc_new wr (.cells #[.string x.f0, .int .i64 x.f1, .bool x.f2, .string x.f3] 36)))
        obtain ⟨eb, heb⟩ : ∃ eb, wr.heap.size = eb := ⟨_, rfl⟩
        rw [heb] at ec0 ⊢
        generalize wr.alloc (.cells #[.string x.f0, .int .i64 x.f1, .bool x.f2, .string x.f3] 36) = w18 at ec0 hS18 hB18 ⊢
        clear hy0 hy1 hy2 hy3 hBa hS hBr hBr2
        obtain ⟨i0, hi, iz0, iz1, iz2⟩ := info_parts infoS_
        gi_wp2_with (gi_at_builtin; refine wpListIn_append_own _ rfl _ _ 52 rfl n2 9 i0 _ 1 16 Try.underlying52 hi iz0 iz1 iz2 rfl (by decide) _ _ _ rfl (hS18.alloc _) ⟨w18.heap.size, 0, none⟩ 1 1 [.string x.f0] rfl rfl (cells_newS _ _) (by simp [Value.oneCell']) (by unfold maxLen; omega) (by omega) (by rw [World.size_alloc]; have := hB18.size; omega) ?_; intro v' w19 hown' hgrow _)
        go_roundw
        case rel =>
          refine ⟨i + 1, by go_num, by omega, ?_, ?_⟩
          · rw [HXI.out, HKS.out]; unfold SRow; rw [List.map_append, List.length_append]; exact hown'
          · exact (hB18.alloc (by rw [← hn2]; exact hB18.size) _).grown hgrow (by rw [World.size_alloc, ← hn2]; have := hB18.size; omega) (fun k hk => (hS18.block hk).1)
        case measure => simp [intOf]; omega
      · have hltz : ¬ (i : Int) < (l0.length : Int) := by omega
        obtain rfl : i = l0.length := by omega
        rw [← hkl, List.take_length] at hS
        have hw2r := hBW.size
        have hfb1 := (Array.getElem?_eq_some_iff.1 hfbW).1
        have hpb1 := (Array.getElem?_eq_some_iff.1 hpbW).1
        have hK1 := (Array.getElem?_eq_some_iff.1 hK).1
        have hBr' : Below W.heap.size W wr := by rw [hn2]; exact hBr
        have hfr := (hBr'.block fb hfb1).trans hfbW
        obtain ⟨Af, cf, hvfe, hcf, hCf⟩ := (hvf.below hBr').reads
        subst hvfe
        obtain ⟨fcr, ffr⟩ := Zk1 (Aside0.mk hfr)
        obtain ⟨fs, hfs⟩ : ∃ fs, firstsF (chsF l0.length m l0) = fs := ⟨_, rfl⟩
        obtain ⟨ks, hks⟩ : ∃ ks, keysF l0 = ks := ⟨_, rfl⟩
        obtain ⟨⟨r1, r2⟩, hr12⟩ : ∃ r, rowS fs = r := ⟨_, rfl⟩
        obtain ⟨⟨f1, f2⟩, hf12⟩ : ∃ r, makeR ks (b : Int) = r := ⟨_, rfl⟩
        have hmk := filt_eq l0 hs (b : Int)
        rw [hks, hf12] at hmk
        have hrw := row_eq fs
        rw [hr12] at hrw
        rw [hfs] at hcf hCf fcr
        have hRow := pack_Row.calls Af cf fs r1 r2 wr hCf hcf hrw
        have hComp0 : ∀ W2, Below wr.heap.size wr W2 → Calls Try.prog 28 #[u11] W2 fun e w' => ∃ v', e = .returned v' ∧ SRow w' n2 v' ks ∧ Below n2 W2 w' := fun W2 h2 => by
          rw [← hks]
          exact compact_calls u11 (l0.map (·.f0)) n2 W2 (hS.below h2) (by rw [hkl]; omega)
        have HFS := Aside0.mk hfs; have HKS := Aside0.mk hks; have HR12 := Aside0.mk hr12; have HF12 := Aside0.mk hf12
        clear hfs hks hr12 hf12
        gi_upto_region 22 with (first | (refine ⟨trivial, ?_⟩; gi_at_call 26; refine (callsIn_wide.2 hRow).mono ?_; clear hRow; rintro e w20 ⟨rfl, hb20⟩; have hComp := hComp0 w20 hb20) | (refine ⟨trivial, ?_⟩; gi_at_call 28; refine (callsIn_wide.2 hComp).mono ?_; clear hComp; rintro e w21 ⟨vk, rfl, hSk, hb21⟩; obtain ⟨Ak, ck, hvk, hck, hCk⟩ := hSk.reads; subst hvk; have hMake := bloom_Make.calls Ak ck ks (b : Int) f1 f2 w21 hCk hck hmk) | (refine ⟨trivial, ?_⟩; gi_at_call 27; refine (callsIn_wide.2 hMake).mono ?_; clear hMake; rintro e w22 ⟨rfl, hb22⟩))
        have hB22 : Below W.heap.size W w22 := ((hBr'.trans (hb20.mono hBr'.size)).trans (by rw [hn2]; exact hb21)).trans (hb22.mono (Nat.le_trans hBr'.size (Nat.le_trans hb20.size hb21.size)))
        have hrz : r1.size ≤ 1048576 := by have := rowS_size fs; rw [HR12.out] at this; exact this
        have hfz : f1.size ≤ 10000 := by have := makeR_size ks (b : Int); rw [HF12.out] at this; exact this
        have hp22 := (hB22.block pb hpb1).trans hpbW
        have hK22 := (hB22.block D hK1).trans hK
        have hvb22 := hvb.far hB22
        have hBw22 : Below w.heap.size w w22 := hBW.trans (hB22.mono hw2r)
        have hal := accB_len (chsF l0.length m l0)
        have hcl := chs_len m hm1 l0.length l0
        have hfsz := putB_len r1
        have hffz := putB_len f1
        obtain ⟨acc, hacc⟩ : ∃ acc, accB (chsF l0.length m l0) = acc := ⟨_, rfl⟩
        rw [hacc] at hvb22 hal
        have HACC := Aside0.mk hacc
        clear hacc hb20 hb21 hb22 hSk hCk hck hmk hrw hCf hcf hvf hS hfr hfbW hvb hpbW hK fcr ffr hComp0
        obtain ⟨pc22, pf22⟩ := Zk1 (Aside0.mk hp22)
        gi_upto_region 23 with (refine ⟨trivial, ?_⟩; gi_at_call 22; refine (callsIn_wide.2 (put2_calls r1 w.heap.size bb vb acc _ (by omega) hvb22 (by omega))).mono ?_; rintro e w23 ⟨rfl, vb23, hvb23, hk23⟩; clear pc22 pf22)
        have hp23 := hvb22.other hk23 hp22 (by decide) (by decide)
        have hK23 := (hvb22.keepsFrom hk23 0).same D _ (Nat.zero_le _) hK22 rfl
        have hB23 := hvb22.below hk23 hBw22
        clear hvb22 hk23 hp22 hK22 hBw22
        obtain ⟨pc23, pf23⟩ := Zk1 (Aside0.mk hp23)
        gi_upto_region 24 with (refine ⟨trivial, ?_⟩; gi_at_call 22; refine (callsIn_wide.2 (put2_calls f1 w.heap.size bb vb23 (acc ++ putB r1) _ (by omega) hvb23 (by rw [List.length_append]; omega))).mono ?_; rintro e w24 ⟨rfl, vb24, hvb24, hk24⟩; clear pc23 pf23)
        have hp24 := hvb23.other hk24 hp23 (by decide) (by decide)
        have hK24 := (hvb23.keepsFrom hk24 0).same D _ (Nat.zero_le _) hK23 rfl
        have hB24 := hvb23.below hk24 hB23
        clear hvb23 hk24 hp23 hK23 hB23
        obtain ⟨pc24, pf24⟩ := Zk1 (Aside0.mk hp24)
        have hcv := conv_new3 w24 (m : Int) (b : Int) 84
        have hba : Below w24.heap.size w24 (w24.alloc (.cells #[.int .u8 (m : Int), .int .u8 (b : Int), .int .u8 84] 5)) := below_alloc (Below.refl _ _) _
        have hvb25 := hvb24.far hba
        have hB25 := hB24.trans (hba.mono hB24.size)
        have hp25 := (hba.block pb (Array.getElem?_eq_some_iff.1 hp24).1).trans hp24
        have hK25 := (hba.block D (Array.getElem?_eq_some_iff.1 hK24).1).trans hK24
        obtain ⟨w25, hw25⟩ : ∃ w25, w24.alloc (.cells #[.int .u8 (m : Int), .int .u8 (b : Int), .int .u8 84] 5) = w25 := ⟨_, rfl⟩
        rw [hw25] at hcv hvb25 hB25 hp25 hK25
        have hmb : (strOfNums [(m : Int), (b : Int), 84]).size ≤ 140737488351232 := by rw [size_strOfNums]; simp
        gi_upto_region 25 with (first | (refine ⟨trivial, ?_⟩; gi_at_call 22; refine (callsIn_wide.2 (put2_calls (strOfNums [(m : Int), (b : Int), 84]) w.heap.size bb vb24 (acc ++ putB r1 ++ putB f1) _ hmb hvb25 (by rw [List.length_append, List.length_append]; omega))).mono ?_; rintro e w26 ⟨rfl, vb26, hvb26, hk26⟩))
        have hK26 := (hvb25.keepsFrom hk26 0).same D _ (Nat.zero_le _) hK25 rfl
        have hB26 := hvb25.below hk26 hB25
        obtain ⟨Ab, cb, hve⟩ := hvb26.shape
        subst hve
        have hcv2 := conv_row hvb26.row
        obtain ⟨bc26, bf26⟩ := Zk1 (Aside0.mk hvb26.box)
        have hbl : strOfNums (acc ++ putB r1 ++ putB f1 ++ putB (strOfNums [(m : Int), (b : Int), 84])) = strOfNums (buildL l0 m b) := by
          unfold buildL
          rw [HACC.out, HFS.out, HKS.out, HR12.out, HF12.out]
        have HBL := Aside0.mk hbl
        clear hvb26 hvb25 hk26 hbl hB25 hp25 hK25 hcv hw25
        generalize acc ++ putB r1 ++ putB f1 ++ putB (strOfNums [(m : Int), (b : Int), 84]) = out at bc26 hcv2 HBL
        gi_wp2
        refine ⟨by simp, .inl ⟨_, _, rfl, run_takeDeferred hK26, ?_⟩⟩
        refine ⟨_, results_tmp2 rfl _ _ _, ?_, hB26.trans (belowP w26 D _ ?_)⟩
        · rw [HBL.out]; rfl
        · omega
end Go.Proofs.Ytbdkfmhkgeoeaaa.Print

namespace Go.Proofs.Ytbdkfmhkgeoeaaa.Print
open Go.Sort Go.RowKit Go.Shelf Go.Proofs.YtbdkfmhkgeoeaaaW.PrintWords Go.Proofs.YtbdkfmhkgeoeaaaW.PrintLast Go.Proofs.YtbdkfmhkgeoeaaaW.PrintMore Go.Proofs.YtbdkfmhkgeoeaaaX
set_option linter.unusedVariables false
set_option linter.unusedSimpArgs false
attribute [local go_sem] Oper.semAt_some

/-! ## table.Build: what is refused -/
set_option maxHeartbeats 4000000 in
set_option maxRecDepth 100000 in
theorem build_arg (A0 : Option Addr) (c0 n : Nat) (many bits : Int) (w : World) (h : many < 1 ∨ 50 < many ∨ bits < 1 ∨ 20 < bits) :
    Calls Try.prog 9 #[.slice A0 n c0, .int .i64 many, .int .i64 bits] w fun e w' => e = .returned (.tuple #[.string (⟨#[]⟩ : ByteArray), errW (some 1)]) ∧ Below w.heap.size w w' := by
  have hu25 := Try.underlying25
  have hu48 := Try.underlying48
  have HB := Aside0.mk (Below.refl w.heap.size w)
  by_cases h1 : many < 1
  · clear h
    go_enter Try.func9, Try.ntmps9
    go_wp2
    all_goals (refine bodyPost_ret (results_tmp2 rfl _ _ _) rfl ?_; exact ⟨rfl, HB.out⟩)
  by_cases h2 : 50 < many
  · clear h
    go_enter Try.func9, Try.ntmps9
    go_wp2
    all_goals (refine bodyPost_ret (results_tmp2 rfl _ _ _) rfl ?_; exact ⟨rfl, HB.out⟩)
  by_cases h3 : bits < 1
  · clear h
    go_enter Try.func9, Try.ntmps9
    go_wp2
    all_goals (refine bodyPost_ret (results_tmp2 rfl _ _ _) rfl ?_; exact ⟨rfl, HB.out⟩)
  by_cases h4 : 20 < bits
  · clear h
    go_enter Try.func9, Try.ntmps9
    go_wp2
    all_goals (refine bodyPost_ret (results_tmp2 rfl _ _ _) rfl ?_; exact ⟨rfl, HB.out⟩)
  omega
set_option maxHeartbeats 4000000 in
set_option maxRecDepth 100000 in
theorem build_bad (A0 : Option Addr) (c0 : Nat) (l0 : List S36) (many bits : Int) (w : World) (hr0 : Kd.C k36 w A0 l0.length l0) (hc0 : l0.length ≤ c0) (hm1 : 1 ≤ many) (hm2 : many ≤ 50) (hb1 : 1 ≤ bits) (hb2 : bits ≤ 20) (hl : l0.length ≤ 1000) (h : l0.length = 0 ∨ sortedB l0 = false) :
    Calls Try.prog 9 #[.slice A0 l0.length c0, .int .i64 many, .int .i64 bits] w fun e w' => e = .returned (.tuple #[.string (⟨#[]⟩ : ByteArray), errW (some 1)]) ∧ Below w.heap.size w w' := by
  have hu25 := Try.underlying25
  have hu48 := Try.underlying48
  have HB := Aside0.mk (Below.refl w.heap.size w)
  have hm1' : ¬ many < 1 := by omega
  have hm2' : ¬ 50 < many := by omega
  have hb1' : ¬ bits < 1 := by omega
  have hb2' : ¬ 20 < bits := by omega
  clear hm1 hm2 hb1 hb2
  by_cases h1 : l0.length = 0
  · rw [h1]
    clear h h1 hr0
    go_enter Try.func9, Try.ntmps9
    go_wp2
    all_goals (refine bodyPost_ret (results_tmp2 rfl _ _ _) rfl ?_; exact ⟨rfl, HB.out⟩)
  · have hs : sortedB l0 = false := h.resolve_left h1
    have h1z : ¬ (l0.length : Int) = 0 := by omega
    have hS : Calls Try.prog 21 #[.slice A0 l0.length c0] w _ := block_Sorted.calls 2000 A0 c0 l0 false w hr0 hc0 (by rw [sorted_big l0 (by omega) 2000 (by omega), hs])
    clear h h1 hs
    go_enter Try.func9, Try.ntmps9
    go_wp2_with (first | (go_at_call 21; refine hS.mono ?_; rintro e w1 ⟨rfl, hb⟩; have n0_ := Aside0.mk (Yv HB hb); clear HB hb; have HB := n0_; clear n0_))
    all_goals (refine bodyPost_ret (results_tmp2 rfl _ _ _) rfl ?_; exact ⟨rfl, HB.out⟩)
end Go.Proofs.Ytbdkfmhkgeoeaaa.Print

namespace Go.Proofs.Ytbdkfmhkgeoeaaa.Print
open Go.RowKit Go.Proofs.YtbdkfmhkgeoeaaaW.PrintWords Go.Proofs.YtbdkfmhkgeoeaaaW.PrintLast Go.Proofs.YtbdkfmhkgeoeaaaW.PrintMore Go.Proofs.YtbdkfmhkgeoeaaaX
set_option linter.unusedVariables false
set_option linter.unusedSimpArgs false

/-! ## table.Build, in all -/
def buildR (l : List Ent) (many bits : Int) : ByteArray × Option Int :=
  if many < 1 ∨ 50 < many ∨ bits < 1 ∨ 20 < bits then (⟨#[]⟩, some 1) else if l.length = 0 ∨ sortedB l = false then (⟨#[]⟩, some 1) else (strOfNums (buildL l many.toNat bits.toNat), none)
theorem build_calls (A0 : Option Addr) (c0 : Nat) (l0 : List S36) (many bits : Int) (w : World) (hr0 : Kd.C k36 w A0 l0.length l0) (hc0 : l0.length ≤ c0) (hl : l0.length ≤ 400) :
    Calls Try.prog 9 #[.slice A0 l0.length c0, .int .i64 many, .int .i64 bits] w fun e w' => e = .returned (.tuple #[.string (buildR l0 many bits).1, errW (buildR l0 many bits).2]) ∧ Below w.heap.size w w' := by
  unfold buildR
  by_cases h1 : many < 1 ∨ 50 < many ∨ bits < 1 ∨ 20 < bits
  · rw [if_pos h1]
    exact build_arg A0 c0 l0.length many bits w h1
  · rw [if_neg h1]
    by_cases h2 : l0.length = 0 ∨ sortedB l0 = false
    · rw [if_pos h2]
      exact build_bad A0 c0 l0 many bits w hr0 hc0 (by omega) (by omega) (by omega) (by omega) (by omega) h2
    · rw [if_neg h2]
      have := build_yes A0 c0 l0 many.toNat bits.toNat w hr0 hc0 (by omega) (by omega) (by omega) (by omega) (by omega) hl (by
        cases hs : sortedB l0 with
        | true => rfl
        | false => exact absurd (.inr hs) h2)
      rw [Int.toNat_of_nonneg (by omega), Int.toNat_of_nonneg (by omega)] at this
      exact this

/-! ## table.parts -/
theorem results_tmp5 {fn : Func} {t u v x y : Tmp} (h : fn.results = #[.tmp t, .tmp u, .tmp v, .tmp x, .tmp y]) (tmps : Array Value) (P : Program) (w : World) :
    (results fn tmps).run P w = .ok (.tuple #[tmps.getD t undef, tmps.getD u undef, tmps.getD v undef, tmps.getD x undef, tmps.getD y undef]) w := by
  simp [results, h]
theorem isErr_calls (a : Option Int) (x : Int) (W : World) : Calls Try.prog 62 #[errW a, errW (some x)] W fun e w' => e = .returned (.bool (a == some x)) ∧ Below W.heap.size W w' := (errors_Is.calls a (some x) (a == some x) W rfl).mono (fun e w' hh => ⟨hh.1, hh.2.below⟩)
set_option maxHeartbeats 4000000 in
set_option maxRecDepth 100000 in
theorem parts_no (b : ByteArray) (k : Nat) (l : List ByteArray) (c : Int) (r : Option Int) (w : World) (hb : b.size ≤ 1048576) (h : frame_All.f k b = some (l, c, r)) (hr : r = some 4 ∨ (r = none ∧ l.length ≤ 3)) :
    Calls Try.prog 34 #[.string b] w fun e w' => e = .returned (.tuple #[.slice none 0 0, .string (⟨#[]⟩ : ByteArray), .int .i64 0, .int .i64 0, .bool false]) ∧ Below w.heap.size w w' := by
  have hu25 := Try.underlying25
  have hu48 := Try.underlying48
  have hbz : ¬ 1048576 < (b.size : Int) := by omega
  rcases hr with rfl | ⟨rfl, hl⟩
  · have hA : Calls Try.prog 61 #[.string b] w fun e w' => ∃ v0_ : Value, e = .returned (.tuple #[v0_, .int .i64 c, .iface 48 (.int .i64 4)]) ∧ Kd.R Kd.string 9 w' w.heap.size (fun _ => True) v0_ l ∧ Below w.heap.size w w' := frame_All.calls k b l c (some 4) w h
    clear h hb
    go_enter Try.func34, Try.ntmps34
    go_wp2_with (first | (go_at_call 61; refine hA.mono ?_; clear hA; rintro e w1 ⟨v0, rfl, hR, hb1⟩; obtain ⟨A, cc, e0, hc, hC⟩ := Kd.R_reads hR; subst e0; have HB := Aside0.mk hb1) | (go_at_call 62; refine (isErr_calls (some 4) 4 _).mono ?_; rintro e w2 ⟨rfl, hb2⟩; have n0 := Aside0.mk (HB.out.trans (hb2.mono HB.out.size)); clear HB hb2; have HB := n0; clear n0))
    refine bodyPost_ret (results_tmp5 rfl _ _ _) rfl ?_
    exact ⟨rfl, HB.out⟩
  · have hA : Calls Try.prog 61 #[.string b] w fun e w' => ∃ v0_ : Value, e = .returned (.tuple #[v0_, .int .i64 c, .nilIface]) ∧ Kd.R Kd.string 9 w' w.heap.size (fun _ => True) v0_ l ∧ Below w.heap.size w w' := frame_All.calls k b l c none w h
    have hlz : (l.length : Int) - 3 < 1 := by omega
    have h4 := fun W => isErr_calls none 4 W
    have h2 := fun W => isErr_calls none 2 W
    clear h hb
    go_enter Try.func34, Try.ntmps34
    go_wp2_with (first | (go_at_call 61; refine hA.mono ?_; clear hA; rintro e w1 ⟨v0, rfl, hR, hb1⟩; obtain ⟨A, cc, e0, hc, hC⟩ := Kd.R_reads hR; subst e0; have HB := Aside0.mk hb1) | (go_at_call 62; first | (refine (h4 _).mono ?_; clear h4; rintro e w2 ⟨rfl, hb2⟩; have n0 := Aside0.mk (HB.out.trans (hb2.mono HB.out.size)); clear HB hb2; have HB := n0; clear n0) | (refine (h2 _).mono ?_; clear h2; rintro e w2 ⟨rfl, hb2⟩; have n0 := Aside0.mk (HB.out.trans (hb2.mono HB.out.size)); clear HB hb2; have HB := n0; clear n0)))
    refine bodyPost_ret (results_tmp5 rfl _ _ _) rfl ?_
    exact ⟨rfl, HB.out⟩
theorem at_S {w : World} {A : Option Addr} {n : Nat} {xs : List ByteArray} (h : Kd.C Kd.string w A n xs) (i : Nat) (h1 : i < n) : ∃ ad, A = some ad ∧ w.cell? (ad.add i) = some (.string (gS xs i)) := by
  obtain ⟨ad, c, e, _, hK, hc0⟩ := Kd.C_get h ByteArray.empty (i : Int) (by omega) (by omega)
  have hc : ∀ j u, c[j]? = some u → w.cell? (ad.add ((i : Int).toNat * 1 + j)) = some u := hc0
  rw [Int.toNat_natCast] at hK hc
  obtain rfl : c = [.string (gS xs i)] := hK
  exact ⟨ad, e, by have hq := hc 0 _ rfl; rwa [Nat.mul_one, Nat.add_zero] at hq⟩
set_option maxHeartbeats 4000000 in
set_option maxRecDepth 100000 in
theorem parts_ok (b : ByteArray) (k : Nat) (l : List ByteArray) (n : Nat) (c : Int) (m q : Int) (w : World) (hb : b.size ≤ 1048576) (h : frame_All.f k b = some (l, c, none)) (hl : l.length = n + 3) (hn : 1 ≤ n) (hn2 : n ≤ 1000)
    (h3 : (gS l (n + 2)).size = 3) (hm : bt (gS l (n + 2)) 0 = m) (hq : bt (gS l (n + 2)) 1 = q) (hf : bt (gS l (n + 2)) 2 = 84) :
    Calls Try.prog 34 #[.string b] w fun e w' => ∃ A cc, e = .returned (.tuple #[.slice A n cc, .string (gS l (n + 1)), .int .i64 m, .int .i64 q, .bool true]) ∧ n ≤ cc ∧ Kd.C Kd.string w' A n (l.take n) ∧ Below w.heap.size w w' := by
  have hu25 := Try.underlying25
  have hu48 := Try.underlying48
  have hbz : ¬ 1048576 < (b.size : Int) := by omega
  have hA : Calls Try.prog 61 #[.string b] w fun e w' => ∃ v0_ : Value, e = .returned (.tuple #[v0_, .int .i64 c, .nilIface]) ∧ Kd.R Kd.string 9 w' w.heap.size (fun _ => True) v0_ l ∧ Below w.heap.size w w' := frame_All.calls k b l c none w h
  have hnz : ¬ (n : Int) < 1 := by omega
  have h4 := fun W => isErr_calls none 4 W
  have h2 := fun W => isErr_calls none 2 W
  have hl3 : ((n + 3 : Nat) : Int) - 3 = (n : Int) := by omega
  obtain ⟨j1, hj1⟩ : ∃ j, n + 1 = j := ⟨_, rfl⟩
  obtain ⟨j2, hj2⟩ : ∃ j, n + 2 = j := ⟨_, rfl⟩
  have hz1 : (n : Int) + 1 = (j1 : Int) := by omega
  have hz2 : (n : Int) + 2 = (j2 : Int) := by omega
  have hb1 : (j1 : Int) < (n : Int) + 3 := by omega
  have hb2 : (j2 : Int) < (n : Int) + 3 := by omega
  rw [hj1] 
  rw [hj2] at h3 hm hq hf
  have HJ : j1 < n + 3 ∧ j2 < n + 3 := by omega
  have HJ1 := Aside0.mk HJ
  clear hj1 hj2 HJ
  obtain ⟨s1, hs1⟩ : ∃ s1, gS l j1 = s1 := ⟨_, rfl⟩
  obtain ⟨s2, hs2⟩ : ∃ s2, gS l j2 = s2 := ⟨_, rfl⟩
  rw [hs1]
  rw [hs2] at h3 hm hq hf
  have HS1 := Aside0.mk hs1; have HS2 := Aside0.mk hs2
  have h3z : (s2.size : Int) = 3 := by omega
  have hm0 := bt_range s2 0
  have hq0 := bt_range s2 1
  rw [hm] at hm0
  rw [hq] at hq0
  have g0 : ((s2[0]'(by omega)).toNat : Int) = m := by rw [← hm]; exact bt_at s2 0 (by simp; omega)
  have g1 : ((s2[1]'(by omega)).toNat : Int) = q := by rw [← hq]; exact bt_at s2 1 (by simp; omega)
  have g2 : ((s2[2]'(by omega)).toNat : Int) = 84 := by rw [← hf]; exact bt_at s2 2 (by simp; omega)
  clear h hb hs1 hs2 hm hq hf
  go_enter Try.func34, Try.ntmps34
  go_wp2_with (first | (go_at_call 61; refine hA.mono ?_; clear hA; rintro e w1 ⟨v0, rfl, hR, hb1⟩; obtain ⟨A, cc, e0, hc, hC⟩ := Kd.R_reads hR; subst e0; rw [hl] at hC hc ⊢; have HB := Aside0.mk hb1) | (go_at_call 62; first | (refine (h4 _).mono ?_; clear h4; rintro e w2 ⟨rfl, hb2⟩; have n0 := Aside0.mk (HB.out.trans (hb2.mono HB.out.size)); clear HB; have HB := n0; clear n0; have hC2 := Kd.C_below hC hb2; clear hC hb2) | (refine (h2 _).mono ?_; clear h2; rintro e w3 ⟨rfl, hb3⟩; have n0 := Aside0.mk (HB.out.trans (hb3.mono HB.out.size)); clear HB; have HB := n0; clear n0; have hC3 := Kd.C_below hC2 hb3; clear hC2 hb3; obtain ⟨ad, ea, x1⟩ := at_S hC3 j1 HJ1.out.1; obtain ⟨ad', ea', x2⟩ := at_S hC3 j2 HJ1.out.2; rw [ea] at ea'; obtain rfl := Option.some.inj ea'; clear ea'; subst ea; rw [HS1.out] at x1; rw [HS2.out] at x2)))
  refine wp_region_quiet_lit (by kernel_rfl) (by kernel_rfl) ?_
  repeat (go_big_quiet_step (fail))
  refine wpQuiet_nil ?_
  rintro w4 ⟨nq, hw4⟩
  have hB4 : Below w.heap.size w w4 := hw4 ▸ pw_below_drewN HB.out nq
  have hC4 := Kd.C_below hC3 (show Below w3.heap.size w3 w4 from hw4 ▸ pw_below_drewN (Below.refl _ _) nq)
  have hC5 := Kd.C_take (m := n) (hl ▸ hC4) (by omega)
  have HC5 := Aside0.mk hC5
  have HB4 := Aside0.mk hB4
  have HWM := Aside0.mk (show wrap64 m = m by unfold wrap64; omega)
  have HWQ := Aside0.mk (show wrap64 q = q by unfold wrap64; omega)
  clear hw4 hC4 hC5 hB4 hC3 x1 x2
  go_wp2
  refine bodyPost_ret (results_tmp5 rfl _ _ _) rfl ?_
  refine ⟨some ad, cc, ?_, by omega, ?_, HB4.out⟩
  · rw [← HWM.out, ← HWQ.out]; rfl
  · have := HC5.out; rwa [List.length_take, hl, Nat.min_eq_left (by omega)] at this
end Go.Proofs.Ytbdkfmhkgeoeaaa.Print

namespace Go.Proofs.Ytbdkfmhkgeoeaaa.Print
open Go.RowKit Go.Proofs.YtbdkfmhkgeoeaaaW.PrintWords Go.Proofs.YtbdkfmhkgeoeaaaW.PrintLast Go.Proofs.YtbdkfmhkgeoeaaaW.PrintMore Go.Proofs.YtbdkfmhkgeoeaaaX
set_option linter.unusedVariables false
set_option linter.unusedSimpArgs false

theorem infoL_ : (Try.prog.info? 22).map (fun i => (i.zero, i.size, i.bytes)) = some (some (.slice none 0 0), 1, 24) := by kernel_rfl
/-! ## table.Open -/
/-- A table in the heap: its blocks, its filter. -/
def TB (W : World) (tb : Nat) (cs : List (List Ent)) (fl : ByteArray) : Prop := ∃ A c, W.heap[tb]? = some (.cells #[.slice A cs.length c, .string fl] 70 (0, 0)) ∧ cs.length ≤ c ∧ Kd.C (Kd.slice 36 k36) W A cs.length cs
theorem TB.below {W W' : World} {tb : Nat} {cs : List (List Ent)} {fl : ByteArray} (h : TB W tb cs fl) (hb : Below W.heap.size W W') : TB W' tb cs fl := by
  obtain ⟨A, c, h1, h2, h3⟩ := h
  exact ⟨A, c, (hb.block tb (Array.getElem?_eq_some_iff.1 h1).1).trans h1, h2, Kd.C_below h3 hb⟩
set_option maxHeartbeats 4000000 in
set_option maxRecDepth 100000 in
theorem open_no (b : ByteArray) (w : World) (hP : Calls Try.prog 34 #[.string b] w fun e w' => e = .returned (.tuple #[.slice none 0 0, .string (⟨#[]⟩ : ByteArray), .int .i64 0, .int .i64 0, .bool false]) ∧ Below w.heap.size w w') :
    Calls Try.prog 12 #[.string b] w fun e w' => e = .returned (.tuple #[.pointer none, errW (some 3)]) ∧ Below w.heap.size w w' := by
  have hu25 := Try.underlying25
  have hu48 := Try.underlying48
  go_enter Try.func12, Try.ntmps12
  go_wp2_with (first | (go_at_call 34; refine hP.mono ?_; clear hP; rintro e w1 ⟨rfl, hb1⟩))
  go_ret2
  exact ⟨rfl, hb1⟩
theorem dec_calls (c : List Ent) (W : World) (hs : sortedB c = true) (hl : c.length ≤ 200) : Calls Try.prog 35 #[.string (encS c)] W fun e w' => ∃ v_ : Value, e = .returned (.tuple #[v_, .nilIface]) ∧ Kd.R k36 36 w' W.heap.size (fun _ => True) v_ c ∧ Below W.heap.size W w' := by
  have h1 : encS c = strOfNums (encL c) := by unfold encS encR; rw [if_neg (by omega), if_pos hs]
  rw [h1]
  exact block_Decode.calls _ c none W (by rw [decode_eq, decode_back c hs hl])
set_option maxHeartbeats 4000000 in
set_option maxRecDepth 100000 in
theorem open_yes (b : ByteArray) (cs : List (List Ent)) (fl : ByteArray) (m q : Int) (w : World)
    (hP : Calls Try.prog 34 #[.string b] w fun e w' => ∃ A cc, e = .returned (.tuple #[.slice A cs.length cc, .string fl, .int .i64 m, .int .i64 q, .bool true]) ∧ cs.length ≤ cc ∧ Kd.C Kd.string w' A cs.length (cs.map encS) ∧ Below w.heap.size w w')
    (hcs : ∀ c ∈ cs, sortedB c = true ∧ 0 < c.length ∧ c.length ≤ 50) (hn : cs.length ≤ 400) (hl : cs.flatten.length ≤ 400) (hB : buildR cs.flatten m q = (b, none)) :
    Calls Try.prog 12 #[.string b] w fun e w' => ∃ tb, e = .returned (.tuple #[.pointer (some ⟨tb, 0, none⟩), .nilIface]) ∧ w.heap.size ≤ tb ∧ TB w' tb cs fl ∧ Below w.heap.size w w' := by
  have hu25 := Try.underlying25
  have hu48 := Try.underlying48
  go_enter Try.func12, Try.ntmps12
  go_upto_region 4 with (first | (go_at_call 34; refine hP.mono ?_; clear hP; rintro e w1 ⟨A, cc, rfl, hcc, hC1, hb1⟩))
  have t2 := heap_alloc_new w1 (.cells #[.slice none 0 0, .string fl] 70)
  have hBa : Below w1.heap.size w1 (w1.alloc (.cells #[.slice none 0 0, .string fl] 70)) := below_alloc (Below.refl _ _) _
  have hC2 := Kd.C_below hC1 hBa
  have hB2 := hb1.trans (hBa.mono hb1.size)
  obtain ⟨tb, htb⟩ : ∃ tb, w1.heap.size = tb := ⟨_, rfl⟩
  have htw : w.heap.size ≤ tb := by rw [← htb]; exact hb1.size
  rw [htb] at t2
  obtain ⟨w2, hw2⟩ : ∃ w2, w1.alloc (.cells #[.slice none 0 0, .string fl] 70) = w2 := ⟨_, rfl⟩
  rw [hw2] at t2 hC2 hB2
  have hCF : ∀ W', KeepBut w2 W' tb none → Kd.C Kd.string W' A cs.length (cs.map encS) := Kd.C_foot_ne (fun h => h) hC2 (fun ad e hp => by
    subst e
    have := Kd.C_lt hC1 hp (by decide)
    omega)
  have s2 : w2.heap.size = tb + 1 := by rw [← hw2, World.size_alloc, htb]
  obtain ⟨n2, hn2⟩ : ∃ n2, w2.heap.size = n2 := ⟨_, rfl⟩
  have htn : tb < n2 ∧ w.heap.size ≤ n2 := by omega
  clear hBa hC1 hb1 hC2 s2
  go_wp2
  clear hw2 htb
  go_loopg [10, 33] cs.length (fun gg v10 v33 wr => ∃ (i : Nat) (vb : Value), i ≤ cs.length ∧ cs.length - i ≤ gg ∧ v33 = .int .i64 (i : Int) ∧ wr.heap[tb]? = some (.cells #[vb, .string fl] 70 (0, 0)) ∧ Kd.R (Kd.slice 36 k36) 22 wr n2 (fun k => True ∧ some k ≠ v10.ownBlock) vb (cs.take i) ∧ Kd.R k36 36 wr n2 (fun _ => True) v10 (cs.take i).flatten ∧ KeepBut w2 wr tb none ∧ Below w.heap.size w wr)
  case atStart => exact ⟨0, .slice none 0 0, Nat.zero_le _, Nat.le_refl _, rfl, t2, Kd.R_nil _ _ _ _ _, Kd.R_nil _ _ _ _ _, KeepBut.refl _ _ _, hB2⟩
  case round =>
    clear t2 hB2
    obtain ⟨i, vb, hin, hig, rfl, ht, hRb, hRa, hKB, hBr⟩ := hrel
    have hnr : n2 ≤ wr.heap.size := by have := hKB.1; omega
    by_cases hlt : i < cs.length
    · have hltz : (i : Int) < (cs.length : Int) := by omega
      obtain ⟨ad, ea, x1⟩ := at_S (hCF wr hKB) i hlt
      have hg : gS (cs.map encS) i = encS cs[i] := by
        show (cs.map encS).getD i _ = _
        rw [List.getD_eq_getElem?_getD, List.getElem?_map, List.getElem?_eq_getElem hlt]; rfl
      rw [hg] at x1
      obtain ⟨h1, h2, h3⟩ := hcs cs[i] (List.getElem_mem _)
      have hft := flat_take cs i hlt
      have htk : cs.take (i + 1) = cs.take i ++ [cs[i]] := by rw [List.take_add_one, List.getElem?_eq_getElem hlt]; rfl
      have hfl := flat_len cs (i + 1)
      have hD := dec_calls cs[i] wr h1 (by omega)
      rw [hft, List.length_append] at hfl
      have HFT := Aside0.mk hft; have HTK := Aside0.mk htk
      clear hg hft htk
      generalize cs[i] = c at x1 h1 h2 h3 hD hfl HFT HTK
      obtain ⟨sE, hsE⟩ : ∃ s, encS c = s := ⟨_, rfl⟩
      rw [hsE] at x1 hD
      subst ea
      have hcz : ¬ c.length = 0 := by omega
      go_upto_region 12 with (first | (go_at_call 35; refine hD.mono ?_; clear hD; rintro e w5 ⟨v5, rfl, hR5, hb5⟩; obtain ⟨A5, c5, e5, hc5, hC5⟩ := Kd.R_reads hR5; subst e5))
      have ht5 := (hb5.block tb (Array.getElem?_eq_some_iff.1 ht).1).trans ht
      have hRb5 := Kd.R_below hRb hb5
      have hRa5 := Kd.R_below hRa hb5
      have hK5 : KeepBut w2 w5 tb none := hKB.trans (KeepBut.of_below hb5 tb none) (.inl rfl)
      have hB5 := hBr.trans (hb5.mono hBr.size)
      have hn5 : n2 ≤ w5.heap.size := Nat.le_trans hnr hb5.size
      have hlb : (cs.take i).length = i := by rw [List.length_take]; omega
      obtain ⟨Ab, cb, hvb⟩ := Kd.R_slice hRb5
      rw [hlb] at hvb
      subst hvb
      have hltA : ∀ k, u10.ownBlock = some k → k < wr.heap.size := Kd.R_lt hRa
      have hltB : ∀ k, (Value.slice Ab i cb).ownBlock = some k → k < wr.heap.size := Kd.R_lt hRb
      have hge5 : ∀ k, (Value.slice A5 c.length c5).ownBlock = some k → wr.heap.size ≤ k := fun k hk => by obtain ⟨_, ho⟩ := Kd.R_own hR5; exact own_base ho k hk
      have hp : (Kd.slice 36 k36).M w5 n2 (fun k => some k = (Value.slice A5 c.length c5).ownBlock) c [.slice A5 c.length c5] := ⟨_, rfl, Kd.R_lower (Kd.R_tight rfl hR5) hnr⟩
      have hokp : ∀ k, some k = (Value.slice A5 c.length c5).ownBlock → (True ∧ some k ≠ u10.ownBlock) ∧ some k ≠ (Value.slice Ab i cb).ownBlock := fun k hk => by
        have h0 := hge5 k hk.symm
        refine ⟨⟨trivial, fun e => ?_⟩, fun e => ?_⟩
        · have := hltA k e.symm; omega
        · have := hltB k e.symm; omega
      have hfr : ∀ k, w5.heap.size ≤ k → (True ∧ some k ≠ u10.ownBlock) := fun k hk => ⟨trivial, fun e => by have := hltA k e.symm; have := hb5.size; omega⟩
      have hneT : some tb ≠ (Value.slice Ab i cb).ownBlock := Kd.R_ne hRb5 ht5 (by decide)
      have hneA : ∀ k, (Value.slice Ab i cb).ownBlock = some k → some k ≠ u10.ownBlock := fun k hk => (hRb5.1 k hk).2
      have hne5 : ∀ k, (Value.slice Ab i cb).ownBlock = some k → some k ≠ (Value.slice A5 c.length c5).ownBlock := fun k hk e => by have := hltB k hk; have := hge5 k e.symm; omega
      have hgeB : ∀ k, (Value.slice Ab i cb).ownBlock = some k → n2 ≤ k := fun k hk => by obtain ⟨_, ho⟩ := Kd.R_own hRb; exact own_base ho k hk
      obtain ⟨tc5, tf5⟩ := Zk2 (Aside0.mk ht5)
      clear hb5 hRb hRa ht hKB hBr
      go_upto_region 13 with (at_builtin; refine Kd.R_append (Kd.slice 36 k36) (w0 := w5) n2 rfl (.tmp 54) (.tmp 56) 68 22 (.slice none 0 0) 24 rfl Try.underlying68 infoL_ rfl (by decide) (by decide) (.slice Ab i cb) (cs.take i) c [.slice A5 c.length c5] (fun k => True ∧ some k ≠ u10.ownBlock) (fun k => some k = (Value.slice A5 c.length c5).ownBlock) rfl rfl hp hokp hfr hRb5 (Below.refl _ _) hn5 (by rw [hlb]; omega) ?_; intro vb6 w6 hRb6 hB6 hg6 hat6; obtain ⟨Ab6, cb6, hvb6⟩ := Kd.R_slice hRb6; rw [List.length_append, hlb] at hvb6; subst hvb6; have ht6 := (hg6.block tb (Array.getElem?_eq_some_iff.1 ht5).1 hneT).trans ht5; obtain ⟨⟨tc6, _⟩, tf6, _⟩ := Zk2 (Aside0.mk ht6); clear tc5 tf5)
      have ht7 : (w6.setCell ⟨tb, 0, none⟩ (.slice Ab6 (i + 1) cb6)).heap[tb]? = some (.cells #[.slice Ab6 (i + 1) cb6, .string fl] 70 (0, 0)) := blk_put ht6 0 _ rfl
      have hRb7 := Kd.R_set hRb6 ht6 (by decide) 0 (.slice Ab6 (i + 1) cb6)
      have hRa7 := Kd.R_set (Kd.R_grown2 hRa5 rfl hg6 hneA) ht6 (by decide) 0 (.slice Ab6 (i + 1) cb6)
      have hR57 := Kd.R_set (Kd.R_grown2 hR5 rfl hg6 hne5) ht6 (by decide) 0 (.slice Ab6 (i + 1) cb6)
      have hK7 : KeepBut w2 (w6.setCell ⟨tb, 0, none⟩ (.slice Ab6 (i + 1) cb6)) tb none := (hK5.trans (KeepBut.of_grown hg6 tb) (by
        cases hob : (Value.slice Ab i cb).ownBlock with
        | none => exact .inl rfl
        | some k => exact .inr ⟨k, rfl, by have := hgeB k hob; omega⟩)).set_ 0 _
      have hB7 : Below w.heap.size w (w6.setCell ⟨tb, 0, none⟩ (.slice Ab6 (i + 1) cb6)) := (hB5.trans (hB6.mono htn.2)).setCell htw _
      have hn7 : n2 ≤ (w6.setCell ⟨tb, 0, none⟩ (.slice Ab6 (i + 1) cb6)).heap.size := by rw [World.size_setCell]; exact Nat.le_trans hn5 hB6.size
      obtain ⟨A7, c7, e7, hc7, hC7⟩ := Kd.R_reads hR57
      injection e7 with e7 _ _
      subst e7
      generalize w6.setCell ⟨tb, 0, none⟩ (.slice Ab6 (i + 1) cb6) = w7 at ht7 hRb7 hRa7 hC7 hK7 hB7 hn7 ⊢
      clear hRb6 hR57 hg6 ht6 tc6 tf6 hRb5 hRa5 hK5 hB5 hR5 hp hokp hfr hneA hne5 hneT hB6
      have hlM : (cs.take i).flatten.length + c.length ≤ 400 := by omega
      generalize hM : (cs.take i).flatten = M at hRa7 HFT hlM
      have hK : ∀ (x : S36) cs, k36.K w7 x cs → k36.M w7 n2 (fun _ => False) x cs := fun x cs h => by rw [k36_open h]; exact k36_mkM _ _ _ x
      have hneT7 : some tb ≠ u10.ownBlock := Kd.R_ne hRa7 ht7 (by decide)
      have hgeA : ∀ k, u10.ownBlock = some k → n2 ≤ k := fun k hk => by obtain ⟨_, ho⟩ := Kd.R_own hRa7; exact own_base ho k hk
      go_wp2_with (at_builtin; refine Kd.R_append_rows k36 (Rr := k36.K w7) (w0 := w7) n2 rfl (.tmp 60) (.tmp 61) 22 36 (.agg #[.string (⟨#[]⟩ : ByteArray), .int .i64 0, .bool false, .string (⟨#[]⟩ : ByteArray)]) 48 rfl Try.underlying22 info36 rfl (by decide) (by decide) u10 M c A5 c.length c5 (fun _ => True) (fun _ => False) rfl rfl hRa7 hC7 hK (fun _ h => h.elim) (fun _ _ => trivial) (Below.refl _ _) hn7 (by omega) ?_; intro va8 w8 hRa8 hB8 hg8 hat8)
      go_roundg (cs.length - (i + 1))
      case measure => omega
      case rel =>
        refine ⟨i + 1, .slice Ab6 (i + 1) cb6, by omega, Nat.le_refl _, by go_num, ?_, ?_, ?_, ?_, hB7.trans (hB8.mono htn.2)⟩
        · exact (hg8.block tb (Array.getElem?_eq_some_iff.1 ht7).1 hneT7).trans ht7
        · rw [HTK.out]; exact Kd.R_after hRb7 hg8 hat8
        · rw [HFT.out]; exact hRa8
        · exact hK7.trans (KeepBut.of_grown hg8 tb) (by
            cases hob : u10.ownBlock with
            | none => exact .inl rfl
            | some k => exact .inr ⟨k, rfl, by have := hgeA k hob; omega⟩)
    · have hltz : ¬ (i : Int) < (cs.length : Int) := by omega
      obtain rfl : i = cs.length := by omega
      rw [List.take_length] at hRb hRa
      obtain ⟨Aa, ca, ea, hca, hCa⟩ := Kd.R_reads hRa
      subst ea
      obtain ⟨Ab, cb, eb, hcb, hCb⟩ := Kd.R_reads hRb
      subst eb
      have hBu := build_calls Aa ca cs.flatten m q wr hCa hca hl
      rw [hB] at hBu
      have hBu2 : Calls Try.prog 9 #[.slice Aa cs.flatten.length ca, .int .i64 m, .int .i64 q] wr fun e w' => e = .returned (.tuple #[.string b, .nilIface]) ∧ Below wr.heap.size wr w' := hBu
      clear hBu hRa hRb hCa hKB hin hig
      generalize cs.flatten.length = L at hBu2
      have hbb : (b.toList == b.toList) = true := beq_iff_eq.2 rfl
      go_wp2_with (go_at_call 9; refine hBu2.mono ?_; clear hBu2; rintro e w9 ⟨rfl, hb9⟩)
      go_ret2
      exact ⟨tb, rfl, htw, TB.below ⟨Ab, cb, ht, hcb, hCb⟩ hb9, hBr.trans (hb9.mono hBr.size)⟩
end Go.Proofs.Ytbdkfmhkgeoeaaa.Print

namespace Go.Proofs.Ytbdkfmhkgeoeaaa.Print
open Go.RowKit Go.Proofs.YtbdkfmhkgeoeaaaW.PrintWords Go.Proofs.YtbdkfmhkgeoeaaaW.PrintLast Go.Proofs.YtbdkfmhkgeoeaaaW.PrintMore Go.Proofs.YtbdkfmhkgeoeaaaX
set_option linter.unusedVariables false
set_option linter.unusedSimpArgs false

/-! ## A table's bytes: its frames -/
def threeS (m q : Nat) : ByteArray := strOfNums [(m : Int), (q : Int), 84]
def framesF (l : List Ent) (m q : Nat) : List ByteArray := (chsF l.length m l).map encS ++ [(rowS (firstsF (chsF l.length m l))).1, (makeR (keysF l) (q : Int)).1, threeS m q]
def bytesT (l : List Ent) (m q : Nat) : ByteArray := strOfNums (buildL l m q)
theorem threeS_size (m q : Nat) : (threeS m q).size = 3 := by unfold threeS; rw [size_strOfNums]; rfl
theorem frames_small (l : List Ent) (m q : Nat) : ∀ s ∈ framesF l m q, s.size ≤ 1048576 := by
  intro s h
  unfold framesF at h
  rcases List.mem_append.1 h with h | h
  · obtain ⟨c, _, rfl⟩ := List.mem_map.1 h
    have := encS_size c; omega
  · rcases List.mem_cons.1 h with rfl | h
    · exact rowS_size _
    rcases List.mem_cons.1 h with rfl | h
    · have := makeR_size (keysF l) (q : Int); omega
    rw [List.mem_singleton.1 h, threeS_size]; omega
theorem putB_fr (s : ByteArray) (h : s.size ≤ 1048576) : putB s = bytesOf (fr s) := by unfold putB; rw [putR_fr s h]
theorem bytes_cat : ∀ fs : List ByteArray, bytesOf (cat fs) = fs.flatMap (fun s => bytesOf (fr s))
  | [] => bytesOf_nil
  | s :: fs => by
    have := bytes_cat fs
    show bytesOf (fr s ++ cat fs) = bytesOf (fr s) ++ fs.flatMap _
    rw [bytesOf_append, this]
theorem build_cat (l : List Ent) (m q : Nat) : bytesT l m q = cat (framesF l m q) := by
  have h1 : buildL l m q = bytesOf (cat (framesF l m q)) := by
    rw [bytes_cat]
    unfold buildL framesF
    rw [List.flatMap_append, List.flatMap_map]
    have e1 : accB (chsF l.length m l) = (chsF l.length m l).flatMap (fun c => bytesOf (fr (encS c))) := by
      unfold accB
      congr 1
      funext c
      have := encS_size c
      exact putB_fr _ (by omega)
    have := makeR_size (keysF l) (q : Int)
    rw [e1, putB_fr _ (rowS_size _), putB_fr _ (by omega), putB_fr _ (by rw [size_strOfNums]; simp)]
    simp [threeS, List.append_assoc]
  unfold bytesT
  rw [h1, strOf_bytes]
theorem all_frames (fs : List ByteArray) (h : ∀ s ∈ fs, s.size ≤ 1048576) (hl : fs.length ≤ 1000) : frame_All.f (fs.length + 1) (cat fs) = some (fs, ((cat fs).size : Int), none) := by
  have h1 := all_cat (cat fs) ⟨#[]⟩ (Nat.zero_le _) fs [] 1 h (by simpa using hl)
  rw [app_nil, List.nil_append] at h1
  unfold frame_All.f
  rw [h1]
  exact all_end (cat fs) fs 0

/-! ## How many bytes -/
theorem fr_le (s : ByteArray) (h : s.size ≤ 1048576) : (fr s).size ≤ s.size + 8 := by
  have := bsize_text h
  rw [fr_size]; omega
theorem encS_len (c : List Ent) (hs : sortedB c = true) (hl : c.length ≤ 200) : (encS c).size ≤ 8 + 500 * c.length := by
  unfold encS encR
  rw [if_neg (by omega), if_pos hs, size_strOfNums]
  have h3 := encFrom_len c hs c.length 0 (by omega)
  have h4 := numL_len (n := c.length) (by omega)
  unfold encL
  rw [List.length_append]; omega
theorem cat_append (a b : List ByteArray) : cat (a ++ b) = cat a ++ cat b := by
  apply bytesOf_inj
  rw [bytesOf_append, bytes_cat, bytes_cat, bytes_cat, List.flatMap_append]
theorem cat_encs : ∀ cs : List (List Ent), (∀ c ∈ cs, sortedB c = true ∧ c.length ≤ 200) → (cat (cs.map encS)).size ≤ 500 * cs.flatten.length + 16 * cs.length
  | [], _ => Nat.zero_le _
  | c :: cs, h => by
    have ih := cat_encs cs (fun x hx => h x (List.mem_cons_of_mem _ hx))
    obtain ⟨h1, h2⟩ := h c List.mem_cons_self
    have h3 := encS_len c h1 h2
    have h4 := fr_le (encS c) (by omega)
    show (fr (encS c) ++ cat (cs.map encS)).size ≤ _
    rw [append_size, List.flatten_cons, List.length_append, List.length_cons]
    omega
theorem rowR_len : ∀ (fs : List ByteArray) (b : ByteArray), (∀ s ∈ fs, s.size ≤ 80) → (rowR fs b).1.size ≤ b.size + 84 * fs.length
  | [], b, _ => Nat.le_refl _
  | s :: fs, b, h => by
    simp only [rowR]
    split
    · rename_i h2
      have ih := rowR_len fs (b ++ textB s) (fun x hx => h x (List.mem_cons_of_mem _ hx))
      have h3 := (textB_sz s h2.1).2
      have h4 := h s List.mem_cons_self
      rw [append_size] at ih
      rw [List.length_cons]
      omega
    · exact Nat.zero_le _
theorem rowS_len (fs : List ByteArray) (h : ∀ s ∈ fs, s.size ≤ 80) : (rowS fs).1.size ≤ 8 + 84 * fs.length := by
  unfold rowS
  split
  · have h7 := bsize_7 (n := fs.length) (by omega)
    have := rowR_len fs (strOfNums (numL fs.length)) h
    rw [size_strOfNums, numL_length] at this
    omega
  · exact Nat.zero_le _
theorem chs_flat (m : Nat) (hm : 1 ≤ m) : ∀ (n : Nat) (r : List Ent), r.length ≤ n → (chsF n m r).flatten = r
  | 0, r, h => by rw [List.length_eq_zero_iff.1 (Nat.le_zero.1 h)]; rfl
  | n + 1, r, h => by
    simp only [chsF]
    split
    · rename_i h0
      rw [List.length_eq_zero_iff.1 h0]; rfl
    · rw [List.flatten_cons, chs_flat m hm n (r.drop m) (by rw [List.length_drop]; omega), List.take_append_drop]
theorem gt_small (l : List Ent) (hs : sortedB l = true) (i : Nat) (hi : i < l.length) : (gt l i).f0.size ≤ 80 := (right_iff.1 (sAt_iff.1 (sortedB_iff.1 hs i hi)).1).2.2.2.2.1
theorem bytes_small (l : List Ent) (m q : Nat) (hm : 1 ≤ m) (hm2 : m ≤ 50) (hs : sortedB l = true) (hl : l.length ≤ 400) : (bytesT l m q).size ≤ 1048576 := by
  have hcl := chs_len m hm l.length l
  have h1 := cat_encs (chsF l.length m l) (fun c hc => by
    obtain ⟨_, h2, h3⟩ := chs_mem m hm _ _ c hc
    exact ⟨h3 hs, by omega⟩)
  rw [chs_flat m hm _ _ (Nat.le_refl _)] at h1
  have h2 := rowS_len (firstsF (chsF l.length m l)) (fun s h => by
    obtain ⟨c, hc, rfl⟩ := List.mem_map.1 h
    obtain ⟨h1, h2, h3⟩ := chs_mem m hm _ _ c hc
    exact gt_small c (h3 hs) 0 h1)
  have hfl : (firstsF (chsF l.length m l)).length = (chsF l.length m l).length := List.length_map _
  have h3 := makeR_size (keysF l) (q : Int)
  have h4 := threeS_size m q
  have h5 := fr_le (rowS (firstsF (chsF l.length m l))).1 (rowS_size _)
  have h6 := fr_le (makeR (keysF l) (q : Int)).1 (by omega)
  have h7 := fr_le (threeS m q) (by omega)
  rw [build_cat]
  unfold framesF
  rw [cat_append, append_size]
  have e : cat [(rowS (firstsF (chsF l.length m l))).1, (makeR (keysF l) (q : Int)).1, threeS m q] = fr (rowS (firstsF (chsF l.length m l))).1 ++ (fr (makeR (keysF l) (q : Int)).1 ++ (fr (threeS m q) ++ ⟨#[]⟩)) := rfl
  rw [e, append_size, append_size, append_size]
  have e0 : (⟨#[]⟩ : ByteArray).size = 0 := rfl
  omega
/-- A table that was built opens. -/
theorem opens (l : List Ent) (m q : Nat) (w : World) (hm : 1 ≤ m) (hm2 : m ≤ 50) (hq : 1 ≤ q) (hq2 : q ≤ 20) (hs : sortedB l = true) (h0 : 0 < l.length) (hl : l.length ≤ 400) :
    Calls Try.prog 12 #[.string (bytesT l m q)] w fun e w' => ∃ tb, e = .returned (.tuple #[.pointer (some ⟨tb, 0, none⟩), .nilIface]) ∧ w.heap.size ≤ tb ∧ TB w' tb (chsF l.length m l) (makeR (keysF l) (q : Int)).1 ∧ Below w.heap.size w w' := by
  obtain ⟨cs, hcs⟩ : ∃ cs, chsF l.length m l = cs := ⟨_, rfl⟩
  have hcl := chs_len m hm l.length l
  have hfl := chs_flat m hm l.length l (Nat.le_refl _)
  have hfr := frames_small l m q
  have hbc := build_cat l m q
  have hbs := bytes_small l m q hm hm2 hs hl
  have hmem := chs_mem m hm l.length l
  have hF : framesF l m q = cs.map encS ++ [(rowS (firstsF cs)).1, (makeR (keysF l) (q : Int)).1, threeS m q] := by unfold framesF; rw [hcs]
  rw [hcs] at hcl hfl hmem ⊢
  have hn1 : 1 ≤ cs.length := by
    cases cs with
    | nil => rw [← hfl] at h0; exact absurd h0 (by simp)
    | cons c cs => simp
  have hlen : (framesF l m q).length = cs.length + 3 := by rw [hF, List.length_append, List.length_map]; rfl
  have hall := all_frames (framesF l m q) hfr (by omega)
  rw [← hbc] at hall
  have g1 : gS (framesF l m q) (cs.length + 1) = (makeR (keysF l) (q : Int)).1 := by
    rw [hF]; show List.getD _ _ _ = _
    rw [List.getD_eq_getElem?_getD, List.getElem?_append_right (by rw [List.length_map]; omega), List.length_map, Nat.add_sub_cancel_left]; rfl
  have g2 : gS (framesF l m q) (cs.length + 2) = threeS m q := by
    rw [hF]; show List.getD _ _ _ = _
    rw [List.getD_eq_getElem?_getD, List.getElem?_append_right (by rw [List.length_map]; omega), List.length_map, Nat.add_sub_cancel_left]; rfl
  have hb3 : bytesOf (threeS m q) = [(m : Int), (q : Int), 84] := bytesOf_strOfNums (by
    intro x hx
    simp only [List.mem_cons, List.not_mem_nil, or_false] at hx
    rcases hx with rfl | rfl | rfl <;> omega)
  have hP := parts_ok (bytesT l m q) _ (framesF l m q) cs.length _ (m : Int) (q : Int) w hbs hall hlen hn1 (by omega) (by rw [g2, threeS_size]) (by rw [g2, bt_eq, hb3]; rfl) (by rw [g2, bt_eq, hb3]; rfl) (by rw [g2, bt_eq, hb3]; rfl)
  rw [g1] at hP
  have htk : (framesF l m q).take cs.length = cs.map encS := by
    rw [hF, List.take_append_of_le_length (by rw [List.length_map]; omega), List.take_of_length_le (by rw [List.length_map]; omega)]
  rw [htk] at hP
  refine open_yes (bytesT l m q) cs (makeR (keysF l) (q : Int)).1 (m : Int) (q : Int) w hP (fun c hc => ?_) (by omega) (by rw [hfl]; exact hl) ?_
  · obtain ⟨h1, h2, h3⟩ := hmem c hc
    exact ⟨h3 hs, h1, by omega⟩
  · rw [hfl]
    unfold buildR
    rw [if_neg (by omega), if_neg (fun h => h.elim (fun h => by omega) (fun h => by rw [hs] at h; cases h))]
    rfl
end Go.Proofs.Ytbdkfmhkgeoeaaa.Print

namespace Go.Proofs.Ytbdkfmhkgeoeaaa.Print
open Go.RowKit Go.Proofs.YtbdkfmhkgeoeaaaW.PrintWords Go.Proofs.YtbdkfmhkgeoeaaaW.PrintLast Go.Proofs.YtbdkfmhkgeoeaaaW.PrintMore Go.Proofs.YtbdkfmhkgeoeaaaX
set_option linter.unusedVariables false
set_option linter.unusedSimpArgs false

/-! ## (*Table).Get -/
def lastE (c : List Ent) : Ent := gt c (c.length - 1)
/-- A block's last key is not less. -/
def reachB (key : ByteArray) (c : List Ent) : Bool := !(bless (lastE c).f0 key)
theorem str_geq (t : TypeId) (a b : ByteArray) : binOp .geq t (.string a) (.string b) = pure (.bool (!(bless a b))) := by
  rw [binOp_string_geq]
  rfl
theorem str_leq (t : TypeId) (a b : ByteArray) : binOp .leq t (.string a) (.string b) = pure (.bool (!(bless b a))) := by
  rw [binOp_string_leq]
  congr 2
  unfold bless
  rcases bl_tri a.toList b.toList with h | h | h
  · rw [h, bl_asym h]; simp
  · rw [h, bl_irr]; simp
  · rw [h, bl_asym h]; simp; intro e; rw [e, bl_irr] at h; cases h
set_option maxHeartbeats 4000000 in
set_option maxRecDepth 100000 in
theorem get1_calls (tp kp tb : Nat) (key : ByteArray) (cs : List (List Ent)) (fl : ByteArray) (i : Nat) (w : World) (hi : i < cs.length) (hn : cs.length ≤ 1000000) (hc : 0 < cs[i].length ∧ cs[i].length ≤ 1000000) (hT : TB w tb cs fl)
    (htp : w.heap[tp]? = some (.cells #[.pointer (some ⟨tb, 0, none⟩)] 32 (0, 0))) (hkp : w.heap[kp]? = some (.cells #[.string key] 9 (0, 0))) :
    Calls Try.prog 37 #[.int .i64 (i : Int), .pointer (some ⟨tp, 0, none⟩), .pointer (some ⟨kp, 0, none⟩)] w fun e w' => e = .returned (.bool (reachB key cs[i])) ∧ Below w.heap.size w w' := by
  obtain ⟨A, c, hb, hcc, hC⟩ := hT
  obtain ⟨ad, B, c2, hA, hx, hc2, hC2⟩ := at_LL hC i hi hi
  subst hA
  obtain ⟨q, hq⟩ : ∃ q, q = cs[i].length - 1 := ⟨_, rfl⟩
  obtain ⟨ad2, hA2, hy, _, _, _⟩ := at_T36 hC2 (q : Int) (by omega) (by omega)
  subst hA2
  rw [rd_gt, Int.toNat_natCast] at hy
  have hiz : (i : Int) < (cs.length : Int) := by omega
  have hlz : (cs[i].length : Int) - 1 = (q : Int) := by omega
  have hqz : (q : Int) < (cs[i].length : Int) := by omega
  have hL : cs[i].length ≤ 1000000 := hc.2
  have hr : reachB key cs[i] = !(bless (gt cs[i] q).f0 key) := by rw [hq]; rfl
  rw [hr]
  clear hq hr hc
  generalize (gt cs[i] q).f0 = lk at hy ⊢
  generalize cs[i].length = L at hx hc2 hlz hqz hL
  obtain ⟨⟨tc, _⟩, tf, _⟩ := Zk2 (Aside0.mk hb)
  obtain ⟨pc, pf⟩ := Zk1 (Aside0.mk htp)
  obtain ⟨kc, kf⟩ := Zk1 (Aside0.mk hkp)
  have hge := str_geq 9 lk key
  clear hC hC2 hb htp hkp
  go_enter Try.func37, Try.ntmps37
  go_wp2
  refine wp_region_quiet_lit (by kernel_rfl) (by kernel_rfl) ?_
  repeat (go_big_quiet_step (fail))
  refine wpQuiet_nil ?_
  rintro w4 ⟨nq, hw4⟩
  have hB4 : Below w.heap.size w w4 := hw4 ▸ pw_below_drewN (Below.refl _ _) nq
  clear hw4
  go_wp2
  go_ret
  exact ⟨rfl, hB4⟩
/-- Block after block, from one on, while its first key is not greater. -/
def getL (cs : List (List Ent)) (key : ByteArray) (seq : Int) : Nat → Nat → ByteArray × Int × Bool × ByteArray × Bool
  | 0, _ => (⟨#[]⟩, 0, false, ⟨#[]⟩, false)
  | k + 1, i => if i < cs.length ∧ bless key (gt (cs.getD i []) 0).f0 = false then (if (findR (cs.getD i []) key seq).2.2.2.2 = true then findR (cs.getD i []) key seq else getL cs key seq k (i + 1)) else (⟨#[]⟩, 0, false, ⟨#[]⟩, false)
theorem world_any {G : World → Prop} {w : World} (R : World → Prop) (hw : R w) (h : ∀ W, R W → G W) : G w := h w hw
/-- What Get answers. -/
def GetP (key : ByteArray) (seq : Int) (cs : List (List Ent)) (w : World) (e : Ending) (w' : World) : Prop :=
  ∃ i r1 r2 r3 r4 r5, i ≤ cs.length ∧ (0 < i → reachB key (cs.getD (i - 1) []) = false) ∧ (i < cs.length → reachB key (cs.getD i []) = true) ∧ getL cs key seq (cs.length - i + 1) i = (r1, r2, r3, r4, r5) ∧ e = .returned (.tuple #[.agg #[.string r1, .int .i64 r2, .bool r3, .string r4], .bool r5]) ∧ Below w.heap.size w w'
theorem results_get {tmps : Array Value} {W : World} {rp : Nat} {b x0 x1 x2 x3 : Value} (h1 : tmps.getD 6 undef = .pointer (some ⟨rp, 0, none⟩)) (h2 : tmps.getD 7 undef = b) (hg : W.heap[rp]? = some (.cells #[x0, x1, x2, x3] 36 (0, 0))) :
    (results Try.f13 tmps).run Try.prog W = .ok (.tuple #[.agg #[x0, x1, x2, x3], b]) W := by
  have h1' : tmps[6]?.getD undef = .pointer (some ⟨rp, 0, none⟩) := by simpa using h1
  have h2' : tmps[7]?.getD undef = b := by simpa using h2
  simp [results, Try.results13, h1', h2', asAddr, run_loadVar_row W rp 36 36 #[x0, x1, x2, x3] (0, 0) _ hg Try.underlying36 rfl (by kernel_rfl)]
theorem put4 {w : World} {rp : Nat} {x0 x1 x2 x3 : Value} (y0 y1 y2 y3 : Value) (h : w.heap[rp]? = some (.cells #[x0, x1, x2, x3] 36 (0, 0))) :
    ((((w.setCell ⟨rp, 0, none⟩ y0).setCell ⟨rp, 1, none⟩ y1).setCell ⟨rp, 2, none⟩ y2).setCell ⟨rp, 3, none⟩ y3).heap[rp]? = some (.cells #[y0, y1, y2, y3] 36 (0, 0)) :=
  blk_put (cs := #[y0, y1, y2, x3]) (blk_put (cs := #[y0, y1, x2, x3]) (blk_put (cs := #[y0, x1, x2, x3]) (blk_put (cs := #[x0, x1, x2, x3]) h 0 y0 rfl) 1 y1 rfl) 2 y2 rfl) 3 y3 rfl
set_option maxHeartbeats 4000000 in
set_option maxRecDepth 100000 in
theorem get_calls (tb : Nat) (key : ByteArray) (seq : Int) (cs : List (List Ent)) (fl : ByteArray) (w : World) (hn : cs.length ≤ 1000) (hc : ∀ c ∈ cs, 0 < c.length ∧ c.length ≤ 1000) (hT : TB w tb cs fl) :
    Calls Try.prog 13 #[.pointer (some ⟨tb, 0, none⟩), .string key, .int .i64 seq] w fun e w' => GetP key seq cs w e w' := by
  go_enter Try.func13, Try.ntmps13
  go_upto_region 1 with (fail)
  obtain ⟨tp, htp⟩ : ∃ tp, w.heap.size = tp := ⟨_, rfl⟩
  rw [htp]
  obtain ⟨kp, hkp⟩ : ∃ kp, tp + 1 = kp := ⟨_, rfl⟩
  rw [hkp]
  obtain ⟨rp, hrp⟩ : ∃ rp, kp + 1 = rp := ⟨_, rfl⟩
  rw [hrp]
  have b1 : (w.alloc (.cells #[.pointer (some ⟨tb, 0, none⟩)] 32)).heap[tp]? = some (.cells #[.pointer (some ⟨tb, 0, none⟩)] 32 (0, 0)) := htp ▸ heap_alloc_new w (.cells #[.pointer (some ⟨tb, 0, none⟩)] 32)
  obtain ⟨w1, hw1⟩ : ∃ w1, w.alloc (.cells #[.pointer (some ⟨tb, 0, none⟩)] 32) = w1 := ⟨_, rfl⟩
  have z1 : w1.heap.size = kp := by rw [← hw1, World.size_alloc]; omega
  have u1 : Below w.heap.size w w1 := by rw [← hw1]; exact below_alloc (Below.refl _ _) _
  rw [hw1] at b1 ⊢
  have b2 : (w1.alloc (.cells #[.string key] 9)).heap[kp]? = some (.cells #[.string key] 9 (0, 0)) := z1 ▸ heap_alloc_new w1 (.cells #[.string key] 9)
  have b1' := (Below.heap_alloc w1 (.cells #[.string key] 9) tp (by omega)).trans b1
  obtain ⟨w2, hw2⟩ : ∃ w2, w1.alloc (.cells #[.string key] 9) = w2 := ⟨_, rfl⟩
  have z2 : w2.heap.size = rp := by rw [← hw2, World.size_alloc]; omega
  have u2 : Below w.heap.size w w2 := by rw [← hw2]; exact below_alloc u1 _
  rw [hw2] at b1' b2 ⊢
  have b3 : (w2.alloc (.cells #[.string (⟨#[]⟩ : ByteArray), .int .i64 0, .bool false, .string (⟨#[]⟩ : ByteArray)] 36)).heap[rp]? = some (.cells #[.string (⟨#[]⟩ : ByteArray), .int .i64 0, .bool false, .string (⟨#[]⟩ : ByteArray)] 36 (0, 0)) := z2 ▸ heap_alloc_new w2 (.cells #[.string (⟨#[]⟩ : ByteArray), .int .i64 0, .bool false, .string (⟨#[]⟩ : ByteArray)] 36)
  have b1'' := (Below.heap_alloc w2 (.cells #[.string (⟨#[]⟩ : ByteArray), .int .i64 0, .bool false, .string (⟨#[]⟩ : ByteArray)] 36) tp (by omega)).trans b1'
  have b2' := (Below.heap_alloc w2 (.cells #[.string (⟨#[]⟩ : ByteArray), .int .i64 0, .bool false, .string (⟨#[]⟩ : ByteArray)] 36) kp (by omega)).trans b2
  obtain ⟨w3, hw3⟩ : ∃ w3, w2.alloc (.cells #[.string (⟨#[]⟩ : ByteArray), .int .i64 0, .bool false, .string (⟨#[]⟩ : ByteArray)] 36) = w3 := ⟨_, rfl⟩
  have u3 : Below w.heap.size w w3 := by rw [← hw3]; exact below_alloc u2 _
  rw [hw3] at b1'' b2' b3 ⊢
  have hwr : w.heap.size ≤ rp := by omega
  have hT3 := hT.below u3
  clear hw1 hw2 hw3 b1 b2 b1' z1 z2 u1 u2 hT htp hkp hrp
  have hS := search_calls cs.length (by omega) (fun i => reachB key (cs.getD i [])) 37 #[.pointer (some ⟨tp, 0, none⟩), .pointer (some ⟨kp, 0, none⟩)] (enters_of Try.func37 (by kernel_rfl) rfl) w3 (fun W i hi hb => by
    have h := get1_calls tp kp tb key cs fl i W hi (by omega) (by have := hc cs[i] (List.getElem_mem _); omega) (hT3.below hb) ((hb.block tp (Array.getElem?_eq_some_iff.1 b1'').1).trans b1'') ((hb.block kp (Array.getElem?_eq_some_iff.1 b2').1).trans b2')
    have e : cs.getD i [] = cs[i] := by rw [List.getD_eq_getElem?_getD, List.getElem?_eq_getElem hi]; rfl
    rw [e]
    exact h.mono (fun e w' hh => ⟨hh.1, hb.trans (hh.2.mono hb.size)⟩))
  obtain ⟨A, cA, hb, hcA, hC⟩ := hT3
  obtain ⟨⟨tc, _⟩, tf, _⟩ := Zk2 (Aside0.mk hb)
  obtain ⟨pc, pf⟩ := Zk1 (Aside0.mk b1'')
  go_wp2_with (go_at_call 36; refine hS.mono ?_; clear hS tc tf pc pf; rintro e w4 ⟨i0, hi0, rfl, hl0, hl1, hb4⟩)
  obtain ⟨⟨r1, r2, r3, r4, r5⟩, hR0⟩ : ∃ R, getL cs key seq (cs.length - i0 + 1) i0 = R := ⟨_, rfl⟩
  have HR0 := Aside0.mk hR0
  have HL0 := Aside0.mk hl0
  have HL1 := Aside0.mk hl1
  clear hR0 hl0 hl1
  go_loopg [8] cs.length (fun gg v8 wr => ∃ i : Nat, i ≤ cs.length ∧ cs.length - i ≤ gg ∧ v8 = .int .i64 (i : Int) ∧ Aside0 (getL cs key seq (cs.length - i + 1) i = (r1, r2, r3, r4, r5)) ∧ Below w3.heap.size w3 wr)
  case atStart => exact ⟨i0, hi0, by omega, rfl, HR0, hb4⟩
  case round =>
    clear hb4
    obtain ⟨i, hin, hig, rfl, hR, hBr⟩ := hrel
    have hbr := (hBr.block tb (Array.getElem?_eq_some_iff.1 hb).1).trans hb
    have hpr := (hBr.block tp (Array.getElem?_eq_some_iff.1 b1'').1).trans b1''
    have hkr := (hBr.block kp (Array.getElem?_eq_some_iff.1 b2').1).trans b2'
    have hrr := (hBr.block rp (Array.getElem?_eq_some_iff.1 b3).1).trans b3
    obtain ⟨⟨tc, _⟩, tf, _⟩ := Zk2 (Aside0.mk hbr)
    obtain ⟨pc, pf⟩ := Zk1 (Aside0.mk hpr)
    obtain ⟨kc, kf⟩ := Zk1 (Aside0.mk hkr)
    by_cases hlt : i < cs.length
    · have hltz : (i : Int) < (cs.length : Int) := by omega
      obtain ⟨ad, B, c2, hA, hx3, hc2, hC2⟩ := at_LL hC i hlt hlt
      subst hA
      have hx := (hBr.cell (World.block_lt_of_cell? _ _ hx3)).trans hx3
      have e : cs.getD i [] = cs[i] := by rw [List.getD_eq_getElem?_getD, List.getElem?_eq_getElem hlt]; rfl
      have hci := hc cs[i] (List.getElem_mem _)
      have hR1 := hR.out
      rw [show cs.length - i + 1 = (cs.length - (i + 1) + 1) + 1 by omega] at hR1
      simp only [getL] at hR1
      rw [e] at hR1
      generalize cs[i] = cc at hx hx3 hc2 hC2 hci hR1
      obtain ⟨ad2, hA2, hy3, _, _, _⟩ := at_T36 hC2 0 (by omega) (by omega)
      subst hA2
      rw [show (0 : Int).toNat * 4 = 0 from rfl, show ad2.add 0 = ad2 from by unfold Addr.add; split <;> simp_all, show (0 : Int) = ((0 : Nat) : Int) from rfl, rd_gt] at hy3
      have hy := (hBr.cell (World.block_lt_of_cell? _ _ hy3)).trans hy3
      have hle := str_leq 9 (gt cc 0).f0 key
      have hcz : (0 : Int) < (cc.length : Int) := by omega
      by_cases hk : bless key (gt cc 0).f0 = false
      · rw [if_pos ⟨hlt, hk⟩] at hR1
        rw [hk, Bool.not_false] at hle
        have HR1 := Aside0.mk hR1
        clear hR1 hk e
        generalize (gt cc 0).f0 = fk at hy hy3 hle
        go_upto_region 2 with (fail)
        refine wp_region_quiet_lit (by kernel_rfl) (by kernel_rfl) ?_
        repeat (go_big_quiet_step (fail))
        refine wpQuiet_nil ?_
        rintro w5 ⟨nq, hw5⟩
        have hB5 : Below w3.heap.size w3 w5 := hw5 ▸ pw_below_drewN hBr nq
        clear hw5
        clear hy hle
        go_upto_region 4 with (fail)
        obtain ⟨⟨s1, s2, s3, s4, s5⟩, hF⟩ : ∃ R, findR cc key seq = R := ⟨_, rfl⟩
        have hfind : ∀ X, Below w3.heap.size w3 X → Calls Try.prog 38 #[.slice (some ad2) cc.length c2, .string key, .int .i64 seq] X fun e w' => e = .returned (.tuple #[.agg #[.string s1, .int .i64 s2, .bool s3, .string s4], .bool s5]) ∧ Below X.heap.size X w' := fun X hX => block_Find.calls 2000 (some ad2) c2 cc key seq s1 s2 s3 s4 s5 X (Kd.C_below hC2 hX) hc2 (by rw [find_big cc key seq (by omega) 2000 (by omega), hF])
        have hR3 := HR1.out
        rw [hF] at hR3
        have HRT : Aside0 (s5 = true → (s1, s2, s3, s4, true) = (r1, r2, r3, r4, r5)) := ⟨fun h => by subst h; exact (if_pos rfl).symm.trans hR3⟩
        have HRF : Aside0 (s5 = false → getL cs key seq (cs.length - (i + 1) + 1) (i + 1) = (r1, r2, r3, r4, r5)) := ⟨fun h => by subst h; exact (if_neg Bool.false_ne_true).symm.trans hR3⟩
        clear hF hR3 HR1
        obtain ⟨⟨tc3, _⟩, _⟩ := Zk2 (Aside0.mk hb)
        obtain ⟨pc3, _⟩ := Zk1 (Aside0.mk b1'')
        obtain ⟨kc3, _⟩ := Zk1 (Aside0.mk b2')
        have held : ∀ X, Below w3.heap.size w3 X → X.cell? ⟨tp, 0, none⟩ = some (.pointer (some ⟨tb, 0, none⟩)) ∧ X.cell? ⟨tb, 0, none⟩ = some (.slice (some ad) cs.length cA) ∧ X.cell? (ad.add i) = some (.slice (some ad2) cc.length c2) ∧ X.cell? ⟨kp, 0, none⟩ = some (.string key) := fun X hX =>
          ⟨(hX.cell (World.block_lt_of_cell? _ _ pc3)).trans pc3, (hX.cell (World.block_lt_of_cell? _ _ tc3)).trans tc3, (hX.cell (World.block_lt_of_cell? _ _ hx3)).trans hx3, (hX.cell (World.block_lt_of_cell? _ _ kc3)).trans kc3⟩
        have hBd : Below w3.heap.size w3 w5.drew := hB5.trans ((below_drew1 (Below.refl _ _)).mono hB5.size)
        clear tc pc kc hx tc3 pc3 kc3 hx3 hy3 tf pf kf
        refine start_ (S := fun w' => w'.cell? ⟨tp, 0, none⟩ = some (.pointer (some ⟨tb, 0, none⟩)) ∧ w'.cell? ⟨tb, 0, none⟩ = some (.slice (some ad) cs.length cA) ∧ w'.cell? (ad.add i) = some (.slice (some ad2) cc.length c2) ∧ w'.cell? ⟨kp, 0, none⟩ = some (.string key)) (ds := []) #[false, false, false, false, false, false, false, false, false, false, false, false, false, false, false, false] (by kernel_rfl) rfl rfl (held _ hBd) ?_
        intro hHeld
        generalize w5.drew = Wd at hHeld hBd ⊢
        refine take_ (i := 0) (N := some 42) (v := ?_) (a' := ?_) #[true, false, false, false, false, false, false, false, false, false, false, false, false, false, false, false] rfl rfl (by kernel_rfl) (fun _ _ _ h => h) (Or.inl ⟨by rfl, ?_⟩) hHeld ?_ ?_; rotate_left; (focus rintro w' ⟨s0, s1, s2, s3⟩; go_simp; with_reducible rfl); rotate_left; (focus simp only [Act.put, List.setIfInBounds_toArray, List.set_cons_zero, List.set_cons_succ, i64_w, i32_w]; rfl)
        refine pure_ (i := 1) (N := some 43) (v := ?_) (a' := ?_) #[true, true, false, false, false, false, false, false, false, false, false, false, false, false, false, false] rfl rfl (by kernel_rfl) (fun _ _ _ h => h) (Or.inl ⟨by rfl, ?_⟩) ?_ ?_; rotate_left; (focus intro w'; go_simp; with_reducible rfl); rotate_left; (focus simp only [Act.put, List.setIfInBounds_toArray, List.set_cons_zero, List.set_cons_succ, i64_w, i32_w]; rfl)
        refine pure_ (i := 2) (N := some 44) (v := ?_) (a' := ?_) #[true, true, true, false, false, false, false, false, false, false, false, false, false, false, false, false] rfl rfl (by kernel_rfl) (fun _ _ _ h => h) (Or.inl ⟨by rfl, ?_⟩) ?_ ?_; rotate_left; (focus intro w'; go_simp; with_reducible rfl); rotate_left; (focus simp only [Act.put, List.setIfInBounds_toArray, List.set_cons_zero, List.set_cons_succ, i64_w, i32_w]; rfl)
        refine take_ (i := 3) (N := some 45) (v := ?_) (a' := ?_) #[true, true, true, true, false, false, false, false, false, false, false, false, false, false, false, false] rfl rfl (by kernel_rfl) (fun _ _ _ h => h) (Or.inl ⟨by rfl, ?_⟩) hHeld ?_ ?_; rotate_left; (focus rintro w' ⟨s0, s1, s2, s3⟩; go_simp; with_reducible rfl); rotate_left; (focus simp only [Act.put, List.setIfInBounds_toArray, List.set_cons_zero, List.set_cons_succ, i64_w, i32_w]; rfl)
        refine pure_ (i := 4) (N := some 46) (v := ?_) (a' := ?_) #[true, true, true, true, true, false, false, false, false, false, false, false, false, false, false, false] rfl rfl (by kernel_rfl) (fun _ _ _ h => h) (Or.inl ⟨by rfl, ?_⟩) ?_ ?_; rotate_left; (focus intro w'; go_simp; with_reducible rfl); rotate_left; (focus simp only [Act.put, List.setIfInBounds_toArray, List.set_cons_zero, List.set_cons_succ, i64_w, i32_w]; rfl)
        refine pure_ (i := 5) (N := some 47) (v := ?_) (a' := ?_) #[true, true, true, true, true, true, false, false, false, false, false, false, false, false, false, false] rfl rfl (by kernel_rfl) (fun _ _ _ h => h) (Or.inl ⟨by rfl, ?_⟩) ?_ ?_; rotate_left; (focus intro w'; go_simp; with_reducible rfl); rotate_left; (focus simp only [Act.put, List.setIfInBounds_toArray, List.set_cons_zero, List.set_cons_succ, i64_w, i32_w]; rfl)
        refine take_ (i := 6) (N := some 48) (v := ?_) (a' := ?_) #[true, true, true, true, true, true, true, false, false, false, false, false, false, false, false, false] rfl rfl (by kernel_rfl) (fun _ _ _ h => h) (Or.inl ⟨by rfl, ?_⟩) hHeld ?_ ?_; rotate_left; (focus rintro w' ⟨s0, s1, s2, s3⟩; go_simp; with_reducible rfl); rotate_left; (focus simp only [Act.put, List.setIfInBounds_toArray, List.set_cons_zero, List.set_cons_succ, i64_w, i32_w]; rfl)
        refine take_ (i := 7) (N := some 49) (v := ?_) (a' := ?_) #[true, true, true, true, true, true, true, true, false, false, false, false, false, false, false, false] rfl rfl (by kernel_rfl) (fun _ _ _ h => h) (Or.inl ⟨by rfl, ?_⟩) hHeld ?_ ?_; rotate_left; (focus rintro w' ⟨s0, s1, s2, s3⟩; go_simp; with_reducible rfl); rotate_left; (focus simp only [Act.put, List.setIfInBounds_toArray, List.set_cons_zero, List.set_cons_succ, i64_w, i32_w]; rfl)
        refine pure_ (i := 8) (N := some 50) (v := ?_) (a' := ?_) #[true, true, true, true, true, true, true, true, true, false, false, false, false, false, false, false] rfl rfl (by kernel_rfl) (fun _ _ _ h => h) (Or.inl ⟨by rfl, ?_⟩) ?_ ?_; rotate_left; (focus intro w'; go_simp; with_reducible rfl); rotate_left; (focus simp only [Act.put, List.setIfInBounds_toArray, List.set_cons_zero, List.set_cons_succ, i64_w, i32_w]; rfl)
        refine two_ (i := 9) (j := 13) (Ni := some 51) (Nj := some 9) #[true, true, true, true, true, true, true, true, true, true, false, false, false, false, false, false] #[true, true, true, true, true, true, true, true, true, false, false, false, false, true, false, false] rfl rfl rfl rfl (by kernel_rfl) (by decide) (by decide) (fun K hK => ?_) (fun K hK => ?_)
        · refine goes_ Try.func38 (by kernel_rfl) rfl #[.slice (some ad2) cc.length c2, .string key, .int .i64 seq] (by rfl) rfl rfl (by (try simp only [List.map_toArray, List.map_cons, List.map_nil]); first | done | rfl) ?_
          refine (hfind Wd hBd).mono ?_
          rintro e w7 ⟨rfl, hb⟩
          refine ⟨_, rfl, ?_⟩
          have hD7 : Below w3.heap.size w3 w7 := hBd.trans (hb.mono hBd.size)
          refine hK.out _ _ (held w7 hD7) (fun hHeld => ?_)
          clear hb hK K
          refine norm_ (a' := ?_) ?_ ?_
          rotate_left
          · show Act.put _ (some 51) _ = _
            simp only [Act.put, List.setIfInBounds_toArray, List.set_cons_zero, List.set_cons_succ, i64_w, i32_w]
            rfl
          refine pure_ (i := 10) (N := some 41) (v := ?_) (a' := ?_) #[true, true, true, true, true, true, true, true, true, true, true, false, false, false, false, false] rfl rfl (by kernel_rfl) (fun _ _ _ h => h) (Or.inl ⟨by rfl, ?_⟩) ?_ ?_; rotate_left; (focus intro w'; go_simp; with_reducible rfl); rotate_left; (focus simp only [Act.put, List.setIfInBounds_toArray, List.set_cons_zero, List.set_cons_succ, i64_w, i32_w]; rfl)
          refine pure_ (i := 11) (N := some 52) (v := ?_) (a' := ?_) #[true, true, true, true, true, true, true, true, true, true, true, true, false, false, false, false] rfl rfl (by kernel_rfl) (fun _ _ _ h => h) (Or.inl ⟨by rfl, ?_⟩) ?_ ?_; rotate_left; (focus intro w'; go_simp; with_reducible rfl); rotate_left; (focus simp only [Act.put, List.setIfInBounds_toArray, List.set_cons_zero, List.set_cons_succ, i64_w, i32_w]; rfl)
          refine pure_ (i := 12) (N := some 53) (v := ?_) (a' := ?_) #[true, true, true, true, true, true, true, true, true, true, true, true, true, false, false, false] rfl rfl (by kernel_rfl) (fun _ _ _ h => h) (Or.inl ⟨by rfl, ?_⟩) ?_ ?_; rotate_left; (focus intro w'; go_simp; with_reducible rfl); rotate_left; (focus simp only [Act.put, List.setIfInBounds_toArray, List.set_cons_zero, List.set_cons_succ, i64_w, i32_w]; rfl)
          refine one_ (i := 13) (N := some 9) #[true, true, true, true, true, true, true, true, true, true, true, true, true, true, false, false] rfl rfl (by kernel_rfl) (by decide) (fun K hK => ?_)
          refine value_ (w1 := ?_) (v := ?_) (by rfl) rfl ?_ ?_
          rotate_left 2
          · go_simp
            first | (constructor <;> rfl) | rfl
          have hD8 : Below w3.heap.size w3 (w7.alloc (.cells #[.string (⟨#[]⟩ : ByteArray), .int .i64 0, .bool false, .string (⟨#[]⟩ : ByteArray)] 36)) := hD7.alloc hD7.size _
          have BE := Aside0.mk (heap_alloc_new w7 (.cells #[.string (⟨#[]⟩ : ByteArray), .int .i64 0, .bool false, .string (⟨#[]⟩ : ByteArray)] 36))
          refine hK.out _ _ (held _ hD8) (fun hHeld => ?_)
          clear hK K
          refine norm_ (a' := ?_) ?_ ?_
          rotate_left
          · show Act.put _ (some 9) _ = _
            simp only [Act.put, List.setIfInBounds_toArray, List.set_cons_zero, List.set_cons_succ, i64_w, i32_w]
            rfl
          obtain ⟨⟨ec0, ec1, ec2, ec3⟩, ef0, ef1, ef2, ef3⟩ := Zk4 BE
          refine one_ (i := 14) (N := none) #[true, true, true, true, true, true, true, true, true, true, true, true, true, true, true, false] rfl rfl (by kernel_rfl) (by decide) (fun K hK => ?_)
          refine skip_ (w1 := ?_) (by rfl) rfl ?_ ?_
          rotate_left
          · go_simp
            rfl
          have hBf : Below w3.heap.size w3 (w7.alloc (.cells #[.string s1, .int .i64 s2, .bool s3, .string s4] 36)) := hD7.alloc hD7.size _
          have hEf := heap_alloc_new w7 (.cells #[.string s1, .int .i64 s2, .bool s3, .string s4] 36)
          refine hK.out _ _ (held _ hBf) (fun hHeld => ?_)
          clear hK K hHeld ec0 ec1 ec2 ec3 ef0 ef1 ef2 ef3 BE hD8
          generalize w7.heap.size = gb at hEf ⊢
          refine world_any (G := fun X => wpAnyLast _ _ _ _ _ _ _ _ _ X) (fun X => X.heap[gb]? = some (.cells #[.string s1, .int .i64 s2, .bool s3, .string s4] 36 (0, 0)) ∧ Below w3.heap.size w3 X) ⟨hEf, hBf⟩ ?_
          rintro X ⟨heX, hBX⟩
          clear hBf hEf
          refine pure_ (i := 15) (N := some 10) (v := ?_) (a' := ?_) #[true, true, true, true, true, true, true, true, true, true, true, true, true, true, true, true] rfl rfl (by kernel_rfl) (fun _ _ _ h => h) (Or.inl ⟨by rfl, ?_⟩) ?_ ?_; rotate_left; (focus intro w'; go_simp; with_reducible rfl); rotate_left; (focus simp only [Act.put, List.setIfInBounds_toArray, List.set_cons_zero, List.set_cons_succ, i64_w, i32_w]; rfl)
          refine done_ (by kernel_rfl) ?_
          obtain ⟨⟨ec0, ec1, ec2, ec3⟩, _⟩ := Zk4 (Aside0.mk heX)
          have hrX := (hBX.block rp (Array.getElem?_eq_some_iff.1 b3).1).trans b3
          obtain ⟨⟨rc0, rc1, rc2, rc3⟩, rf0, rf1, rf2, rf3⟩ := Zk4 (Aside0.mk hrX)
          cases s5 with
          | true =>
            go_wp2
            refine bodyPost_ret (results_get rfl rfl (put4 _ _ _ _ hrX)) rfl ?_
            have hb9 : Below w.heap.size w ((((X.setCell ⟨rp, 0, none⟩ (.string s1)).setCell ⟨rp, 1, none⟩ (.int .i64 s2)).setCell ⟨rp, 2, none⟩ (.bool s3)).setCell ⟨rp, 3, none⟩ (.string s4)) := ((((u3.trans (hBX.mono u3.size)).setCell hwr _).setCell hwr _).setCell hwr _).setCell hwr _
            have hR2 := HRT.out (by first | exact trivial | rfl)
            exact ⟨i0, s1, s2, s3, s4, true, hi0, HL0.out, HL1.out, HR0.out.trans hR2.symm, rfl, hb9⟩
          | false =>
            have HR2 := Aside0.mk (HRF.out rfl)
            clear HRF HRT
            go_wp2
            go_roundg (cs.length - (i + 1))
            case measure => omega
            case rel => exact ⟨i + 1, by omega, Nat.le_refl _, by go_num, HR2, hBX⟩
        · refine value_ (w1 := ?_) (v := ?_) (by rfl) rfl ?_ ?_
          rotate_left 2
          · go_simp
            first | (constructor <;> rfl) | rfl
          have hD8 : Below w3.heap.size w3 (Wd.alloc (.cells #[.string (⟨#[]⟩ : ByteArray), .int .i64 0, .bool false, .string (⟨#[]⟩ : ByteArray)] 36)) := hBd.alloc hBd.size _
          have BE := heap_alloc_new Wd (.cells #[.string (⟨#[]⟩ : ByteArray), .int .i64 0, .bool false, .string (⟨#[]⟩ : ByteArray)] 36)
          refine hK.out _ _ (held _ hD8) (fun hHeld => ?_)
          clear hK K
          refine norm_ (a' := ?_) ?_ ?_
          rotate_left
          · show Act.put _ (some 9) _ = _
            simp only [Act.put, List.setIfInBounds_toArray, List.set_cons_zero, List.set_cons_succ, i64_w, i32_w]
            rfl
          have hgb : w3.heap.size ≤ Wd.heap.size := hBd.size
          generalize Wd.heap.size = gb at BE hgb ⊢
          generalize Wd.alloc (.cells #[.string (⟨#[]⟩ : ByteArray), .int .i64 0, .bool false, .string (⟨#[]⟩ : ByteArray)] 36) = Wa at BE hD8 hHeld ⊢
          refine one_ (i := 9) (N := some 51) #[true, true, true, true, true, true, true, true, true, true, false, false, false, true, false, false] rfl rfl (by kernel_rfl) (by decide) (fun K hK => ?_)
          refine goes_ Try.func38 (by kernel_rfl) rfl #[.slice (some ad2) cc.length c2, .string key, .int .i64 seq] (by rfl) rfl rfl (by (try simp only [List.map_toArray, List.map_cons, List.map_nil]); first | done | rfl) ?_
          refine (hfind Wa hD8).mono ?_
          rintro e w7 ⟨rfl, hb⟩
          refine ⟨_, rfl, ?_⟩
          have hD7 : Below w3.heap.size w3 w7 := hD8.trans (hb.mono hD8.size)
          have BE7 := (hb.block gb (Array.getElem?_eq_some_iff.1 BE).1).trans BE
          refine hK.out _ _ (held w7 hD7) (fun hHeld => ?_)
          clear hb hK K BE
          refine norm_ (a' := ?_) ?_ ?_
          rotate_left
          · show Act.put _ (some 51) _ = _
            simp only [Act.put, List.setIfInBounds_toArray, List.set_cons_zero, List.set_cons_succ, i64_w, i32_w]
            rfl
          obtain ⟨⟨ec0, ec1, ec2, ec3⟩, ef0, ef1, ef2, ef3⟩ := Zk4 (Aside0.mk BE7)
          refine pure_ (i := 10) (N := some 41) (v := ?_) (a' := ?_) #[true, true, true, true, true, true, true, true, true, true, true, false, false, true, false, false] rfl rfl (by kernel_rfl) (fun _ _ _ h => h) (Or.inl ⟨by rfl, ?_⟩) ?_ ?_; rotate_left; (focus intro w'; go_simp; with_reducible rfl); rotate_left; (focus simp only [Act.put, List.setIfInBounds_toArray, List.set_cons_zero, List.set_cons_succ, i64_w, i32_w]; rfl)
          refine pure_ (i := 11) (N := some 52) (v := ?_) (a' := ?_) #[true, true, true, true, true, true, true, true, true, true, true, true, false, true, false, false] rfl rfl (by kernel_rfl) (fun _ _ _ h => h) (Or.inl ⟨by rfl, ?_⟩) ?_ ?_; rotate_left; (focus intro w'; go_simp; with_reducible rfl); rotate_left; (focus simp only [Act.put, List.setIfInBounds_toArray, List.set_cons_zero, List.set_cons_succ, i64_w, i32_w]; rfl)
          refine pure_ (i := 12) (N := some 53) (v := ?_) (a' := ?_) #[true, true, true, true, true, true, true, true, true, true, true, true, true, true, false, false] rfl rfl (by kernel_rfl) (fun _ _ _ h => h) (Or.inl ⟨by rfl, ?_⟩) ?_ ?_; rotate_left; (focus intro w'; go_simp; with_reducible rfl); rotate_left; (focus simp only [Act.put, List.setIfInBounds_toArray, List.set_cons_zero, List.set_cons_succ, i64_w, i32_w]; rfl)
          refine one_ (i := 14) (N := none) #[true, true, true, true, true, true, true, true, true, true, true, true, true, true, true, false] rfl rfl (by kernel_rfl) (by decide) (fun K hK => ?_)
          refine skip_ (w1 := ?_) (by rfl) rfl ?_ ?_
          rotate_left
          · go_simp
            rfl
          have hBf : Below w3.heap.size w3 ((((w7.setCell ⟨gb, 0, none⟩ (.string s1)).setCell ⟨gb, 1, none⟩ (.int .i64 s2)).setCell ⟨gb, 2, none⟩ (.bool s3)).setCell ⟨gb, 3, none⟩ (.string s4)) := (((hD7.setCell hgb _).setCell hgb _).setCell hgb _).setCell hgb _
          have hEf := put4 (.string s1) (.int .i64 s2) (.bool s3) (.string s4) BE7
          refine hK.out _ _ (held _ hBf) (fun hHeld => ?_)
          clear hK K hHeld ec0 ec1 ec2 ec3 ef0 ef1 ef2 ef3
          refine world_any (G := fun X => wpAnyLast _ _ _ _ _ _ _ _ _ X) (fun X => X.heap[gb]? = some (.cells #[.string s1, .int .i64 s2, .bool s3, .string s4] 36 (0, 0)) ∧ Below w3.heap.size w3 X) ⟨hEf, hBf⟩ ?_
          rintro X ⟨heX, hBX⟩
          clear hBf hEf
          refine pure_ (i := 15) (N := some 10) (v := ?_) (a' := ?_) #[true, true, true, true, true, true, true, true, true, true, true, true, true, true, true, true] rfl rfl (by kernel_rfl) (fun _ _ _ h => h) (Or.inl ⟨by rfl, ?_⟩) ?_ ?_; rotate_left; (focus intro w'; go_simp; with_reducible rfl); rotate_left; (focus simp only [Act.put, List.setIfInBounds_toArray, List.set_cons_zero, List.set_cons_succ, i64_w, i32_w]; rfl)
          refine done_ (by kernel_rfl) ?_
          obtain ⟨⟨ec0, ec1, ec2, ec3⟩, _⟩ := Zk4 (Aside0.mk heX)
          have hrX := (hBX.block rp (Array.getElem?_eq_some_iff.1 b3).1).trans b3
          obtain ⟨⟨rc0, rc1, rc2, rc3⟩, rf0, rf1, rf2, rf3⟩ := Zk4 (Aside0.mk hrX)
          cases s5 with
          | true =>
            go_wp2
            refine bodyPost_ret (results_get rfl rfl (put4 _ _ _ _ hrX)) rfl ?_
            have hb9 : Below w.heap.size w ((((X.setCell ⟨rp, 0, none⟩ (.string s1)).setCell ⟨rp, 1, none⟩ (.int .i64 s2)).setCell ⟨rp, 2, none⟩ (.bool s3)).setCell ⟨rp, 3, none⟩ (.string s4)) := ((((u3.trans (hBX.mono u3.size)).setCell hwr _).setCell hwr _).setCell hwr _).setCell hwr _
            have hR2 := HRT.out (by first | exact trivial | rfl)
            exact ⟨i0, s1, s2, s3, s4, true, hi0, HL0.out, HL1.out, HR0.out.trans hR2.symm, rfl, hb9⟩
          | false =>
            have HR2 := Aside0.mk (HRF.out rfl)
            clear HRF HRT
            go_wp2
            go_roundg (cs.length - (i + 1))
            case measure => omega
            case rel => exact ⟨i + 1, by omega, Nat.le_refl _, by go_num, HR2, hBX⟩
      · have hk' : bless key (gt cc 0).f0 = true := by simpa using hk
        rw [if_neg (fun h => hk h.2)] at hR1
        rw [hk', Bool.not_true] at hle
        have HR1 := Aside0.mk hR1
        clear hR1 hk hk' e
        generalize (gt cc 0).f0 = fk at hy hy3 hle
        go_upto_region 2 with (fail)
        refine wp_region_quiet_lit (by kernel_rfl) (by kernel_rfl) ?_
        repeat (go_big_quiet_step (fail))
        refine wpQuiet_nil ?_
        rintro w5 ⟨nq, hw5⟩
        have hB5 : Below w3.heap.size w3 w5 := hw5 ▸ pw_below_drewN hBr nq
        clear hw5
        clear hy hle tc tf pc pf kc kf hx
        have hr5 := (hB5.block rp (Array.getElem?_eq_some_iff.1 b3).1).trans b3
        obtain ⟨⟨rc0, rc1, rc2, rc3⟩, rf0, rf1, rf2, rf3⟩ := Zk4 (Aside0.mk hr5)
        go_wp2
        refine bodyPost_ret (results_get rfl rfl (put4 _ _ _ _ hr5)) rfl ?_
        have hb9 : Below w.heap.size w ((((w5.setCell ⟨rp, 0, none⟩ (.string (⟨#[]⟩ : ByteArray))).setCell ⟨rp, 1, none⟩ (.int .i64 0)).setCell ⟨rp, 2, none⟩ (.bool false)).setCell ⟨rp, 3, none⟩ (.string (⟨#[]⟩ : ByteArray))) := ((((u3.trans (hB5.mono u3.size)).setCell hwr _).setCell hwr _).setCell hwr _).setCell hwr _
        exact ⟨i0, ⟨#[]⟩, 0, false, ⟨#[]⟩, false, hi0, HL0.out, HL1.out, HR0.out.trans HR1.out.symm, rfl, hb9⟩
    · have hltz : ¬ (i : Int) < (cs.length : Int) := by omega
      have hR1 := hR.out
      simp only [getL] at hR1
      rw [if_neg (fun h => hlt h.1)] at hR1
      have HR1 := Aside0.mk hR1
      clear hR1
      go_upto_region 2 with (fail)
      refine wp_region_quiet_lit (by kernel_rfl) (by kernel_rfl) ?_
      repeat (go_big_quiet_step (fail))
      refine wpQuiet_nil ?_
      rintro w5 ⟨nq, hw5⟩
      have hB5 : Below w3.heap.size w3 w5 := hw5 ▸ pw_below_drewN hBr nq
      clear hw5
      clear tc tf pc pf kc kf
      have hr5 := (hB5.block rp (Array.getElem?_eq_some_iff.1 b3).1).trans b3
      obtain ⟨⟨rc0, rc1, rc2, rc3⟩, rf0, rf1, rf2, rf3⟩ := Zk4 (Aside0.mk hr5)
      go_wp2
      refine bodyPost_ret (results_get rfl rfl (put4 _ _ _ _ hr5)) rfl ?_
      have hb9 : Below w.heap.size w ((((w5.setCell ⟨rp, 0, none⟩ (.string (⟨#[]⟩ : ByteArray))).setCell ⟨rp, 1, none⟩ (.int .i64 0)).setCell ⟨rp, 2, none⟩ (.bool false)).setCell ⟨rp, 3, none⟩ (.string (⟨#[]⟩ : ByteArray))) := ((((u3.trans (hB5.mono u3.size)).setCell hwr _).setCell hwr _).setCell hwr _).setCell hwr _
      exact ⟨i0, ⟨#[]⟩, 0, false, ⟨#[]⟩, false, hi0, HL0.out, HL1.out, HR0.out.trans HR1.out.symm, rfl, hb9⟩
end Go.Proofs.Ytbdkfmhkgeoeaaa.Print

namespace Go.Proofs.Ytbdkfmhkgeoeaaa.Print
open Go.RowKit Go.Proofs.YtbdkfmhkgeoeaaaW.PrintWords Go.Proofs.YtbdkfmhkgeoeaaaW.PrintLast Go.Proofs.YtbdkfmhkgeoeaaaW.PrintMore Go.Proofs.YtbdkfmhkgeoeaaaX
set_option linter.unusedVariables false
set_option linter.unusedSimpArgs false

/-! ## What a table tells -/
set_option maxHeartbeats 4000000 in
set_option maxRecDepth 100000 in
theorem tall_calls (tb : Nat) (cs : List (List Ent)) (fl : ByteArray) (w : World) (hT : TB w tb cs fl) (hn : cs.length ≤ 1000) (hl : cs.flatten.length ≤ 1000) :
    Calls Try.prog 15 #[.pointer (some ⟨tb, 0, none⟩)] w fun e w' => ∃ v, e = .returned v ∧ Kd.R k36 36 w' w.heap.size (fun _ => True) v cs.flatten ∧ Below w.heap.size w w' := by
  obtain ⟨A, c, hb, hc, hC⟩ := hT
  obtain ⟨⟨tc, _⟩, tf, _⟩ := Zk2 (Aside0.mk hb)
  have hCo := concat_calls A c cs w hC hc (by omega) (by omega)
  clear hb hC
  go_enter Try.func15, Try.ntmps15
  go_wp2_with (go_at_call 39; refine hCo.mono ?_; clear hCo; rintro e w1 ⟨v, rfl, hR, hB⟩)
  go_ret
  exact ⟨v, rfl, hR, hB⟩
set_option maxHeartbeats 4000000 in
set_option maxRecDepth 100000 in
theorem blocks_calls (tb : Nat) (cs : List (List Ent)) (fl : ByteArray) (w : World) (hT : TB w tb cs fl) :
    Calls Try.prog 19 #[.pointer (some ⟨tb, 0, none⟩)] w fun e w' => e = .returned (.int .i64 (cs.length : Int)) ∧ Below w.heap.size w w' := by
  obtain ⟨A, c, hb, hc, hC⟩ := hT
  obtain ⟨⟨tc, _⟩, tf, _⟩ := Zk2 (Aside0.mk hb)
  clear hb hC
  go_enter Try.func19, Try.ntmps19
  go_wp2
  go_ret
  exact ⟨rfl, Below.refl _ _⟩
set_option maxHeartbeats 4000000 in
set_option maxRecDepth 100000 in
theorem min_calls (tb : Nat) (cs : List (List Ent)) (fl : ByteArray) (w : World) (hT : TB w tb cs fl) (hn : 0 < cs.length) (hc0 : 0 < cs[0].length) :
    Calls Try.prog 16 #[.pointer (some ⟨tb, 0, none⟩)] w fun e w' => e = .returned (.string (gt cs[0] 0).f0) ∧ Below w.heap.size w w' := by
  obtain ⟨A, c, hb, hc, hC⟩ := hT
  obtain ⟨⟨tc, _⟩, tf, _⟩ := Zk2 (Aside0.mk hb)
  obtain ⟨ad, B, c2, hA, hx, hc2, hC2⟩ := at_LL hC 0 hn hn
  subst hA
  obtain ⟨ad2, hA2, hy, _, _, _⟩ := at_T36 hC2 0 (by omega) (by omega)
  subst hA2
  have z0 : ∀ a : Addr, a.add 0 = a := fun a => by unfold Addr.add; split <;> simp_all
  rw [show (0 : Int).toNat * 4 = 0 from rfl, z0, show (0 : Int) = ((0 : Nat) : Int) from rfl, rd_gt] at hy
  rw [z0] at hx
  have hnz : (0 : Int) < (cs.length : Int) := by omega
  have hcz : (0 : Int) < (cs[0].length : Int) := by omega
  generalize (gt cs[0] 0).f0 = k at hy ⊢
  generalize cs[0].length = L at hx hcz
  clear hb hC hC2 z0
  go_enter Try.func16, Try.ntmps16
  go_wp2
  go_ret
  exact ⟨rfl, Below.refl _ _⟩
set_option maxHeartbeats 4000000 in
set_option maxRecDepth 100000 in
theorem max_calls (tb : Nat) (cs : List (List Ent)) (fl : ByteArray) (w : World) (hT : TB w tb cs fl) (n : Nat) (hn : cs.length = n + 1) (hn2 : n ≤ 1000) (h0 : n < cs.length) (hc0 : 0 < cs[n].length ∧ cs[n].length ≤ 1000) :
    Calls Try.prog 17 #[.pointer (some ⟨tb, 0, none⟩)] w fun e w' => e = .returned (.string (lastE cs[n]).f0) ∧ Below w.heap.size w w' := by
  obtain ⟨A, c, hb, hc, hC⟩ := hT
  obtain ⟨⟨tc, _⟩, tf, _⟩ := Zk2 (Aside0.mk hb)
  obtain ⟨ad, B, c2, hA, hx, hc2, hC2⟩ := at_LL hC n h0 h0
  subst hA
  obtain ⟨q, hq⟩ : ∃ q, q = cs[n].length - 1 := ⟨_, rfl⟩
  obtain ⟨ad2, hA2, hy, _, _, _⟩ := at_T36 hC2 (q : Int) (by omega) (by omega)
  subst hA2
  rw [rd_gt, Int.toNat_natCast] at hy
  have hr : (lastE cs[n]).f0 = (gt cs[n] q).f0 := by rw [hq]; rfl
  rw [hr]
  have hlz : (cs[n].length : Int) - 1 = (q : Int) := by omega
  have hqz : (q : Int) < (cs[n].length : Int) := by omega
  have hL : cs[n].length ≤ 1000 := hc0.2
  clear hq hr hc0
  generalize (gt cs[n] q).f0 = k at hy ⊢
  generalize cs[n].length = L at hx hlz hqz hL
  rw [hn] at tc
  obtain ⟨N, hN⟩ : ∃ N, n + 1 = N := ⟨_, rfl⟩
  rw [hN] at tc
  have hnz : (N : Int) - 1 = (n : Int) := by omega
  have hnn : (n : Int) < (N : Int) := by omega
  have hNN : N ≤ 1001 := by omega
  clear hb hC hC2 hn hN
  go_enter Try.func17, Try.ntmps17
  go_upto_region 1 with (fail)
  refine wp_region_quiet_lit (by kernel_rfl) (by kernel_rfl) ?_
  repeat (go_big_quiet_step (fail))
  refine wpQuiet_nil ?_
  rintro w4 ⟨nq, hw4⟩
  have hB4 : Below w.heap.size w w4 := hw4 ▸ pw_below_drewN (Below.refl _ _) nq
  have hy4 : w4.cell? (ad2.add (q * 4)) = some (.string k) := (hB4.cell (World.block_lt_of_cell? _ _ hy)).trans hy
  clear hw4 hy
  go_wp2
  go_ret
  exact ⟨rfl, hB4⟩
end Go.Proofs.Ytbdkfmhkgeoeaaa.Print

namespace Go.Proofs.Ytbdkfmhkgeoeaaa.Print
open Go.RowKit Go.Proofs.YtbdkfmhkgeoeaaaW.PrintWords Go.Proofs.YtbdkfmhkgeoeaaaW.PrintLast Go.Proofs.YtbdkfmhkgeoeaaaW.PrintMore Go.Proofs.YtbdkfmhkgeoeaaaX
set_option linter.unusedVariables false
set_option linter.unusedSimpArgs false

/-! ## Get finds what a search in all entries finds -/
theorem sorted_step {l : List Ent} (hs : sortedB l = true) (j : Nat) (hj : j + 1 < l.length) : bless (gt l (j + 1)).f0 (gt l j).f0 = false := by
  have h := (sAt_iff.1 (sortedB_iff.1 hs (j + 1) hj)).2
  rcases h with h | h
  · omega
  · rw [Nat.add_sub_cancel] at h
    unfold beforeB at h
    rw [Bool.or_eq_true] at h
    rcases h with h | h
    · exact bl_asym h
    · rw [Bool.and_eq_true, beq_iff_eq] at h
      unfold bless
      rw [h.1, bl_irr]
/-- Not less is no less behind one that is not less. -/
theorem nless_trans {a b c : ByteArray} (h1 : bless b a = false) (h2 : bless c b = false) : bless c a = false := by
  cases h : bless c a with
  | false => rfl
  | true =>
    unfold bless at *
    rcases bl_tri b.toList a.toList with k | k | k
    · rw [k] at h1; cases h1
    · rw [← k, h2] at h; cases h
    · have := bl_trans h k
      rw [h2] at this; cases this
theorem sorted_keys {l : List Ent} (hs : sortedB l = true) : ∀ (d i : Nat), i + d < l.length → bless (gt l (i + d)).f0 (gt l i).f0 = false
  | 0, i, _ => bl_irr _
  | d + 1, i, h => nless_trans (sorted_keys hs d i (by omega)) (sorted_step hs (i + d) h)
theorem findR_none {l : List Ent} {key : ByteArray} {seq : Int} (h : ∀ e ∈ l, ¬ e.f0.toList = key.toList) : findR l key seq = (⟨#[]⟩, 0, false, ⟨#[]⟩, false) := by
  have : l.find? (hit key seq) = none := List.find?_eq_none.2 (fun e he => by
    unfold hit
    rw [Bool.and_eq_true, beq_iff_eq]
    exact fun k => h e he k.1)
  unfold findR; rw [this]
theorem findR_append (a b : List Ent) (key : ByteArray) (seq : Int) : findR (a ++ b) key seq = if (findR a key seq).2.2.2.2 = true then findR a key seq else findR b key seq := by
  unfold findR
  rw [List.find?_append]
  cases h : a.find? (hit key seq) with
  | none => simp
  | some e => simp
theorem drop_flat (cs : List (List Ent)) (i : Nat) (h : i < cs.length) : (cs.drop i).flatten = cs.getD i [] ++ (cs.drop (i + 1)).flatten := by
  rw [List.drop_eq_getElem_cons h, List.flatten_cons, List.getD_eq_getElem?_getD, List.getElem?_eq_getElem h]; rfl
theorem getL_find (cs : List (List Ent)) (key : ByteArray) (seq : Int) (hs : sortedB cs.flatten = true) (hne : ∀ c ∈ cs, 0 < c.length) : ∀ (d i k : Nat), i + d = cs.length → d < k → getL cs key seq k i = findR (cs.drop i).flatten key seq
  | 0, i, k, hd, hk => by
    obtain ⟨k, rfl⟩ : ∃ j, k = j + 1 := ⟨k - 1, by omega⟩
    simp only [getL]
    rw [if_neg (fun h => by omega), List.drop_eq_nil_of_le (by omega)]
    rfl
  | d + 1, i, k, hd, hk => by
    obtain ⟨k, rfl⟩ : ∃ j, k = j + 1 := ⟨k - 1, by omega⟩
    have hi : i < cs.length := by omega
    have ih := getL_find cs key seq hs hne d (i + 1) k (by omega) (by omega)
    simp only [getL]
    by_cases hb : bless key (gt (cs.getD i []) 0).f0 = false
    · rw [if_pos ⟨hi, hb⟩, ih, drop_flat cs i hi, findR_append]
    · rw [if_neg (fun h => hb h.2)]
      have hb' : bless key (gt (cs.getD i []) 0).f0 = true := by simpa using hb
      refine (findR_none ?_).symm
      have hsd : sortedB (cs.drop i).flatten = true := by
        have e : cs.flatten = (cs.take i).flatten ++ (cs.drop i).flatten := by rw [← List.flatten_append, List.take_append_drop]
        rw [e] at hs
        have := sorted_drop hs (cs.take i).flatten.length
        rwa [List.drop_left] at this
      have hg0 : gt (cs.drop i).flatten 0 = gt (cs.getD i []) 0 := by
        have hc : 0 < (cs.getD i []).length := hne _ (by rw [List.getD_eq_getElem?_getD, List.getElem?_eq_getElem hi]; exact List.getElem_mem _)
        rw [drop_flat cs i hi]
        generalize cs.getD i [] = c at hc
        unfold gt
        rw [List.getD_eq_getElem?_getD, List.getD_eq_getElem?_getD, List.getElem?_append_left hc]
      intro e he
      obtain ⟨j, hj, rfl⟩ := List.mem_iff_getElem.1 he
      have h1 := sorted_keys hsd j 0 (by omega)
      rw [Nat.zero_add, hg0, gt_get hj] at h1
      intro hk2
      have h2 : bless ((cs.drop i).flatten[j]).f0 (gt (cs.getD i []) 0).f0 = true := by unfold bless at hb' ⊢; rw [hk2]; exact hb'
      rw [h1] at h2; cases h2
theorem get_find (cs : List (List Ent)) (key : ByteArray) (seq : Int) (hs : sortedB cs.flatten = true) (hne : ∀ c ∈ cs, 0 < c.length) (i : Nat) (hi : i ≤ cs.length) (h0 : 0 < i → reachB key (cs.getD (i - 1) []) = false) : getL cs key seq (cs.length - i + 1) i = findR cs.flatten key seq := by
  rw [getL_find cs key seq hs hne (cs.length - i) i _ (by omega) (by omega)]
  have e : cs.flatten = (cs.take i).flatten ++ (cs.drop i).flatten := by rw [← List.flatten_append, List.take_append_drop]
  conv => rhs; rw [e, findR_append]
  rcases Nat.eq_zero_or_pos i with rfl | hp
  · simp [findR]
  · have h1 := h0 hp
    have hi1 : i - 1 < cs.length := by omega
    obtain ⟨c, hc⟩ : ∃ c, cs.getD (i - 1) [] = c := ⟨_, rfl⟩
    have hcm : c ∈ cs := by rw [← hc, List.getD_eq_getElem?_getD, List.getElem?_eq_getElem hi1]; exact List.getElem_mem _
    have hcl := hne c hcm
    rw [hc] at h1
    have htk : (cs.take i).flatten = (cs.take (i - 1)).flatten ++ c := by
      have := flat_take cs (i - 1) hi1
      rw [show i - 1 + 1 = i by omega] at this
      rw [this, ← hc, List.getD_eq_getElem?_getD, List.getElem?_eq_getElem hi1]; rfl
    have hst : sortedB (cs.take i).flatten = true := by
      rw [e] at hs
      have := sorted_take hs (cs.take i).flatten.length
      rwa [List.take_left] at this
    have hlast : gt (cs.take i).flatten ((cs.take i).flatten.length - 1) = lastE c := by
      rw [htk]
      unfold gt lastE gt
      rw [List.getD_eq_getElem?_getD, List.getD_eq_getElem?_getD, List.getElem?_append_right (by rw [List.length_append]; omega), List.length_append]
      congr 2; omega
    have hlt : bless (lastE c).f0 key = true := by unfold reachB at h1; simpa using h1
    have hlen : 0 < (cs.take i).flatten.length := by rw [htk, List.length_append]; omega
    have hn : findR (cs.take i).flatten key seq = (⟨#[]⟩, 0, false, ⟨#[]⟩, false) := findR_none (fun x hx => by
      obtain ⟨j, hj, rfl⟩ := List.mem_iff_getElem.1 hx
      have h2 := sorted_keys hst ((cs.take i).flatten.length - 1 - j) j (by omega)
      rw [show j + ((cs.take i).flatten.length - 1 - j) = (cs.take i).flatten.length - 1 by omega, hlast, gt_get hj] at h2
      intro hk
      have h3 : bless (lastE c).f0 ((cs.take i).flatten[j]).f0 = true := by unfold bless at hlt ⊢; rw [hk]; exact hlt
      rw [h2] at h3; cases h3)
    rw [hn, if_neg (by decide)]
theorem get_of (tb : Nat) (key : ByteArray) (seq : Int) (l : List Ent) (m : Nat) (fl : ByteArray) (w : World) (hm : 1 ≤ m) (hm2 : m ≤ 50) (hs : sortedB l = true) (hl : l.length ≤ 400) (hT : TB w tb (chsF l.length m l) fl) (r1 : ByteArray) (r2 : Int) (r3 : Bool) (r4 : ByteArray) (r5 : Bool) (h : findR l key seq = (r1, r2, r3, r4, r5)) :
    Calls Try.prog 13 #[.pointer (some ⟨tb, 0, none⟩), .string key, .int .i64 seq] w fun e w' => e = .returned (.tuple #[.agg #[.string r1, .int .i64 r2, .bool r3, .string r4], .bool r5]) ∧ Below w.heap.size w w' := by
  have hcl := chs_len m hm l.length l
  have hfl := chs_flat m hm l.length l (Nat.le_refl _)
  have hmem := chs_mem m hm l.length l
  refine (get_calls tb key seq _ fl w (by omega) (fun c hc => by have := hmem c hc; omega) hT).mono ?_
  rintro e w' ⟨i, s1, s2, s3, s4, s5, hi, h0, h1, hg, he, hB⟩
  rw [get_find _ key seq (by rw [hfl]; exact hs) (fun c hc => (hmem c hc).1) i hi h0, hfl, h] at hg
  simp only [Prod.mk.injEq] at hg
  obtain ⟨e1, e2, e3, e4, e5⟩ := hg
  rw [e1, e2, e3, e4, e5]
  exact ⟨he, hB⟩
end Go.Proofs.Ytbdkfmhkgeoeaaa.Print

namespace Go.Proofs.Ytbdkfmhkgeoeaaa.Print
open Go.RowKit Go.Proofs.YtbdkfmhkgeoeaaaW.PrintWords Go.Proofs.YtbdkfmhkgeoeaaaW.PrintLast Go.Proofs.YtbdkfmhkgeoeaaaW.PrintMore Go.Proofs.YtbdkfmhkgeoeaaaX
set_option linter.unusedVariables false
set_option linter.unusedSimpArgs false

/-! ## The chapter's examples -/
def fv : List Ent := [⟨⟨#[97]⟩, 1, false, ⟨#[118]⟩⟩, ⟨⟨#[98]⟩, 2, false, ⟨#[118]⟩⟩, ⟨⟨#[99]⟩, 3, false, ⟨#[118]⟩⟩, ⟨⟨#[100]⟩, 4, false, ⟨#[118]⟩⟩, ⟨⟨#[101]⟩, 5, false, ⟨#[118]⟩⟩]
theorem five_fv : palinodelaw13_five.f 10 = some fv := by kernel_rfl
theorem sorted_fv : sortedB fv = true := by kernel_rfl
theorem find_fv : findR fv ⟨#[99]⟩ 9 = (⟨#[99]⟩, 3, false, ⟨#[118]⟩, true) := by kernel_rfl
theorem chs_fv : chsF fv.length 2 fv = [[fv[0], fv[1]], [fv[2], fv[3]], [fv[4]]] := by rfl
theorem buildR_yes (l : List Ent) (m q : Int) (hm : 1 ≤ m) (hm2 : m ≤ 50) (hq : 1 ≤ q) (hq2 : q ≤ 20) (hs : sortedB l = true) (h0 : 0 < l.length) : buildR l m q = (bytesT l m.toNat q.toNat, none) := by
  unfold buildR
  rw [if_neg (by omega), if_neg (fun h => h.elim (fun h => by omega) (fun h => by rw [hs] at h; cases h))]
  rfl
theorem open_empty (w : World) : Calls Try.prog 12 #[.string (⟨#[]⟩ : ByteArray)] w fun e w' => e = .returned (.tuple #[.pointer none, errW (some 3)]) ∧ Below w.heap.size w w' :=
  open_no _ w (parts_no ⟨#[]⟩ 1 [] _ none w (Nat.zero_le _) (all_end ⟨#[]⟩ [] 0) (.inr ⟨rfl, Nat.zero_le _⟩))
theorem is_calls (a : Option Int) (x : Int) (hx : ¬ x = 0) (w : World) : Calls Try.prog 11 #[errW a, .int .i64 x] w fun e w' => e = .returned (.bool (a == some x)) ∧ Below w.heap.size w w' :=
  (palinodelaw13_is.calls a x (a == some x) w (by
    unfold palinodelaw13_is.f
    rw [if_neg hx]
    cases a with
    | none => rfl
    | some y => rfl)).mono (fun e w' hh => ⟨hh.1, hh.2.below⟩)
set_option maxHeartbeats 4000000 in
set_option maxRecDepth 100000 in
theorem examples_calls (w : World) : Calls Try.prog 8 #[] w fun e w' => e = .returned (.bool true) ∧ Below w.heap.size w w' := by
  have hu25 := Try.underlying25
  have hu48 := Try.underlying48
  have h5 := palinodelaw13_five.calls 10 fv w five_fv
  obtain ⟨fv', hfv⟩ : ∃ f, fv = f := ⟨_, rfl⟩
  obtain ⟨bs, hbs⟩ : ∃ b, bytesT fv 2 10 = b := ⟨_, rfl⟩
  have hB1 : ∀ A c W, Kd.C k36 W A 5 fv → 5 ≤ c → Calls Try.prog 9 #[.slice A 5 c, .int .i64 2, .int .i64 10] W fun e w' => e = .returned (.tuple #[.string bs, .nilIface]) ∧ Below W.heap.size W w' := fun A c W hC hc => by
    have h := build_calls A c fv 2 10 W hC hc (by decide)
    rw [buildR_yes fv 2 10 (by decide) (by decide) (by decide) (by decide) sorted_fv (by decide)] at h
    rw [← hbs]
    exact h
  have hB2 : ∀ W, Calls Try.prog 9 #[.slice none 0 0, .int .i64 2, .int .i64 10] W fun e w' => e = .returned (.tuple #[.string (⟨#[]⟩ : ByteArray), .iface 48 (.int .i64 1)]) ∧ Below W.heap.size W w' := fun W => build_calls none 0 [] 2 10 W (Kd.C_nil _ _) (Nat.le_refl _) (by decide)
  have hO1 : ∀ W, Calls Try.prog 12 #[.string bs] W fun e w' => ∃ tb, e = .returned (.tuple #[.pointer (some ⟨tb, 0, none⟩), .nilIface]) ∧ W.heap.size ≤ tb ∧ TB w' tb (chsF fv.length 2 fv) (makeR (keysF fv) ((10 : Nat) : Int)).1 ∧ Below W.heap.size W w' := fun W => by
    rw [← hbs]; exact opens fv 2 10 W (by decide) (by decide) (by decide) (by decide) sorted_fv (by decide) (by decide)
  have hO2 : ∀ W, Calls Try.prog 12 #[.string (⟨#[]⟩ : ByteArray)] W fun e w' => e = .returned (.tuple #[.pointer none, .iface 48 (.int .i64 3)]) ∧ Below W.heap.size W w' := open_empty
  clear hbs hfv
  go_enter Try.func8, Try.ntmps8
  go_upto_region 5 with (first
    | (go_at_call 20; refine h5.mono ?_; clear h5; rintro e w1 ⟨v, rfl, hR, b1⟩; obtain ⟨A, c, ev, hc, hC⟩ := Kd.R_reads hR; subst ev; have hB1' := hB1 A c w1 hC hc)
    | (go_at_call 9; refine hB1'.mono ?_; clear hB1' hB1; rintro e w2 ⟨rfl, b2⟩)
    | (go_at_call 12; refine (hO1 _).mono ?_; clear hO1; rintro e w3 ⟨tb, rfl, htb, hT, b3⟩)
    | (go_at_call 9; refine (hB2 _).mono ?_; clear hB2; rintro e w4 ⟨rfl, b4⟩)
    | (go_at_call 12; refine (hO2 _).mono ?_; clear hO2; rintro e w5 ⟨rfl, b5⟩))
  have hT5 := (hT.below b4).below b5
  have hB5 : Below w.heap.size w w5 := (((b1.trans (b2.mono b1.size)).trans (b3.mono (Nat.le_trans b1.size b2.size))).trans (b4.mono (Nat.le_trans b1.size (Nat.le_trans b2.size b3.size)))).trans (b5.mono (Nat.le_trans b1.size (Nat.le_trans b2.size (Nat.le_trans b3.size b4.size))))
  have hG := get_of tb ⟨#[99]⟩ 9 fv 2 _ w5 (by decide) (by decide) sorted_fv (by decide) hT5 _ _ _ _ _ find_fv
  clear hR hC hT b1 b2 b3 b4 b5
  go_upto_region 8 with (go_at_call 13; refine hG.mono ?_; clear hG; rintro e w6 ⟨rfl, b6⟩)
  have hT6 := hT5.below b6
  have hB6 := hB5.trans (b6.mono hB5.size)
  have hBa : Below w6.heap.size w6 (w6.alloc (.cells #[.string (⟨#[99]⟩ : ByteArray), .int .i64 3, .bool false, .string (⟨#[118]⟩ : ByteArray)] 36)) := below_alloc (Below.refl _ _) _
  have hT7 := hT6.below hBa
  have hB7 := hB6.trans (hBa.mono hB6.size)
  have hx7 := heap_alloc_new w6 (.cells #[.string (⟨#[99]⟩ : ByteArray), .int .i64 3, .bool false, .string (⟨#[118]⟩ : ByteArray)] 36)
  obtain ⟨xb, hxb⟩ : ∃ xb, w6.heap.size = xb := ⟨_, rfl⟩
  rw [hxb] at hx7 ⊢
  generalize w6.alloc (.cells #[.string (⟨#[99]⟩ : ByteArray), .int .i64 3, .bool false, .string (⟨#[118]⟩ : ByteArray)] 36) = w7 at hT7 hB7 hx7 ⊢
  rw [chs_fv] at hT7
  obtain ⟨⟨xc0, xc1, xc2, xc3⟩, xf0, xf1, xf2, xf3⟩ := Zk4 (Aside0.mk hx7)
  have x1 : ∀ X, Below w7.heap.size w7 X → X.cell? ⟨xb, 1, none⟩ = some (.int .i64 3) := fun X hX => (hX.cell (World.block_lt_of_cell? _ _ xc1)).trans xc1
  have i1 : Calls Try.prog 11 #[.iface 48 (.int .i64 1), .int .i64 1] w7 fun e w' => e = .returned (.bool true) ∧ Below w7.heap.size w7 w' := is_calls (some 1) 1 (by decide) w7
  have i3 : ∀ W, Calls Try.prog 11 #[.iface 48 (.int .i64 3), .int .i64 3] W fun e w' => e = .returned (.bool true) ∧ Below W.heap.size W w' := fun W => is_calls (some 3) 3 (by decide) W
  have cB : ∀ W, Below w7.heap.size w7 W → Calls Try.prog 19 #[.pointer (some ⟨tb, 0, none⟩)] W fun e w' => e = .returned (.int .i64 3) ∧ Below W.heap.size W w' := fun W h => blocks_calls tb _ _ W (hT7.below h)
  have cN : ∀ W, Below w7.heap.size w7 W → Calls Try.prog 16 #[.pointer (some ⟨tb, 0, none⟩)] W fun e w' => e = .returned (.string ⟨#[97]⟩) ∧ Below W.heap.size W w' := fun W h => min_calls tb _ _ W (hT7.below h) (by decide) (by decide)
  have cX : ∀ W, Below w7.heap.size w7 W → Calls Try.prog 17 #[.pointer (some ⟨tb, 0, none⟩)] W fun e w' => e = .returned (.string ⟨#[101]⟩) ∧ Below W.heap.size W w' := fun W h => max_calls tb _ _ W (hT7.below h) 2 rfl (by decide) (by decide) (by decide)
  have cA : ∀ W, Below w7.heap.size w7 W → Calls Try.prog 15 #[.pointer (some ⟨tb, 0, none⟩)] W fun e w' => ∃ A c, e = .returned (.slice A 5 c) ∧ Below W.heap.size W w' := fun W h => (tall_calls tb _ _ W (hT7.below h) (by decide) (by decide)).mono (fun e w' hh => by
    obtain ⟨v, he, hR, hB⟩ := hh
    obtain ⟨A, c, ev, _, _⟩ := Kd.R_reads hR
    exact ⟨A, c, by rw [he, ev]; rfl, hB⟩)
  clear hT5 hB5 hT6 hB6 hBa b6 hT7 hx7
  go_wp2_with (first
    | (go_at_call 11; refine i1.mono ?_; clear i1; rintro e w8 ⟨rfl, u8⟩)
    | (go_at_call 11; refine (i3 w8).mono ?_; clear i3; rintro e w9 ⟨rfl, u⟩; have u9 := u8.trans (u.mono u8.size); clear u)
    | (go_at_call 19; refine (cB w9 u9).mono ?_; rintro e w10 ⟨rfl, u⟩; have u10 := u9.trans (u.mono u9.size); clear u; have xx := x1 w10 u10; clear xc0 xc1 xc2 xc3)
    | (go_at_call 16; refine (cN w10 u10).mono ?_; rintro e w11 ⟨rfl, u⟩; have u11 := u10.trans (u.mono u10.size); clear u)
    | (go_at_call 17; refine (cX w11 u11).mono ?_; rintro e w12 ⟨rfl, u⟩; have u12 := u11.trans (u.mono u11.size); clear u)
    | (go_at_call 15; refine (cA w12 u12).mono ?_; rintro e w13 ⟨A9, c9, rfl, u⟩; have u13 := u12.trans (u.mono u12.size); clear u))
  go_ret
  exact ⟨rfl, hB7.trans (u13.mono hB7.size)⟩
end Go.Proofs.Ytbdkfmhkgeoeaaa.Print
