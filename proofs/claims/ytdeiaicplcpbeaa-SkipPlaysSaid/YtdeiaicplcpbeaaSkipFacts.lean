import Derived.Test.YtdeiaicplcpbeaaSkipEx
namespace Go.Proofs.Ytdeiaicplcpbeaa.Print
open Go.RowKit Go.Proofs.YtdeiaicplcpbeaaX Go.Proofs.YtdeiaicplcpbeaaW.PrintWords Go.Proofs.YtdeiaicplcpbeaaW.PrintLast
set_option linter.unusedVariables false
set_option linter.unusedSimpArgs false

/-! ## What some puts make -/
def playO (ps : List S31) : List One := ps.foldl (fun l p => putO p.f0 p.f1 p.f2 l) []
theorem playO_snoc (ps : List S31) (p : S31) : playO (ps ++ [p]) = putO p.f0 p.f1 p.f2 (playO ps) := by unfold playO; rw [List.foldl_append]; rfl
theorem take_succ {α : Type} {l : List α} {i : Nat} (h : i < l.length) : l.take (i + 1) = l.take i ++ [l[i]] := by
  rw [List.take_add_one, List.getElem?_eq_getElem h]; rfl
theorem playO_take (ps : List S31) (i : Nat) (h : i < ps.length) : playO (ps.take (i + 1)) = putO ps[i].f0 ps[i].f1 ps[i].f2 (playO (ps.take i)) := by
  rw [take_succ h, playO_snoc]
theorem snoc_ind {α : Type} {p : List α → Prop} (h0 : p []) (h1 : ∀ l a, p l → p (l ++ [a])) (l : List α) : p l := by
  rw [← List.reverse_reverse l]
  induction l.reverse with
  | nil => exact h0
  | cons a r ih => rw [List.reverse_cons]; exact h1 _ _ ih
theorem playO_len (ps : List S31) : (playO ps).length ≤ ps.length := by
  induction ps using snoc_ind with
  | h0 => exact Nat.le_refl _
  | h1 ps p ih =>
    rw [playO_snoc, List.length_append]
    exact Nat.le_trans (putO_len _ _ _ _) (Nat.succ_le_succ ih)
theorem putO_keys {key val : ByteArray} {h : Int} {l : List One} : ∀ x ∈ putO key val h l, x.1 = key ∨ ∃ y ∈ l, y.1 = x.1 := by
  intro x hx
  unfold putO at hx
  cases hf : findO key l with
  | some z =>
    rw [hf] at hx
    obtain ⟨y, hy, rfl⟩ := List.mem_map.1 hx
    refine .inr ⟨y, hy, ?_⟩
    unfold setO; split <;> rfl
  | none =>
    rw [hf] at hx
    rcases List.mem_append.1 hx with h1 | h1
    · exact .inr ⟨x, (List.takeWhile_sublist _).subset h1, rfl⟩
    · rcases List.mem_cons.1 h1 with rfl | h1
      · exact .inl rfl
      · exact .inr ⟨x, (List.dropWhile_sublist _).subset h1, rfl⟩
theorem playO_keys (ps : List S31) : ∀ x ∈ playO ps, ∃ p ∈ ps, p.f0 = x.1 := by
  induction ps using snoc_ind with
  | h0 => intro x hx; cases hx
  | h1 ps p ih =>
    intro x hx
    rw [playO_snoc] at hx
    rcases putO_keys x hx with h | ⟨y, hy, h⟩
    · exact ⟨p, by simp, h.symm⟩
    · obtain ⟨q, hq, hq2⟩ := ih y hy
      exact ⟨q, List.mem_append_left _ hq, hq2.trans h⟩
theorem lane0 {l : List One} (h : GoodO l) : laneO 0 l = l.map (·.1) := by
  unfold laneO
  rw [if_neg (by decide), List.filter_eq_self.2]
  intro x hx
  have := (h.hs x hx).1
  simp; omega
theorem drop_app {p : One → Bool} : ∀ {a b : List One}, (∀ x ∈ a, p x = true) → (∀ x, b.head? = some x → p x = false) → (a ++ b).dropWhile p = b
  | [], [], _, _ => rfl
  | [], y :: b, _, h => by rw [List.nil_append, List.dropWhile_cons, if_neg (by rw [h y rfl]; decide)]
  | x :: a, b, h, h2 => by
    rw [List.cons_append, List.dropWhile_cons, if_pos (h x List.mem_cons_self)]
    exact drop_app (fun y hy => h y (List.mem_cons_of_mem _ hy)) h2
theorem take_app {p : One → Bool} : ∀ {a b : List One}, (∀ x ∈ a, p x = true) → (∀ x, b.head? = some x → p x = false) → (a ++ b).takeWhile p = a
  | [], [], _, _ => rfl
  | [], y :: b, _, h => by rw [List.nil_append, List.takeWhile_cons, if_neg (by rw [h y rfl]; decide)]
  | x :: a, b, h, h2 => by
    rw [List.cons_append, List.takeWhile_cons, if_pos (h x List.mem_cons_self), take_app (fun y hy => h y (List.mem_cons_of_mem _ hy)) h2]
theorem bl_snoc0 : ∀ x y : List UInt8, Op.bytesLess x (y ++ [0]) = true ↔ Op.bytesLess x y = true ∨ x = y
  | [], [] => by simp [Op.bytesLess]
  | [], b :: y => by simp [Op.bytesLess]
  | a :: x, [] => by
    rw [List.nil_append, bl_cons_iff]
    have h0 : ¬ a < 0 := fun h => Nat.not_lt_zero _ (show a.toNat < (0 : UInt8).toNat from h)
    have h1 : Op.bytesLess x [] = false := by cases x <;> rfl
    have h2 : Op.bytesLess (a :: x) [] = false := rfl
    rw [h1, h2]
    simp [h0]
  | a :: x, b :: y => by
    rw [List.cons_append, bl_cons_iff, bl_cons_iff, bl_snoc0 x y]
    constructor
    · rintro (h | ⟨h, h1 | h1⟩)
      · exact .inl (.inl h)
      · exact .inl (.inr ⟨h, h1⟩)
      · exact .inr (by rw [h, h1])
    · rintro ((h | ⟨h, h1⟩) | h)
      · exact .inl h
      · exact .inr ⟨h, .inl h1⟩
      · obtain ⟨h1, h2⟩ := List.cons.inj h
        exact .inr ⟨h1, .inr h2⟩
theorem toList_app (a b : ByteArray) : (a ++ b).toList = a.toList ++ b.toList := by
  rw [← toList_data, ← toList_data, ← toList_data, ByteArray.data_append, Array.toList_append]
theorem bless_nil (x : ByteArray) : bless x (⟨#[]⟩ : ByteArray) = false := by
  have h : ∀ l : List UInt8, Op.bytesLess l [] = false := fun l => by cases l <;> rfl
  unfold bless
  rw [lit_toList #[]]
  exact h _
def atO (l : List One) : Nat → ByteArray
  | 0 => ⟨#[]⟩
  | i + 1 => (l.getD i (⟨#[]⟩, ⟨#[]⟩, 0)).1 ++ ⟨#[0]⟩
theorem atO_succ {l : List One} {i : Nat} (hi : i < l.length) : atO l (i + 1) = l[i].1 ++ ⟨#[0]⟩ := by
  show (l.getD i _).1 ++ _ = _
  rw [List.getD_eq_getElem?_getD, List.getElem?_eq_getElem hi]; rfl
theorem more_at {l : List One} (hG : GoodO l) : ∀ i, i ≤ l.length → moreO (atO l i) l = l.drop i
  | 0, _ => by
    unfold moreO atO
    have := drop_app (p := fun x : One => bless x.1 (⟨#[]⟩ : ByteArray)) (a := []) (b := l) (fun x hx => by cases hx) (fun x _ => bless_nil x.1)
    exact this
  | i + 1, hi => by
    have hi' : i < l.length := hi
    unfold moreO
    rw [atO_succ hi']
    have hsplit : l = l.take i ++ l[i] :: l.drop (i + 1) := by
      rw [← List.drop_eq_getElem_cons hi', List.take_append_drop]
    have hs := hG.sorted
    rw [hsplit] at hs
    obtain ⟨h1, h2, h3⟩ := List.pairwise_append.1 hs
    obtain ⟨h4, h5⟩ := List.pairwise_cons.1 h2
    have hle : ∀ x : One, bless x.1 (l[i].1 ++ ⟨#[0]⟩) = true ↔ bless x.1 l[i].1 = true ∨ x.1.toList = l[i].1.toList := fun x => by
      show Op.bytesLess _ _ = true ↔ _
      rw [toList_app, lit_toList #[0]]
      exact bl_snoc0 _ _
    have := drop_app (p := fun x : One => bless x.1 (l[i].1 ++ (⟨#[0]⟩ : ByteArray))) (a := l.take i ++ [l[i]]) (b := l.drop (i + 1)) (fun x hx => ?_) (fun x hx => ?_)
    · rw [List.append_assoc, List.singleton_append, ← hsplit] at this
      exact this
    · rw [hle]
      rcases List.mem_append.1 hx with hx | hx
      · exact .inl (h3 x hx _ List.mem_cons_self)
      · rw [List.mem_singleton.1 hx]; exact .inr rfl
    · have hx' := List.mem_of_mem_head? hx
      have h6 := h4 x hx'
      cases hb : bless x.1 (l[i].1 ++ (⟨#[0]⟩ : ByteArray)) with
      | false => rfl
      | true =>
        rcases (hle x).1 hb with h7 | h7
        · have := bl_trans h6 h7
          rw [bl_irr] at this; cases this
        · unfold bless at h6
          rw [h7, bl_irr] at h6; cases h6
theorem seekO_at {l : List One} (hG : GoodO l) (i : Nat) (hi : i < l.length) : seekO (atO l i) l = (l[i].1, l[i].2.1, true) := by
  unfold seekO
  rw [more_at hG i (Nat.le_of_lt hi), List.drop_eq_getElem_cons hi]
  rfl
theorem seekO_end {l : List One} (hG : GoodO l) : (seekO (atO l l.length) l).2.2 = false := by
  unfold seekO
  rw [more_at hG _ (Nat.le_refl _), List.drop_length]
  rfl
theorem more_key {l : List One} (hG : GoodO l) (i : Nat) (hi : i < l.length) : moreO l[i].1 l = l.drop i ∧ lessO l[i].1 l = l.take i := by
  have hsplit : l = l.take i ++ l[i] :: l.drop (i + 1) := by
    rw [← List.drop_eq_getElem_cons hi, List.take_append_drop]
  have hs := hG.sorted
  rw [hsplit] at hs
  obtain ⟨h1, h2, h3⟩ := List.pairwise_append.1 hs
  have hl : l.take i ++ l.drop i = l := List.take_append_drop _ _
  have a1 : ∀ x ∈ l.take i, (fun x : One => bless x.1 l[i].1) x = true := fun x hx => h3 x hx _ List.mem_cons_self
  have a2 : ∀ x, (l.drop i).head? = some x → (fun x : One => bless x.1 l[i].1) x = false := fun x hx => by
    rw [List.drop_eq_getElem_cons hi] at hx
    rw [List.head?_cons] at hx
    obtain rfl := Option.some.inj hx
    exact bl_irr _
  have b1 := drop_app a1 a2
  have b2 := take_app a1 a2
  rw [hl] at b1 b2
  exact ⟨b1, b2⟩
theorem findO_at {l : List One} (hG : GoodO l) (i : Nat) (hi : i < l.length) : findO l[i].1 l = some l[i] := by
  unfold findO
  rw [(more_key hG i hi).1, List.drop_eq_getElem_cons hi, List.head?_cons]
  simp only [if_true]
theorem getO_at {l : List One} (hG : GoodO l) (i : Nat) (hi : i < l.length) : getO l[i].1 l = (l[i].2.1, true) := by
  unfold getO; rw [findO_at hG i hi]
theorem heightO_at {l : List One} (hG : GoodO l) (i : Nat) (hi : i < l.length) : heightO l[i].1 l = l[i].2.2 := by
  unfold heightO; rw [findO_at hG i hi]
end Go.Proofs.Ytdeiaicplcpbeaa.Print
