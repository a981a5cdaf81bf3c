/- Words of this session's own. -/
import Derived.Test.YtbdkfmhkgeoeaaaWAll
import Derived.SizedLaws
import Derived.Deep.Slices
import Derived.ChangeArms
namespace Go.Proofs.YtbdkfmhkgeoeaaaX
open Go.RowKit Go.Proofs.YtbdkfmhkgeoeaaaW.PrintWords Go.ChangeShapes Go.WideShapes Go.Deep
set_option linter.unusedVariables false
set_option linter.unusedSimpArgs false

/-- Whatever reads as data at type t, within the row's weights, is told by kind K, and V holds of it. -/
def Rd (P : Program) (t : TypeId) {α : Type} (K : Kd α) (V : α → Prop) : Prop :=
  ∀ (H : Type) (enc : TypeId × Value → H) (w : World) (fuel : Nat) (cs : List Value) (d : DataW H) (ps : List MemPlace),
    DataW.trod enc P w 0 (fun _ => true) true fuel t cs = some (d, ps) → (∀ n ∈ d.weights P t, n ≤ reachBytes) → ∃ y, K.K w y cs ∧ V y

theorem Rd.mono {P : Program} {t : TypeId} {α : Type} {K : Kd α} {V V' : α → Prop} (h : Rd P t K V) (hV : ∀ x, V x → V' x) : Rd P t K V' := by
  intro H enc w fuel cs d ps ht hw
  obtain ⟨y, h1, h2⟩ := h H enc w fuel cs d ps ht hw
  exact ⟨y, h1, hV y h2⟩

theorem Rd_int {P : Program} {t : TypeId} {k : IntKind} (ht : P.underlying t = some (.int k)) : Rd P t (Kd.int k) (fun n => (Lit.int k n).wf = true) := by
  intro H enc w fuel cs d ps h hw
  obtain ⟨n, rfl, _, hn⟩ := DataW.trod_int ht h
  exact ⟨n, rfl, hn⟩

theorem Rd_bool {P : Program} {t : TypeId} (ht : P.underlying t = some .bool) : Rd P t Kd.bool (fun _ => True) := by
  intro H enc w fuel cs d ps h hw
  obtain ⟨n, rfl, _⟩ := DataW.trod_bool ht h
  exact ⟨n, rfl, trivial⟩

theorem Rd_string {P : Program} {t : TypeId} (ht : P.underlying t = some .string) : Rd P t Kd.string (fun s => s.size ≤ 140737488351232) := by
  intro H enc w fuel cs d ps h hw
  obtain ⟨s, rfl, hx, hs⟩ := DataW.trod_string ht h
  refine ⟨s, rfl, ?_⟩
  obtain ⟨rfl, _⟩ := Prod.mk.inj hx
  have := hw s.data.toList.length (by simp [DataW.weights])
  rw [Array.length_toList] at this
  exact this

theorem build_list {α : Type} (Q : Nat → α → Prop) : ∀ n, (∀ i, i < n → ∃ y, Q i y) → ∃ l : List α, l.length = n ∧ ∀ i p, l[i]? = some p → Q i p := by
  intro n
  induction n with
  | zero => exact fun _ => ⟨[], rfl, fun i p h => by simp at h⟩
  | succ n ih =>
    intro h
    obtain ⟨l, hl, hq⟩ := ih (fun i hi => h i (by omega))
    obtain ⟨y, hy⟩ := h n (by omega)
    refine ⟨l ++ [y], by simp [hl], fun i p hp => ?_⟩
    rw [List.getElem?_append] at hp
    split at hp
    · exact hq i p hp
    · rename_i hi
      have hin : i - l.length = 0 := by
        rcases Nat.lt_or_ge 0 (i - l.length) with h1 | h1
        · rw [List.getElem?_eq_none (by simp; omega)] at hp
          cases hp
        · omega
      rw [hin] at hp
      have hp' : y = p := by simpa using hp
      have hi' : i = n := by omega
      rw [← hp', hi']
      exact hy

theorem weightsAll_of_mem {H : Type} {P : Program} {e : TypeId} {l : List (DataW H)} {d : DataW H} (h : d ∈ l) : ∀ n ∈ d.weights P e, n ∈ DataW.weightsAll P e l := by
  induction l with
  | nil => cases h
  | cons a l ih =>
    intro n hn
    simp only [DataW.weightsAll, List.mem_append]
    rcases List.mem_cons.1 h with rfl | h
    · exact .inl hn
    · exact .inr (ih h n hn)

theorem Rd_slice {P : Program} {t e : TypeId} {α : Type} {K : Kd α} {V : α → Prop} {B : Nat} (ht : P.underlying t = some (.slice e)) (hC : P.cellsOf e = K.sz) (hB : P.bytesOf e = B) (h : Rd P e K V) :
    Rd P t (Kd.slice e K) (fun l => l.length ≤ maxLen ∧ l.length * B ≤ 140737488351232 ∧ ∀ x ∈ l, V x) := by
  intro H enc w fuel cs d ps hf hw
  rcases open_slice ht hf with ⟨rfl, _⟩ | ⟨a, len, cap, m, n, D, Pl, rfl, _, hl, hm, hmm, hx, hi⟩
  · refine ⟨[], ⟨none, 0, rfl, Nat.le_refl _, ⟨rfl, by simp, fun h => absurd h (Nat.lt_irrefl _)⟩⟩, by simp, by simp, fun x hx => by cases hx⟩
  · obtain ⟨rfl, _⟩ := Prod.mk.inj hx
    simp only [DataW.weights, ht] at hw
    have hlm : len ≤ m := by rw [hmm]; simpa using hl
    obtain ⟨l, hll, hq⟩ := build_list (fun i (y : α) => ∃ cs', w.cells? 0 (a.add (i * P.cellsOf e)) (P.cellsOf e) = some cs' ∧ K.K w y cs' ∧ V y) len (fun i hil => by
      obtain ⟨cs', hc, htr⟩ := hi i (by omega)
      obtain ⟨y, hK, hV⟩ := h H enc w n cs' _ _ htr (fun q hq => hw q (List.mem_cons_of_mem _ (List.mem_append_left _ (weightsAll_of_mem (List.mem_map.2 ⟨i, List.mem_range.2 hil, rfl⟩) q hq))))
      exact ⟨y, cs', hc, hK, hV⟩)
    have hmax : len ≤ 9223372036854775807 := by have := hm; unfold maxLen at this; omega
    refine ⟨l, ⟨some a, cap, by rw [hll], by rw [hll]; exact hl, ⟨rfl, by rw [hll]; exact hmax, fun _ => ⟨a, rfl, fun j p hp => ?_⟩⟩⟩, by rw [hll]; unfold maxLen; exact hmax, ?_, fun x hx => ?_⟩
    · obtain ⟨cs', hc, hK, _⟩ := hq j p hp
      obtain ⟨_, hcl, hat⟩ := World.cells?_some hc
      rw [hC] at hcl
      refine ⟨cs', hcl, hK, fun i u hu => ?_⟩
      have hil : i < K.sz := by rw [← hcl]; exact (List.getElem?_eq_some_iff.1 hu).1
      have := hat i (by rw [hC]; exact hil)
      rw [Go.Deep.add_add, hC] at this
      rw [this, hu]
    · have := hw ((len + (m - len)) * P.bytesOf e) (by simp)
      rw [hB] at this
      rw [hll]
      exact Nat.le_trans (Nat.mul_le_mul_right _ (by omega)) this
    · obtain ⟨i, hi', rfl⟩ := List.mem_iff_getElem.1 hx
      obtain ⟨_, _, _, hV⟩ := hq i _ (List.getElem?_eq_getElem hi')
      exact hV

/-- One argument, out of the row's reading. -/
theorem Rd.arg {P : Program} {t : TypeId} {α : Type} {K : Kd α} {V : α → Prop} (h : Rd P t K V) {H : Type} {enc : TypeId × Value → H} {w : World} {v : Value} {d : DataW H} {ps : List MemPlace} {ts : List TypeId} {ds : List (DataW H)} {j : Nat}
    (hsz : (DataW.weightsEach P ts ds).all (· ≤ reachBytes) = true) (ht : ts[j]? = some t) (hd : ds[j]? = some d) (hf : DataW.Trod enc P w 0 (fun _ => true) true t v d ps) : ∃ y, K.K w y v.cells.toList ∧ V y := by
  obtain ⟨fuel, hf⟩ := hf
  refine h H enc w fuel _ d ps hf (fun n hn => ?_)
  have := List.all_eq_true.1 hsz _ (DataW.weights_mem_each ht hd n hn)
  simpa using this

theorem weightsEach_mem {H : Type} {P : Program} {ts : List TypeId} {ds : List (DataW H)} {j : Nat} {t : TypeId} {d : DataW H} (ht : ts[j]? = some t) (hd : ds[j]? = some d) : ∀ n ∈ d.weights P t, n ∈ DataW.weightsEach P ts ds := DataW.weights_mem_each ht hd

end Go.Proofs.YtbdkfmhkgeoeaaaX
