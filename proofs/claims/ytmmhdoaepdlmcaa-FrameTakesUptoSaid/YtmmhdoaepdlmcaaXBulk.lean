/- Words of this session's own. -/
import Derived.Test.YtmmhdoaepdlmcaaXRead
import Derived.Test.YtmmhdoaepdlmcaaRows
import Derived.Deep.CondSized
namespace Go.Proofs.YtmmhdoaepdlmcaaX
open Go.RowKit Go.Proofs.YtmmhdoaepdlmcaaW.PrintWords Go.ChangeShapes Go.WideShapes Go.Deep Go.Proofs.Ytmmhdoaepdlmcaa
set_option linter.unusedVariables false
set_option linter.unusedSimpArgs false

/-! How much a value holds, at least: what the row's second form bounds. -/
def bkS (s : ByteArray) : Nat := s.size + 1
def bkL {α : Type} (B : α → Nat) (l : List α) : Nat := (l.map B).sum + 1
def RdB (P : Program) (t : TypeId) {α : Type} (K : Kd α) (V : α → Prop) (B : α → Nat) : Prop :=
  ∀ (H : Type) (enc : TypeId × Value → H) (w : World) (fuel : Nat) (cs : List Value) (d : DataW H) (ps : List MemPlace),
    DataW.trod enc P w 0 (fun _ => true) true fuel t cs = some (d, ps) → (∀ n ∈ d.weights P t, n ≤ reachBytes) → ∃ y, K.K w y cs ∧ V y ∧ B y ≤ Rows.uptoBulk d

theorem RdB_int {P : Program} {t : TypeId} {k : IntKind} (ht : P.underlying t = some (.int k)) : RdB P t (Kd.int k) (fun n => (Lit.int k n).wf = true) (fun _ => 1) := by
  intro H enc w fuel cs d ps h hw
  obtain ⟨n, rfl, hx, hn⟩ := DataW.trod_int ht h
  obtain ⟨rfl, _⟩ := Prod.mk.inj hx
  exact ⟨n, rfl, hn, Nat.le_refl _⟩
theorem RdB_bool {P : Program} {t : TypeId} (ht : P.underlying t = some .bool) : RdB P t Kd.bool (fun _ => True) (fun _ => 1) := by
  intro H enc w fuel cs d ps h hw
  obtain ⟨n, rfl, hx⟩ := DataW.trod_bool ht h
  obtain ⟨rfl, _⟩ := Prod.mk.inj hx
  exact ⟨n, rfl, trivial, Nat.le_refl _⟩
theorem RdB_string {P : Program} {t : TypeId} (ht : P.underlying t = some .string) : RdB P t Kd.string (fun s => s.size ≤ 140737488351232) bkS := by
  intro H enc w fuel cs d ps h hw
  obtain ⟨s, rfl, hx, hs⟩ := DataW.trod_string ht h
  obtain ⟨rfl, _⟩ := Prod.mk.inj hx
  refine ⟨s, rfl, ?_, ?_⟩
  · have := hw s.data.toList.length (by simp [DataW.weights])
    rw [Array.length_toList] at this
    exact this
  · show s.data.size + 1 ≤ s.data.toList.length + 1
    rw [Array.length_toList]
    exact Nat.le_refl _
theorem bulk_sum {α H : Type} (B : α → Nat) : ∀ (l : List α) (D : Nat → DataW H), (∀ i p, l[i]? = some p → B p ≤ Rows.uptoBulk (D i)) → (l.map B).sum ≤ Rows.uptoBulkAll ((List.range l.length).map D) := by
  intro l
  induction l with
  | nil => intro D h; exact Nat.zero_le _
  | cons a l ih =>
    intro D h
    have h1 := h 0 a rfl
    have h2 := ih (fun i => D (i + 1)) (fun i p hp => h (i + 1) p (by simpa using hp))
    rw [List.length_cons, List.range_succ_eq_map, List.map_cons, List.map_cons, List.sum_cons, Rows.uptoBulkAll, List.map_map]
    exact Nat.add_le_add h1 h2
theorem RdB_slice {P : Program} {t e : TypeId} {α : Type} {K : Kd α} {V : α → Prop} {B : Nat} {Bk : α → Nat} (ht : P.underlying t = some (.slice e)) (hC : P.cellsOf e = K.sz) (hB : P.bytesOf e = B) (h : RdB P e K V Bk) :
    RdB P t (Kd.slice e K) (fun l => l.length ≤ maxLen ∧ l.length * B ≤ 140737488351232 ∧ ∀ x ∈ l, V x) (bkL Bk) := by
  intro H enc w fuel cs d ps hf hw
  rcases open_slice ht hf with ⟨rfl, hx⟩ | ⟨a, len, cap, m, n, D, Pl, rfl, _, hl, hm, hmm, hx, hi⟩
  · obtain ⟨rfl, _⟩ := Prod.mk.inj hx
    exact ⟨[], ⟨none, 0, rfl, Nat.le_refl _, ⟨rfl, by simp, fun h => absurd h (Nat.lt_irrefl _)⟩⟩, ⟨by simp, by simp, fun x hx => by cases hx⟩, Nat.le_refl _⟩
  · obtain ⟨rfl, _⟩ := Prod.mk.inj hx
    simp only [DataW.weights, ht] at hw
    have hlm : len ≤ m := by rw [hmm]; simpa using hl
    obtain ⟨l, hll, hq⟩ := build_list (fun i (y : α) => ∃ cs', w.cells? 0 (a.add (i * P.cellsOf e)) (P.cellsOf e) = some cs' ∧ K.K w y cs' ∧ V y ∧ Bk y ≤ Rows.uptoBulk (D i)) len (fun i hil => by
      obtain ⟨cs', hc, htr⟩ := hi i (by omega)
      obtain ⟨y, hK, hV, hb⟩ := h H enc w n cs' _ _ htr (fun q hq => hw q (List.mem_cons_of_mem _ (List.mem_append_left _ (weightsAll_of_mem (List.mem_map.2 ⟨i, List.mem_range.2 hil, rfl⟩) q hq))))
      exact ⟨y, cs', hc, hK, hV, hb⟩)
    have hmax : len ≤ 9223372036854775807 := by have := hm; unfold maxLen at this; omega
    refine ⟨l, ⟨some a, cap, by rw [hll], by rw [hll]; exact hl, ⟨rfl, by rw [hll]; exact hmax, fun _ => ⟨a, rfl, fun j p hp => ?_⟩⟩⟩, ⟨by rw [hll]; unfold maxLen; exact hmax, ?_, fun x hx => ?_⟩, ?_⟩
    · obtain ⟨cs', hc, hK, _⟩ := hq j p hp
      obtain ⟨_, hcl, hat⟩ := World.cells?_some hc
      rw [hC] at hcl
      refine ⟨cs', hcl, hK, fun i u hu => ?_⟩
      have hil : i < K.sz := by rw [← hcl]; exact (List.getElem?_eq_some_iff.1 hu).1
      have := hat i (by rw [hC]; exact hil)
      rw [Go.Deep.add_add, hC] at this
      rw [this, hu]
    · have := hw ((len + (m - len)) * P.bytesOf e) (by simp)
      rw [hB] at this
      rw [hll]
      exact Nat.le_trans (Nat.mul_le_mul_right _ (by omega)) this
    · obtain ⟨i, hi', rfl⟩ := List.mem_iff_getElem.1 hx
      obtain ⟨_, _, _, hV, _⟩ := hq i _ (List.getElem?_eq_getElem hi')
      exact hV
    · have h1 := bulk_sum Bk l D (fun i p hp => by obtain ⟨_, _, _, _, hb⟩ := hq i p hp; exact hb)
      rw [hll] at h1
      simp only [bkL, Rows.uptoBulk]
      omega

/-- One argument, out of the row's reading. -/
theorem RdB.arg {P : Program} {t : TypeId} {α : Type} {K : Kd α} {V : α → Prop} {B : α → Nat} (h : RdB P t K V B) {H : Type} {enc : TypeId × Value → H} {w : World} {v : Value} {d : DataW H} {ps : List MemPlace} {ts : List TypeId} {ds : List (DataW H)} {j : Nat}
    (hsz : (DataW.weightsEach P ts ds).all (· ≤ reachBytes) = true) (ht : ts[j]? = some t) (hd : ds[j]? = some d) (hf : DataW.Trod enc P w 0 (fun _ => true) true t v d ps) : ∃ y, K.K w y v.cells.toList ∧ V y ∧ B y ≤ Rows.uptoBulk d := by
  obtain ⟨fuel, hf⟩ := hf
  refine h H enc w fuel _ d ps hf (fun n hn => ?_)
  have := List.all_eq_true.1 hsz _ (DataW.weights_mem_each ht hd n hn)
  simpa using this
end Go.Proofs.YtmmhdoaepdlmcaaX
