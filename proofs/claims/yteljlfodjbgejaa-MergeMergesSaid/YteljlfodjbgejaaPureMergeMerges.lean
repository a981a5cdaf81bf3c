/- Any lists are merged as the chapter says, or refused: for all arguments that the row lets in. -/
import Derived.Test.YteljlfodjbgejaaMergeC
import Derived.Test.YteljlfodjbgejaaPrint10
namespace Go.Proofs.Yteljlfodjbgejaa.Pure
open Go.RowKit Go.Proofs.Yteljlfodjbgejaa.Print Go.Proofs.YteljlfodjbgejaaX Go.Proofs.YteljlfodjbgejaaW.PrintWords Go.Proofs.YteljlfodjbgejaaW.PrintLast
set_option linter.unusedVariables false
set_option linter.unusedSimpArgs false

theorem mm_l2 (t : Bool) (own : List (List Ent)) (want : List Ent) (ok : Bool) (turn : Int) (K : Option Bool) : ∀ (n i : Nat) (xs : List Ent) (k : Nat), xs.length - i = n → i ≤ xs.length → xs.length ≤ 1000000 → n < k →
    (∀ k', k - n - 1 ≤ k' → palinodelaw15_MergeMerges.l1 k' t own want ok (wrap64 (turn + 1)) = K) → palinodelaw15_MergeMerges.l2 k t own want ok turn xs (i : Int) = K := by
  intro n
  induction n with
  | zero =>
    intro i xs k hn hi hx hk h
    obtain ⟨k, rfl⟩ : ∃ q, k = q + 1 := ⟨k - 1, by omega⟩
    simp only [palinodelaw15_MergeMerges.l2]
    rw [if_neg (by omega)]
    exact h k (by omega)
  | succ n ih =>
    intro i xs k hn hi hx hk h
    obtain ⟨k, rfl⟩ : ∃ q, k = q + 1 := ⟨k - 1, by omega⟩
    have hw1 : Aside0 (wrap64 ((i : Int) + 1) = ((i + 1 : Nat) : Int)) := ⟨by unfold wrap64; omega⟩
    simp only [palinodelaw15_MergeMerges.l2]
    rw [if_pos (by omega), if_pos (by omega), hw1.out]
    refine ih (i + 1) _ k (by rw [List.length_set]; omega) (by rw [List.length_set]; omega) (by rw [List.length_set]; exact hx) (by omega) (fun k' hk' => h k' (by omega))
theorem mm_j3 (t : Bool) (own : List (List Ent)) (want : List Ent) (ok : Bool) (turn : Int) (xs : List Ent) (K : Option Bool) (k : Nat) (hx : xs.length ≤ 1000) (hk : 2000 < k) (h : ∀ k', k ≤ k' + 1002 → palinodelaw15_MergeMerges.l1 k' t own want ok (wrap64 (turn + 1)) = K) : palinodelaw15_MergeMerges.j3 k t own want ok turn xs false = K := by
  obtain ⟨k, rfl⟩ : ∃ q, k = q + 1 := ⟨k - 1, by omega⟩
  simp only [palinodelaw15_MergeMerges.j3]
  rw [if_neg (show ¬ (false = true) by decide)]
  exact mm_l2 t own want ok turn K xs.length 0 xs k (by omega) (by omega) (by omega) (by omega) (fun k' hk' => h k' (by omega))
/-- One turn. -/
theorem mm_turn (t : Bool) (own : List (List Ent)) (hls : own.length ≤ 12) (hx : ∀ l ∈ own, l.length ≤ 60) (hm : (mergeR own).length ≤ 1000) (turn : Int) (ht : turn < 2) (K : Option Bool) (k : Nat) (hk : 3003 < k)
    (h : ∀ k', k ≤ k' + 1003 → palinodelaw15_MergeMerges.l1 k' t own (if own.all sortedB = true then mergeR own else []) (own.all sortedB) (wrap64 (turn + 1)) = K) :
    palinodelaw15_MergeMerges.l1 k t own (if own.all sortedB = true then mergeR own else []) (own.all sortedB) turn = K := by
  obtain ⟨k, rfl⟩ : ∃ q, k = q + 1 := ⟨k - 1, by omega⟩
  simp only [palinodelaw15_MergeMerges.l1]
  rw [if_pos ht, merge_val own (by omega) (fun l hl => by have := hx l hl; omega), Option.bind_some]
  cases hs : own.all sortedB with
  | true =>
    rw [hs, if_pos (show true = true from rfl)] at h
    rw [if_pos (show true = true from rfl), if_pos (show true = true from rfl)]
    dsimp only
    rw [entries_self _ (by omega) k (by omega), Option.bind_some, if_pos (show true = true from rfl), if_pos (show (none : Option Int).isNone = true from rfl), if_neg (by decide), if_pos (show true = true from rfl)]
    exact mm_j3 t own (mergeR own) true turn (mergeR own) K k hm (by omega) (fun k' hk' => h k' (by omega))
  | false =>
    rw [hs, if_neg (show ¬ (false = true) by decide)] at h
    rw [if_neg (show ¬ (false = true) by decide), if_neg (show ¬ (false = true) by decide)]
    dsimp only
    rw [entries_self [] (by simp) k (by simp; omega), Option.bind_some, if_pos (show true = true from rfl), if_neg (by decide), if_neg (by decide), if_neg (by decide)]
    show (some true).bind (fun t257 => palinodelaw15_MergeMerges.j3 k t own [] false turn [] (!t257)) = K
    rw [Option.bind_some]
    exact mm_j3 t own [] false turn [] K k (by simp) (by omega) (fun k' hk' => h k' (by omega))
theorem mm_j1 (own : List (List Ent)) (hls : own.length ≤ 12) (hx : ∀ l ∈ own, l.length ≤ 60) (k : Nat) (hk : 9000 < k) : palinodelaw15_MergeMerges.j1 k true own = some true := by
  obtain ⟨k, rfl⟩ : ∃ q, k = q + 1 := ⟨k - 1, by omega⟩
  have hm : (mergeR own).length ≤ 1000 := by
    have h1 := mergeStep_fold (mergedF own (restF own (List.replicate own.length 0) + 1) (List.replicate own.length 0)) []
    have h2 := merged_len own (restF own (List.replicate own.length 0) + 1) (List.replicate own.length 0)
    have h3 : restF own (List.replicate own.length 0) ≤ own.length * 60 := by
      have key : ∀ (ls : List (List Ent)) (ks : List Nat), (∀ l ∈ ls, l.length ≤ 60) → restF ls ks ≤ ls.length * 60 := by
        intro ls
        induction ls with
        | nil => intro ks _; cases ks <;> simp [restF]
        | cons l ls ih =>
          intro ks h
          cases ks with
          | nil => simp [restF]
          | cons q ks =>
            have h1 := ih ks (fun x hx => h x (List.mem_cons_of_mem _ hx))
            have h2 := h l List.mem_cons_self
            simp only [restF, List.length_cons]
            omega
      exact key _ _ hx
    unfold mergeR
    simp only [List.length_nil] at h1
    omega
  simp only [palinodelaw15_MergeMerges.j1]
  rw [refMerge_val own hls hx k (by omega), Option.bind_some]
  have hpr : (if own.all sortedB = true then (mergeR own, true) else ([], false)) = ((if own.all sortedB = true then mergeR own else []), own.all sortedB) := by
    cases own.all sortedB with
    | true => rfl
    | false => rfl
  rw [hpr]
  dsimp only
  have w0 : wrap64 (0 + 1) = 1 := by unfold wrap64; omega
  have w1 : wrap64 (1 + 1) = 2 := by unfold wrap64; omega
  refine mm_turn true own hls hx hm 0 (by decide) _ k (by omega) (fun k1 hk1 => ?_)
  rw [w0]
  refine mm_turn true own hls hx hm 1 (by decide) _ k1 (by omega) (fun k2 hk2 => ?_)
  rw [w1]
  obtain ⟨k2, rfl⟩ : ∃ q, k2 = q + 1 := ⟨k2 - 1, by omega⟩
  simp only [palinodelaw15_MergeMerges.l1]
  rw [if_neg (by decide)]
theorem mm_l0 (ls : List (List Ent)) (hls : ls.length ≤ 1000000000000000) : ∀ (n i : Nat) (acc : List (List Ent)) (k : Nat), 12 - i = n → i ≤ 12 → acc.length = i → (∀ l ∈ acc, l.length ≤ 60) → 9001 + n < k → palinodelaw15_MergeMerges.l0 k ls true acc (i : Int) = some true := by
  intro n
  induction n with
  | zero =>
    intro i acc k hn hi ha hx hk
    obtain ⟨k, rfl⟩ : ∃ q, k = q + 1 := ⟨k - 1, by omega⟩
    simp only [palinodelaw15_MergeMerges.l0]
    by_cases c : (i : Int) < (ls.length : Int)
    · rw [if_pos c, if_neg (by omega)]
      exact mm_j1 acc (by omega) hx k (by omega)
    · rw [if_neg c]
      exact mm_j1 acc (by omega) hx k (by omega)
  | succ n ih =>
    intro i acc k hn hi ha hx hk
    obtain ⟨k, rfl⟩ : ∃ q, k = q + 1 := ⟨k - 1, by omega⟩
    have hw1 : Aside0 (wrap64 ((i : Int) + 1) = ((i + 1 : Nat) : Int)) := ⟨by unfold wrap64; omega⟩
    simp only [palinodelaw15_MergeMerges.l0]
    by_cases c : (i : Int) < (ls.length : Int)
    · obtain ⟨q, hq, hq2, m1, m2⟩ := mn_take (rd_L4 ls (i : Int)) 60
      have e60 : ((60 : Nat) : Int) = 60 := rfl
      rw [e60] at hq2 m1 m2
      rw [if_pos c, if_pos (by omega), if_pos (by omega), if_pos m1, if_pos m2, Option.bind_some, ← hq2, if_pos (by simp; omega), if_pos (by omega), hw1.out]
      refine ih (i + 1) (acc ++ [[] ++ q]) k (by omega) (by omega) (by rw [List.length_append]; simp; omega) (fun l hl => ?_) (by omega)
      rcases List.mem_append.1 hl with f | f
      · exact hx l f
      · rw [List.mem_singleton.1 f]; simpa using hq
    · rw [if_neg c]
      exact mm_j1 acc (by omega) hx k (by omega)
theorem MergeMerges : palinodelaw15_MergeMerges.Pure := by
  refine ⟨fun r h => by rw [examples_val] at h; exact (Option.some.inj h).symm, ?_⟩
  intro l0 h0
  refine ⟨10000, ?_⟩
  unfold palinodelaw15_MergeMerges.f
  rw [examples_val, Option.bind_some]
  exact mm_l0 l0 (by omega) 12 0 [] 10000 (by omega) (by omega) rfl (fun l hl => by cases hl) (by omega)
end Go.Proofs.Yteljlfodjbgejaa.Pure
