import Derived.Test.YtdeiaicplcpbeaaSkipLanes
namespace Go.Proofs.Ytdeiaicplcpbeaa.Print
open Go.RowKit Go.Proofs.YtdeiaicplcpbeaaX Go.Proofs.YtdeiaicplcpbeaaW.PrintWords Go.Proofs.YtdeiaicplcpbeaaW.PrintLast
set_option linter.unusedVariables false
set_option linter.unusedSimpArgs false

/-! ## Blocks of other types stay -/
def FrT (T : List Nat) (w w' : World) : Prop := ∀ (k : Nat) (c : Array Value) (t : TypeId) (f : Nat × Nat), w.heap[k]? = some (.cells c t f) → t ∉ T → w'.heap[k]? = w.heap[k]?
theorem FrT.refl (T : List Nat) (w : World) : FrT T w w := fun _ _ _ _ _ _ => rfl
theorem FrT.trans {T : List Nat} {a b c : World} (h : FrT T a b) (k : FrT T b c) : FrT T a c := fun i x t f hx ht => by
  have h1 := h i x t f hx ht
  exact (k i x t f (h1.trans hx) ht).trans h1
theorem FrT.below {T : List Nat} {a b : World} (h : Below a.heap.size a b) : FrT T a b := fun i x t f hx _ => h.block i (Array.getElem?_eq_some_iff.1 hx).1
theorem FrT.cell {T : List Nat} {a b : World} (h : FrT T a b) {g o t : Nat} {c : Array Value} {f : Nat × Nat} (hg : a.heap[g]? = some (.cells c t f)) (ht : t ∉ T) : b.cell? ⟨g, o, none⟩ = a.cell? ⟨g, o, none⟩ := World.cell?_of_block (w := a) (h g c t f hg ht)
abbrev TL : List Nat := [51, 49]
abbrev TR : List Nat := [29, 55]
theorem SH.blk {W : World} {lb m : Nat} {L : List Nd} {nx : Nat → Nat → Option Nat} (h : SH W lb m L nx) {b : Nat} (hb : b ∈ blks lb L) : ∃ c t, W.heap[b]? = some (.cells c t (0, 0)) ∧ t ∈ TL := by
  rcases List.mem_cons.1 hb with rfl | hb
  · exact ⟨_, _, h.head, by simp⟩
  · obtain ⟨x, hx, rfl⟩ := List.mem_map.1 hb
    exact ⟨_, _, h.node x hx, by simp⟩
theorem LS.frame {n0 lb : Nat} {l : List One} {W W' : World} (h : LS n0 W lb l) (hf : FrT TR W W') : LS n0 W' lb l := by
  obtain ⟨L, h1, h2, h3⟩ := h
  refine ⟨L, h1.move (fun b hb => ?_), h2, h3⟩
  obtain ⟨nx, hH, _, _⟩ := h1
  obtain ⟨c, t, e, ht⟩ := hH.blk hb
  refine hf b c t _ e (fun hm => ?_)
  have : ∀ x ∈ TL, x ∉ TR := by decide
  exact this t ht hm
theorem put_asF (n0 lb : Nat) (l : List One) (key val : ByteArray) (h : Int) (w : World) (hS : LS n0 w lb l) (hlen : l.length ≤ 1000000) :
    Calls Try.prog 9 #[.pointer (some ⟨lb, 0, none⟩), .string key, .string val, .int .i64 h] w fun e w' => e = .returned (.bool (findO key l).isNone) ∧ LS n0 w' lb (putO key val h l) ∧ FrT TL w w' ∧ Below n0 w w' := by
  obtain ⟨L, h1, h2, rfl⟩ := hS
  rw [ab_len] at hlen
  refine (put_calls lb L key val h n0 w h1 hlen h2).mono ?_
  rintro e w' ⟨nb, hnb, rfl, hS', hF, hB⟩
  obtain ⟨nx, hH, _, hG⟩ := id h1
  refine ⟨by rw [ab_isNone], ⟨_, hS', fun b hb => ?_, ab_put hG⟩, fun k c t f hk ht => hF k (Array.getElem?_eq_some_iff.1 hk).1 (fun hm => ?_), hB⟩
  · rcases put_blks b hb with h | rfl
    · exact h2 b h
    · exact Nat.le_trans (Nat.le_of_lt (Nat.lt_of_le_of_lt (h2 lb List.mem_cons_self) (h1.lt List.mem_cons_self))) hnb
  · obtain ⟨c2, t2, e2, ht2⟩ := hH.blk hm
    rw [e2] at hk
    have hk2 := Option.some.inj hk
    injection hk2 with _ e3 _
    exact ht (e3 ▸ ht2)

/-! ## The document's own list -/
abbrev S1 := S55
abbrev K1 := k55
def toS (x : One) : S1 := ⟨x.1, x.2.1, (x.2.2 : Int)⟩
def cellsO (l : List One) : List Value := l.flatMap (fun x => [.string x.1, .string x.2.1, .int .i64 (x.2.2 : Int)])
def ORow (W : World) (base : Nat) (v : Value) (l : List One) : Prop := W.ownsRow base 55 3 v l.length (cellsO l)
theorem reps_O {R : S1 → List Value → Prop} (hR : ∀ x, R x [.string x.f0, .string x.f1, .int .i64 x.f2]) : ∀ l : List One, Reps R 3 (l.map toS) (cellsO l)
  | [] => Reps.none _ _
  | x :: l => Kd.reps_append (ps := [toS x]) (cs := [.string x.1, .string x.2.1, .int .i64 (x.2.2 : Int)]) (Reps.snoc (Reps.none _ _) (hR (toS x)) rfl) (reps_O hR l)
theorem ORow.R {W : World} {base : Nat} {v : Value} {l : List One} (h : ORow W base v l) (ok : Nat → Prop) (hok : ∀ k, v.ownBlock = some k → ok k) : K1.R 55 W base ok v (l.map toS) := by
  refine ⟨hok, cellsO l, ?_, reps_O (fun x => k55_mkM _ _ _ x) l⟩
  rw [List.length_map]; exact h
theorem reps_cons {α : Type} {R : α → List Value → Prop} {sz : Nat} {x : α} {ps : List α} {cs : List Value} (h : Reps R sz (x :: ps) cs) : R x (cs.take sz) ∧ Reps R sz ps (cs.drop sz) := by
  refine ⟨?_, ?_, fun j p hp => ?_⟩
  · have := h.2 0 x rfl
    rwa [Nat.zero_mul, List.drop_zero] at this
  · rw [List.length_drop, h.1, List.length_cons, Nat.succ_mul]; omega
  · have := h.2 (j + 1) p hp
    rw [List.drop_drop]
    rwa [Nat.succ_mul, Nat.add_comm] at this
theorem reps_eq {R : S1 → List Value → Prop} (hR : ∀ x cs, R x cs → cs = [.string x.f0, .string x.f1, .int .i64 x.f2]) : ∀ (l : List One) (cs : List Value), Reps R 3 (l.map toS) cs → cs = cellsO l
  | [], cs, h => by
    have := h.1
    exact List.eq_nil_of_length_eq_zero (by simpa using this)
  | x :: l, cs, h => by
    obtain ⟨h1, h2⟩ := reps_cons h
    have e1 := hR _ _ h1
    have e2 := reps_eq hR l _ h2
    rw [← List.take_append_drop 3 cs, e1, e2]
    rfl
theorem ORow.of {W : World} {base : Nat} {ok : Nat → Prop} {v : Value} {l : List One} (h : K1.R 55 W base ok v (l.map toS)) : ORow W base v l := by
  obtain ⟨_, inner, ho, hr⟩ := h
  have := reps_eq (fun x cs hx => k55_openM hx) l inner hr
  subst this
  rwa [List.length_map] at ho
theorem ORow.move {W W' : World} {base : Nat} {v : Value} {l : List One} (h : ORow W base v l) (hm : ∀ k, v.ownBlock = some k → W'.heap[k]? = W.heap[k]?) : ORow W' base v l := own_move h hm
/-- A box that holds a row. -/
def RL (n0 : Nat) (W : World) (rb : Nat) (l : List One) : Prop := ∃ v, W.heap[rb]? = some (.cells #[v] 29 (0, 0)) ∧ n0 ≤ rb ∧ ORow W n0 v l
theorem own_blk {W : World} {base n sz : Nat} {e : TypeId} {v : Value} {xs : List Value} (h : W.ownsRow base e sz v n xs) {g : Nat} (hg : v.ownBlock = some g) : ∃ c, W.heap[g]? = some (.cells c e (0, 0)) := by
  rcases h.2 with ⟨rfl, _⟩ | ⟨g', cap, cur, rfl, _, hgb, _⟩
  · simp [Value.ownBlock] at hg
  · obtain rfl : g' = g := by simpa [Value.ownBlock] using hg
    exact ⟨_, hgb⟩
theorem RL.lt {n0 rb : Nat} {l : List One} {W : World} (h : RL n0 W rb l) : rb < W.heap.size := by
  obtain ⟨v, h1, _⟩ := h
  exact (Array.getElem?_eq_some_iff.1 h1).1
theorem RL.below {n0 rb : Nat} {l : List One} {W W' : World} (h : RL n0 W rb l) (hb : Below W.heap.size W W') : RL n0 W' rb l := by
  obtain ⟨v, h1, h2, h3⟩ := h
  refine ⟨v, (hb.block rb (Array.getElem?_eq_some_iff.1 h1).1).trans h1, h2, h3.move fun k hk => ?_⟩
  obtain ⟨c, hc⟩ := own_blk h3 hk
  exact hb.block k (Array.getElem?_eq_some_iff.1 hc).1
theorem RL.frame {n0 rb : Nat} {l : List One} {W W' : World} (h : RL n0 W rb l) (hf : FrT TL W W') : RL n0 W' rb l := by
  obtain ⟨v, h1, h2, h3⟩ := h
  refine ⟨v, (hf _ _ _ _ h1 (by decide)).trans h1, h2, h3.move fun k hk => ?_⟩
  obtain ⟨c, hc⟩ := own_blk h3 hk
  exact hf _ _ _ _ hc (by decide)
theorem RL.read {n0 rb : Nat} {l : List One} {W : World} (h : RL n0 W rb l) : ∃ A c, W.cell? ⟨rb, 0, none⟩ = some (.slice A l.length c) ∧ W.frozen? ⟨rb, 0, none⟩ = false ∧ l.length ≤ c ∧ K1.C W A l.length (l.map toS) := by
  obtain ⟨v, h1, h2, h3⟩ := h
  obtain ⟨A, c, rfl, hc, hC⟩ := Kd.R_reads (h3.R (fun _ => True) (fun _ _ => trivial))
  rw [List.length_map] at hc hC h1
  exact ⟨A, c, (cell_of_row _ _ _ _ _ _ h1).trans rfl, blk_frozen h1 _, hc, hC⟩
theorem rdS (l : List One) (i : Nat) (h : i < l.length) : rd_T55 (l.map toS) (i : Int) = toS l[i] := by
  unfold rd_T55
  rw [Int.toNat_natCast, List.getD_eq_getElem?_getD, List.getElem?_map, List.getElem?_eq_getElem h]; rfl
theorem sp_O (key : ByteArray) (l : List One) : lessO key l ++ moreO key l = l := List.takeWhile_append_dropWhile
theorem less_at {key : ByteArray} {l : List One} {i : Nat} (h : i < (lessO key l).length) : ∃ h2 : i < l.length, bless l[i].1 key = true := by
  have h1 : l[i]? = (lessO key l)[i]? := by
    conv => lhs; rw [← sp_O key l]
    exact List.getElem?_append_left h
  rw [List.getElem?_eq_getElem h] at h1
  obtain ⟨h2, h3⟩ := List.getElem?_eq_some_iff.1 h1
  refine ⟨h2, ?_⟩
  rw [h3]; exact lessO_all _ (List.getElem_mem h)
theorem more_at0 {key : ByteArray} {l : List One} : (moreO key l).head? = l[(lessO key l).length]? := by
  have h := List.getElem?_append_right (l₁ := lessO key l) (l₂ := moreO key l) (Nat.le_refl _)
  rw [sp_O, Nat.sub_self] at h
  rw [h, List.head?_eq_getElem?]
theorem more_not {key : ByteArray} {l : List One} (h : (lessO key l).length < l.length) : bless l[(lessO key l).length].1 key = false := by
  have h1 := more_at0 (key := key) (l := l)
  rw [List.getElem?_eq_getElem h] at h1
  have h9 := List.head?_dropWhile_not (fun x : One => bless x.1 key) l
  rw [show (l.dropWhile fun x : One => bless x.1 key).head? = _ from h1] at h9
  simpa using h9
theorem find_at0 {key : ByteArray} {l : List One} (h : (lessO key l).length < l.length) : findO key l = if l[(lessO key l).length].1.toList = key.toList then some l[(lessO key l).length] else none := by
  unfold findO
  rw [more_at0, List.getElem?_eq_getElem h]
theorem find_none0 {key : ByteArray} {l : List One} (h : ¬ (lessO key l).length < l.length) : findO key l = none := by
  unfold findO
  rw [more_at0, List.getElem?_eq_none (by omega)]
theorem less_le (key : ByteArray) (l : List One) : (lessO key l).length ≤ l.length := (List.takeWhile_sublist _).length_le
set_option maxHeartbeats 4000000 in
set_option maxRecDepth 100000 in
theorem at_calls {n0 rb : Nat} {l : List One} {key : ByteArray} {w : World} (hR : RL n0 w rb l) (hl : l.length ≤ 1000000) :
    Calls Try.prog 22 #[.pointer (some ⟨rb, 0, none⟩), .string key] w fun e w' => e = .returned (.tuple #[.int .i64 ((lessO key l).length : Int), .bool (findO key l).isSome]) ∧ Below w.heap.size w w' := by
  obtain ⟨A, c, hb, _, hc, hC⟩ := hR.read
  have hle := less_le key l
  have hln : ∀ i (h : i < l.length), i < (lessO key l).length → bless l[i].1 key = true := fun i h h2 => (less_at h2).2
  have hmn : ∀ (h : (lessO key l).length < l.length), bless l[(lessO key l).length].1 key = false := fun h => more_not h
  have hf1 : ∀ (h : (lessO key l).length < l.length), (findO key l).isSome = decide (l[(lessO key l).length].1.toList = key.toList) := fun h => by
    rw [find_at0 h]
    by_cases c : l[(lessO key l).length].1.toList = key.toList
    · rw [if_pos c, decide_eq_true c]; rfl
    · rw [if_neg c, decide_eq_false c]; rfl
  have hf2 : ¬ (lessO key l).length < l.length → (findO key l).isSome = false := fun h => by rw [find_none0 h]; rfl
  generalize (findO key l).isSome = fb at hf1 hf2 ⊢
  generalize (lessO key l).length = k at hle hln hmn hf1 hf2 ⊢
  go_enter Try.func22, Try.ntmps22
  go_upto_block 0 with (fail)
  go_cut [6] (fun v6 wd => v6 = .int .i64 (k : Int) ∧ wd = w)
  case first =>
    go_wp2
    go_loopg [6] l.length (fun gg v6 wr => ∃ i : Nat, i ≤ k ∧ l.length - i ≤ gg ∧ v6 = .int .i64 i ∧ wr = w)
    case atStart => exact ⟨0, Nat.zero_le _, Nat.le_refl _, rfl, rfl⟩
    case round =>
      obtain ⟨i, hil, hig, rfl, hwr⟩ := hrel
      subst hwr
      by_cases hlt : i < l.length
      · have hltz : (i : Int) < (l.length : Int) := by omega
        obtain ⟨ad, hA, hx0, hx1, hx2⟩ := at_T55 hC (i : Int) (by omega) hltz
        subst hA
        rw [rdS l i hlt, Int.toNat_natCast] at hx0
        have hx0' : wr.cell? (ad.add (i * 3)) = some (.string l[i].1) := hx0
        clear hx0 hx1 hx2 hf1 hf2
        by_cases hk : i < k
        · have hbl' : Op.bytesLess l[i].1.toList key.toList = true := hln i hlt hk
          clear hln hmn
          generalize l[i] = x at hx0' hbl'
          go_wp2
          go_roundg (l.length - (i + 1))
          case measure => omega
          case rel => exact ⟨i + 1, by omega, Nat.le_refl _, by go_num, rfl⟩
        · obtain rfl : i = k := by omega
          have hbl' : Op.bytesLess l[i].1.toList key.toList = false := hmn hlt
          clear hln hmn
          generalize l[i] = x at hx0' hbl'
          go_wp2
          go_meet
          case rel => exact ⟨rfl, rfl⟩
      · have hltz : ¬ (i : Int) < (l.length : Int) := by omega
        obtain rfl : i = k := by omega
        clear hln hmn hf1 hf2
        go_wp2
        go_meet
        case rel => exact ⟨rfl, rfl⟩
  case rest =>
    obtain ⟨rfl, hwc⟩ := hcut
    subst hwc
    clear hln hmn
    by_cases hlt : k < l.length
    · have hltz : (k : Int) < (l.length : Int) := by omega
      obtain ⟨ad, hA, hx0, hx1, hx2⟩ := at_T55 hC (k : Int) (by omega) hltz
      subst hA
      rw [rdS l k hlt, Int.toNat_natCast] at hx0
      have hx0' : wc.cell? (ad.add (k * 3)) = some (.string l[k].1) := hx0
      have hf := hf1 hlt
      clear hx0 hx1 hx2 hf1 hf2
      by_cases c : l[k].1.toList = key.toList
      · rw [decide_eq_true c] at hf
        subst hf
        have cb : (l[k].1.toList == key.toList) = true := beq_iff_eq.2 c
        clear c
        generalize l[k] = x at hx0' cb
        go_wp2
        repeat (go_quiet (fail); try go_wp2)
        go_ret2
        exact ⟨rfl, pw_below_drewN (Below.refl _ _) _⟩
      · rw [decide_eq_false c] at hf
        subst hf
        have cb : (l[k].1.toList == key.toList) = false := beq_eq_false_iff_ne.2 c
        clear c
        generalize l[k] = x at hx0' cb
        go_wp2
        repeat (go_quiet (fail); try go_wp2)
        go_ret2
        exact ⟨rfl, pw_below_drewN (Below.refl _ _) _⟩
    · have hltz : ¬ (k : Int) < (l.length : Int) := by omega
      obtain rfl := hf2 hlt
      clear hf1 hf2
      go_wp2
      repeat (go_quiet (fail); try go_wp2)
      go_ret2
      exact ⟨rfl, pw_below_drewN (Below.refl _ _) _⟩
end Go.Proofs.Ytdeiaicplcpbeaa.Print
