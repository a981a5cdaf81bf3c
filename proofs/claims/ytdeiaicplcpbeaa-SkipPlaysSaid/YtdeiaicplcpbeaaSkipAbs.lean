import Derived.Test.YtdeiaicplcpbeaaSkipPut
namespace Go.Proofs.Ytdeiaicplcpbeaa.Print
open Go.RowKit Go.Proofs.YtdeiaicplcpbeaaX Go.Proofs.YtdeiaicplcpbeaaW.PrintWords Go.Proofs.YtdeiaicplcpbeaaW.PrintLast
set_option linter.unusedVariables false
set_option linter.unusedSimpArgs false

/-! ## A list, by its keys, values, heights alone -/
abbrev One := ByteArray × ByteArray × Nat
def ab (L : List Nd) : List One := L.map (fun x => (x.key, x.val, x.h))
def lessO (key : ByteArray) (l : List One) : List One := l.takeWhile (fun x => bless x.1 key)
def moreO (key : ByteArray) (l : List One) : List One := l.dropWhile (fun x => bless x.1 key)
def findO (key : ByteArray) (l : List One) : Option One :=
  match (moreO key l).head? with
  | some x => if x.1.toList = key.toList then some x else none
  | none => none
def setO (key val : ByteArray) (y : One) : One := if y.1.toList = key.toList then (y.1, val, y.2.2) else y
def putO (key val : ByteArray) (h : Int) (l : List One) : List One :=
  match findO key l with
  | some _ => l.map (setO key val)
  | none => lessO key l ++ (key, val, hgt h) :: moreO key l
def getO (key : ByteArray) (l : List One) : ByteArray × Bool :=
  match findO key l with
  | some x => (x.2.1, true)
  | none => ((⟨#[]⟩ : ByteArray), false)
def heightO (key : ByteArray) (l : List One) : Nat :=
  match findO key l with
  | some x => x.2.2
  | none => 0
def seekO (key : ByteArray) (l : List One) : ByteArray × ByteArray × Bool :=
  match (moreO key l).head? with
  | some x => (x.1, x.2.1, true)
  | none => ((⟨#[]⟩ : ByteArray), (⟨#[]⟩ : ByteArray), false)
def laneO (h : Int) (l : List One) : List ByteArray := if h ≥ 12 then [] else (l.filter (fun x => decide ((max h 0).toNat < x.2.2))).map (·.1)
structure GoodO (l : List One) : Prop where
  sorted : l.Pairwise (fun x y => bless x.1 y.1 = true)
  hs : ∀ x ∈ l, 1 ≤ x.2.2 ∧ x.2.2 ≤ 12
theorem ab_less (key : ByteArray) (L : List Nd) : lessO key (ab L) = ab (lessK key L) := by
  unfold lessO lessK ab
  rw [List.takeWhile_map]; rfl
theorem ab_more (key : ByteArray) (L : List Nd) : moreO key (ab L) = ab (moreK key L) := by
  unfold moreO moreK ab
  rw [List.dropWhile_map]; rfl
theorem ab_find (key : ByteArray) (L : List Nd) : findO key (ab L) = (findN key L).map (fun x => (x.key, x.val, x.h)) := by
  unfold findO findN
  rw [ab_more]
  unfold ab
  cases moreK key L with
  | nil => rfl
  | cons y q =>
    simp only [List.map_cons, List.head?_cons]
    split <;> rfl
theorem ab_isNone (key : ByteArray) (L : List Nd) : (findN key L).isNone = (findO key (ab L)).isNone := by rw [ab_find]; cases findN key L <;> rfl
theorem ab_get (key : ByteArray) (L : List Nd) : getF key L = getO key (ab L) := by
  unfold getF getO
  rw [ab_find]
  cases findN key L <;> rfl
theorem ab_height (key : ByteArray) (L : List Nd) : heightF key L = (heightO key (ab L) : Int) := by
  unfold heightF heightO
  rw [ab_find]
  cases findN key L <;> rfl
theorem ab_seek (key : ByteArray) (L : List Nd) : seekF key L = seekO key (ab L) := by
  unfold seekF seekO
  rw [ab_more]
  cases moreK key L <;> rfl
theorem ab_lane (h : Int) (L : List Nd) : laneF h L = laneO h (ab L) := by
  unfold laneF laneO laneK ab
  split
  · rfl
  · rw [List.filter_map, List.map_map]; rfl
theorem find_key {key : ByteArray} {L : List Nd} {x : Nd} (h : findN key L = some x) : x.key.toList = key.toList ∧ x ∈ L := by
  unfold findN at h
  cases hm : (moreK key L).head? with
  | none => rw [hm] at h; cases h
  | some y =>
    rw [hm] at h
    simp only at h
    split at h
    · obtain rfl := Option.some.inj h
      exact ⟨by assumption, more_mem hm⟩
    · cases h
theorem Good.key_inj {lb : Nat} {L : List Nd} (h : Good lb L) {x y : Nd} (hx : x ∈ L) (hy : y ∈ L) (e : x.key.toList = y.key.toList) : x = y := by
  have hs := h.sorted
  clear h
  induction L with
  | nil => cases hx
  | cons z L ih =>
    obtain ⟨h1, h2⟩ := List.pairwise_cons.1 hs
    have irr : ∀ a b : Nd, a.key.toList = b.key.toList → ¬ bless a.key b.key = true := fun a b e c => by
      unfold bless at c; rw [e, bl_irr] at c; cases c
    rcases List.mem_cons.1 hx with rfl | hx1 <;> rcases List.mem_cons.1 hy with rfl | hy1
    · rfl
    · exact absurd (h1 y hy1) (irr _ _ e)
    · exact absurd (h1 x hx1) (irr _ _ e.symm)
    · exact ih hx1 hy1 h2
theorem ab_put {lb nb : Nat} {key val : ByteArray} {h : Int} {L : List Nd} (hG : Good lb L) : ab (putL key val h nb L) = putO key val h (ab L) := by
  unfold putL putO
  rw [ab_find]
  cases hf : findN key L with
  | none =>
    simp only [Option.map_none]
    rw [ab_less, ab_more]
    unfold ab
    rw [List.map_append, List.map_cons]
  | some x =>
    simp only [Option.map_some]
    obtain ⟨hk, hx⟩ := find_key hf
    unfold ab
    rw [List.map_map, List.map_map]
    apply List.map_congr_left
    intro y hy
    show ((putVal x.b val y).key, (putVal x.b val y).val, (putVal x.b val y).h) = setO key val (y.key, y.val, y.h)
    unfold putVal setO
    by_cases c : y.b = x.b
    · have := nodup_inj hG.nodup hy hx c
      subst this
      rw [if_pos c, if_pos hk]
    · rw [if_neg c, if_neg (fun e => c (by rw [hG.key_inj hy hx (e.trans hk.symm)]))]
theorem Good.ab {lb : Nat} {L : List Nd} (h : Good lb L) : GoodO (ab L) := by
  refine ⟨List.pairwise_map.2 h.sorted, fun x hx => ?_⟩
  obtain ⟨y, hy, rfl⟩ := List.mem_map.1 hx
  exact h.hs y hy
theorem ab_len (L : List Nd) : (ab L).length = L.length := List.length_map _
theorem putO_len (key val : ByteArray) (h : Int) (l : List One) : (putO key val h l).length ≤ l.length + 1 := by
  unfold putO
  cases findO key l with
  | some x => simp
  | none =>
    have : l.length = (lessO key l).length + (moreO key l).length := by
      have := congrArg List.length (List.takeWhile_append_dropWhile (p := fun x : One => bless x.1 key) (l := l))
      rw [List.length_append] at this
      exact this.symm
    simp only [List.length_append, List.length_cons]; omega

/-! ## The contracts, by these -/
/-- A list in memory, of blocks from n0 on. -/
def LS (n0 : Nat) (W : World) (lb : Nat) (l : List One) : Prop := ∃ L, SK W lb L ∧ (∀ b ∈ blks lb L, n0 ≤ b) ∧ ab L = l
theorem LS.below {n0 lb : Nat} {l : List One} {W W' : World} (h : LS n0 W lb l) (hb : Below W.heap.size W W') : LS n0 W' lb l := by
  obtain ⟨L, h1, h2, h3⟩ := h
  exact ⟨L, h1.below hb, h2, h3⟩
theorem LS.good {n0 lb : Nat} {l : List One} {W : World} (h : LS n0 W lb l) : GoodO l := by
  obtain ⟨L, ⟨_, _, _, h1⟩, h2, rfl⟩ := h
  exact h1.ab
theorem LS.le {n0 lb : Nat} {l : List One} {W : World} (h : LS n0 W lb l) : n0 ≤ W.heap.size := by
  obtain ⟨L, h1, h2, rfl⟩ := h
  exact Nat.le_of_lt (Nat.lt_of_le_of_lt (h2 lb List.mem_cons_self) (h1.lt List.mem_cons_self))
/-- Two lists that share nothing. -/
def LS2 (n0 : Nat) (W : World) (la lb : Nat) (l m : List One) : Prop := ∃ L M, SK W la L ∧ SK W lb M ∧ (∀ b ∈ blks la L, n0 ≤ b) ∧ (∀ b ∈ blks lb M, n0 ≤ b) ∧ (∀ b ∈ blks la L, b ∉ blks lb M) ∧ ab L = l ∧ ab M = m
theorem LS2.fst {n0 la lb : Nat} {l m : List One} {W : World} (h : LS2 n0 W la lb l m) : LS n0 W la l := by
  obtain ⟨L, M, h1, h2, h3, h4, h5, h6, h7⟩ := h
  exact ⟨L, h1, h3, h6⟩
theorem LS2.snd {n0 la lb : Nat} {l m : List One} {W : World} (h : LS2 n0 W la lb l m) : LS n0 W lb m := by
  obtain ⟨L, M, h1, h2, h3, h4, h5, h6, h7⟩ := h
  exact ⟨M, h2, h4, h7⟩
theorem LS2.below {n0 la lb : Nat} {l m : List One} {W W' : World} (h : LS2 n0 W la lb l m) (hb : Below W.heap.size W W') : LS2 n0 W' la lb l m := by
  obtain ⟨L, M, h1, h2, h3, h4, h5, h6, h7⟩ := h
  exact ⟨L, M, h1.below hb, h2.below hb, h3, h4, h5, h6, h7⟩
theorem LS2.swap {n0 la lb : Nat} {l m : List One} {W : World} (h : LS2 n0 W la lb l m) : LS2 n0 W lb la m l := by
  obtain ⟨L, M, h1, h2, h3, h4, h5, h6, h7⟩ := h
  exact ⟨M, L, h2, h1, h4, h3, fun b hb hc => h5 b hc hb, h7, h6⟩
theorem put_blks {lb nb : Nat} {key val : ByteArray} {h : Int} {L : List Nd} : ∀ b ∈ blks lb (putL key val h nb L), b ∈ blks lb L ∨ b = nb := by
  intro b hb
  unfold putL at hb
  cases hf : findN key L with
  | some x => rw [hf] at hb; simp only at hb; rw [putVal_blks] at hb; exact .inl hb
  | none =>
    rw [hf] at hb
    simp only [blks, List.map_append, List.map_cons, List.mem_cons, List.mem_append] at hb
    have e : blks lb L = lb :: ((lessK key L).map (·.b) ++ (moreK key L).map (·.b)) := by
      rw [← List.map_append, less_more]; rfl
    rw [e]
    simp only [List.mem_cons, List.mem_append]
    rcases hb with h | h | h | h
    · exact .inl (.inl h)
    · exact .inl (.inr (.inl h))
    · exact .inr h
    · exact .inl (.inr (.inr h))
theorem put_as (n0 lb : Nat) (l : List One) (key val : ByteArray) (h : Int) (w : World) (hS : LS n0 w lb l) (hlen : l.length ≤ 1000000) :
    Calls Try.prog 9 #[.pointer (some ⟨lb, 0, none⟩), .string key, .string val, .int .i64 h] w fun e w' => e = .returned (.bool (findO key l).isNone) ∧ LS n0 w' lb (putO key val h l) ∧ Below n0 w w' := by
  obtain ⟨L, h1, h2, rfl⟩ := hS
  rw [ab_len] at hlen
  refine (put_calls lb L key val h n0 w h1 hlen h2).mono ?_
  rintro e w' ⟨nb, hnb, rfl, hS', hF, hB⟩
  obtain ⟨_, _, _, hG⟩ := id h1
  refine ⟨by rw [ab_isNone], ⟨_, hS', fun b hb => ?_, ab_put hG⟩, hB⟩
  rcases put_blks b hb with h | rfl
  · exact h2 b h
  · exact Nat.le_trans (Nat.le_of_lt (Nat.lt_of_le_of_lt (h2 lb List.mem_cons_self) (h1.lt List.mem_cons_self))) hnb
theorem put_as2 (n0 la lb : Nat) (l m : List One) (key val : ByteArray) (h : Int) (w : World) (hS : LS2 n0 w la lb l m) (hlen : l.length ≤ 1000000) :
    Calls Try.prog 9 #[.pointer (some ⟨la, 0, none⟩), .string key, .string val, .int .i64 h] w fun e w' => e = .returned (.bool (findO key l).isNone) ∧ LS2 n0 w' la lb (putO key val h l) m ∧ Below n0 w w' := by
  obtain ⟨L, M, h1, h2, h3, h4, h5, rfl, rfl⟩ := hS
  rw [ab_len] at hlen
  refine (put_calls la L key val h n0 w h1 hlen h3).mono ?_
  rintro e w' ⟨nb, hnb, rfl, hS', hF, hB⟩
  obtain ⟨_, _, _, hG⟩ := id h1
  refine ⟨by rw [ab_isNone], ⟨_, M, hS', h2.move (fun b hb => hF b (h2.lt hb) (fun hc => h5 b hc hb)), fun b hb => ?_, h4, fun b hb hc => ?_, ab_put hG, rfl⟩, hB⟩
  · rcases put_blks b hb with h | rfl
    · exact h3 b h
    · exact Nat.le_trans (Nat.le_of_lt (Nat.lt_of_le_of_lt (h3 la List.mem_cons_self) (h1.lt List.mem_cons_self))) hnb
  · rcases put_blks b hb with h | rfl
    · exact h5 b h hc
    · exact absurd (h2.lt hc) (by omega)
theorem get_as {n0 lb : Nat} {l : List One} {key : ByteArray} {w : World} (hS : LS n0 w lb l) :
    Calls Try.prog 11 #[.pointer (some ⟨lb, 0, none⟩), .string key] w fun e w' => e = .returned (.tuple #[.string (getO key l).1, .bool (getO key l).2]) ∧ Below w.heap.size w w' := by
  obtain ⟨L, h1, h2, rfl⟩ := hS
  rw [← ab_get]; exact get_calls lb L key w h1
theorem height_as {n0 lb : Nat} {l : List One} {key : ByteArray} {w : World} (hS : LS n0 w lb l) :
    Calls Try.prog 15 #[.pointer (some ⟨lb, 0, none⟩), .string key] w fun e w' => e = .returned (.int .i64 (heightO key l : Int)) ∧ Below w.heap.size w w' := by
  obtain ⟨L, h1, h2, rfl⟩ := hS
  rw [← ab_height]; exact height_calls lb L key w h1
theorem seek_as {n0 lb : Nat} {l : List One} {key : ByteArray} {w : World} (hS : LS n0 w lb l) :
    Calls Try.prog 13 #[.pointer (some ⟨lb, 0, none⟩), .string key] w fun e w' => e = .returned (.tuple #[.string (seekO key l).1, .string (seekO key l).2.1, .bool (seekO key l).2.2]) ∧ Below w.heap.size w w' := by
  obtain ⟨L, h1, h2, rfl⟩ := hS
  rw [← ab_seek]; exact seek_calls lb L key w h1
theorem len_as {n0 lb : Nat} {l : List One} {w : World} (hS : LS n0 w lb l) :
    Calls Try.prog 20 #[.pointer (some ⟨lb, 0, none⟩)] w fun e w' => e = .returned (.int .i64 (l.length : Int)) ∧ Below w.heap.size w w' := by
  obtain ⟨L, h1, h2, rfl⟩ := hS
  rw [ab_len]; exact len_calls lb L w h1
theorem lane_as {n0 lb : Nat} {l : List One} {h : Int} {w : World} (hS : LS n0 w lb l) (hlen : l.length ≤ 1000000) :
    Calls Try.prog 17 #[.pointer (some ⟨lb, 0, none⟩), .int .i64 h] w fun e w' => ∃ v, e = .returned v ∧ SRow w' w.heap.size v (laneO h l) ∧ Below w.heap.size w w' := by
  obtain ⟨L, h1, h2, rfl⟩ := hS
  rw [ab_len] at hlen
  rw [← ab_lane]; exact lane_calls lb L h hlen w h1
set_option maxHeartbeats 4000000 in
set_option maxRecDepth 100000 in
theorem new_calls (w : World) : Calls Try.prog 8 #[] w fun e w' => ∃ lb, w.heap.size ≤ lb ∧ lb < w'.heap.size ∧ e = .returned (.pointer (some ⟨lb, 0, none⟩)) ∧ SK w' lb [] ∧ Below w.heap.size w w' := by
  go_enter Try.func8, Try.ntmps8
  go_wp2
  go_ret
  refine ⟨w.heap.size, Nat.le_refl _, by rw [World.size_alloc]; exact Nat.lt_succ_self _, rfl, ⟨fun _ _ => none, ⟨?_, fun x hx => by cases hx⟩, ⟨fun j => rfl, fun p x q e => by cases p <;> cases e⟩, ⟨by simp [blks], List.Pairwise.nil, fun x hx => by cases hx⟩⟩, (Below.refl _ w).alloc (Nat.le_refl _) _⟩
  exact heap_alloc_new w _
theorem new_as (w : World) : Calls Try.prog 8 #[] w fun e w' => ∃ lb, e = .returned (.pointer (some ⟨lb, 0, none⟩)) ∧ LS w.heap.size w' lb [] ∧ Below w.heap.size w w' := by
  refine (new_calls w).mono ?_
  rintro e w' ⟨lb, h1, _, h2, h3, h4⟩
  exact ⟨lb, h2, ⟨[], h3, fun b hb => by simp [blks] at hb; omega, rfl⟩, h4⟩
end Go.Proofs.Ytdeiaicplcpbeaa.Print
