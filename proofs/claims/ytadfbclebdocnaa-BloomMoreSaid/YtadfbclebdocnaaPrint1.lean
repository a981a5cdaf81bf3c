-- Printed out of the translation by a program of this session's own. Not trusted: Lean checks it.
import Derived.Test.YtadfbclebdocnaaPrint0
import Derived.Test.YtadfbclebdocnaaHBloomHash
import Derived.Test.YtadfbclebdocnaaHBloomMake
import Derived.Test.YtadfbclebdocnaaHBloomMay
namespace Go.Proofs.Ytadfbclebdocnaa.Print
open Go.RowKit Go.Proofs.YtadfbclebdocnaaW.PrintWords Go.Proofs.YtadfbclebdocnaaW.PrintLast Go.Proofs.YtadfbclebdocnaaW.PrintMore Go.Proofs.YtadfbclebdocnaaX
attribute [local go_sem] max2_int min2_int max_two min_two max_three min_three max_four min_four   -- for this text's walks alone
set_option linter.unusedVariables false
set_option linter.unusedSimpArgs false

/-! ### palinodelaw11_examples: function 8 -/
def palinodelaw11_examples.f  : Option (Bool) := (bloom_Make.f ([] : List ByteArray) 10).bind fun bt101 => (if bt101.1.toList = ([0, 0, 0, 0, 0, 0, 0, 0, 6] : List UInt8) then (if bt101.2.isNone = true then ((bloom_Hash.f (⟨#[97]⟩ : ByteArray)).bind fun t104 => (if t104 = 12638187200555641996 then ((bloom_May.f (⟨#[]⟩ : ByteArray) (⟨#[97]⟩ : ByteArray)).bind fun t105 => (some t105)) else (some false))) else (some false)) else (some false))
set_option maxHeartbeats 8000000 in
set_option maxRecDepth 100000 in
theorem palinodelaw11_examples.calls  (r : Bool) (w : World) (h : palinodelaw11_examples.f  = some r) (HRT_ : Aside0 (r = true) := by first | exact ⟨rfl⟩ | assumption) :
  Calls Try.prog 8 #[] w fun e w' => e = .returned (.bool r) ∧ Below w.heap.size w w' := by
 have hu25 := Try.underlying25
 have hu38 := Try.underlying38
 have HB := Aside0.mk (Below.refl w.heap.size w)
 have H : ((bloom_Make.f ([] : List ByteArray) 10).bind fun bt101 => (if bt101.1.toList = ([0, 0, 0, 0, 0, 0, 0, 0, 6] : List UInt8) then (if bt101.2.isNone = true then ((bloom_Hash.f (⟨#[97]⟩ : ByteArray)).bind fun t104 => (if t104 = 12638187200555641996 then ((bloom_May.f (⟨#[]⟩ : ByteArray) (⟨#[97]⟩ : ByteArray)).bind fun t105 => (some t105)) else (some false))) else (some false)) else (some false))) = some r := h
 clear h
 replace H := Option.bind_eq_some_iff.mp H
 obtain ⟨⟨t101, t102⟩, A10, H⟩ := H
 replace H : (if t101.toList = ([0, 0, 0, 0, 0, 0, 0, 0, 6] : List UInt8) then (if t102.isNone = true then ((bloom_Hash.f (⟨#[97]⟩ : ByteArray)).bind fun t104 => (if t104 = 12638187200555641996 then ((bloom_May.f (⟨#[]⟩ : ByteArray) (⟨#[97]⟩ : ByteArray)).bind fun t105 => (some t105)) else (some false))) else (some false)) else (some false)) = some r := H
 have A1 := Aside0.mk A10
 clear A10
 by_cases c2 : t101.toList = ([0, 0, 0, 0, 0, 0, 0, 0, 6] : List UInt8)
 ·
  rw [if_pos c2] at H
  have c2b0 : (t101.toList == ([0, 0, 0, 0, 0, 0, 0, 0, 6] : List UInt8)) = true := beq_iff_eq.mpr c2
  have c2b1 : (t101.toList != ([0, 0, 0, 0, 0, 0, 0, 0, 6] : List UInt8)) = false := bne_eq_false_iff_eq.mpr c2
  clear c2
  rcases t102 with _ | q103
  ·
   have H1 : ((bloom_Hash.f (⟨#[97]⟩ : ByteArray)).bind fun t104 => (if t104 = 12638187200555641996 then ((bloom_May.f (⟨#[]⟩ : ByteArray) (⟨#[97]⟩ : ByteArray)).bind fun t105 => (some t105)) else (some false))) = some r := by rw [if_pos (show (none : Option Int).isNone = true by rfl)] at H; exact H
   clear H
   have H := H1
   clear H1
   try simp only [errW_none, errW_some]
   replace H := Option.bind_eq_some_iff.mp H
   obtain ⟨t104, A30, H⟩ := H
   replace H : (if t104 = 12638187200555641996 then ((bloom_May.f (⟨#[]⟩ : ByteArray) (⟨#[97]⟩ : ByteArray)).bind fun t105 => (some t105)) else (some false)) = some r := H
   have A3 := Aside0.mk A30
   clear A30
   by_cases c4 : t104 = 12638187200555641996
   ·
    rw [if_pos c4] at H
    have c4b0 : (t104 == 12638187200555641996) = true := beq_iff_eq.mpr c4
    have c4b1 : (t104 != 12638187200555641996) = false := bne_eq_false_iff_eq.mpr c4
    clear c4
    replace H := Option.bind_eq_some_iff.mp H
    obtain ⟨t105, A50, H⟩ := H
    replace H : (some t105) = some r := H
    have A5 := Aside0.mk A50
    clear A50
    obtain rfl := Option.some.inj H
    go_enter Try.func8, Try.ntmps8
    go_wp2_with (first | ((with_reducible refine gate_callee (f := 9) rfl ?_); refine goesL_ (some 4) rfl rfl Try.func9 (by kernel_rfl) rfl #[.slice none 0 0, .int .i64 10] rfl (by (try simp only [List.map_toArray, List.map_cons, List.map_nil]); first | done | rfl | (simp only [List.length_drop, List.length_take]; rfl)) ?_; (refine (bloom_Make.calls _ _ ([] : List ByteArray) 10 t101 none _ ?side1 ?side2 A1.out).mono ?_); (case side1 => exact Kd.C_nil _ _); (case side2 => exact Nat.le_refl _); rintro e w6 ⟨rfl, hb⟩; refine ⟨_, rfl, ?_⟩; have n0_ := Aside0.mk (Yv HB hb); clear HB; have HB := n0_; clear n0_; (try clear hb); (try clear hb2); (try clear hk); (try clear hi); (try simp only [errW_none, errW_some])) | (go_at_call 12; (with_reducible refine (bloom_Hash.calls (⟨#[97]⟩ : ByteArray) t104 _ A3.out).mono ?_); rintro e w7 ⟨rfl, hb⟩; have n0_ := Aside0.mk (Yv HB hb); clear HB; have HB := n0_; clear n0_; (try clear hb); (try clear hb2); (try clear hk); (try clear hi)) | (go_at_call 14; (with_reducible refine (bloom_May.calls (⟨#[]⟩ : ByteArray) (⟨#[97]⟩ : ByteArray) t105 _ A5.out).mono ?_); rintro e w8 ⟨rfl, hb⟩; have n0_ := Aside0.mk (Yv HB hb); clear HB; have HB := n0_; clear n0_; (try clear hb); (try clear hb2); (try clear hk); (try clear hi)))
    go_ret
    first | (refine absurd c2b0 ?_; simp [*]; done) | exact ⟨by first | rfl | (simp [errW_none, errW_some] <;> rfl) | (simp [*, errW_none, errW_some] <;> rfl), Yr HB⟩
   ·
    rw [if_neg c4] at H
    have c4b0 : (t104 == 12638187200555641996) = false := beq_eq_false_iff_ne.mpr c4
    have c4b1 : (t104 != 12638187200555641996) = true := bne_iff_ne.mpr c4
    exact absurd ((Option.some.inj H).trans HRT_.out) (by decide)
  ·
   have H1 : (some false) = some r := by rw [if_neg (show ¬ (some q103).isNone = true by simp)] at H; exact H
   clear H
   have H := H1
   clear H1
   try simp only [errW_none, errW_some]
   exact absurd ((Option.some.inj H).trans HRT_.out) (by decide)
 ·
  rw [if_neg c2] at H
  have c2b0 : (t101.toList == ([0, 0, 0, 0, 0, 0, 0, 0, 6] : List UInt8)) = false := beq_eq_false_iff_ne.mpr c2
  have c2b1 : (t101.toList != ([0, 0, 0, 0, 0, 0, 0, 0, 6] : List UInt8)) = true := bne_iff_ne.mpr c2
  exact absurd ((Option.some.inj H).trans HRT_.out) (by decide)

end Go.Proofs.Ytadfbclebdocnaa.Print
