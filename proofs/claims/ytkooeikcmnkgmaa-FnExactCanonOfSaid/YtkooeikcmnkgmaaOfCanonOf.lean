/-
  The statement FnExactCanonOfSaid: whatever is given, the law's call returns true, and what is given reads as it did: the program's CanonOf returns what the reference's returns. Conditions: none beyond the statement's own.
-/
import Derived.Test.YtkooeikcmnkgmaaRows
import Derived.Test.YtkooeikcmnkgmaaOpen
import Derived.Test.YtkooeikcmnkgmaaWalkZ
import Derived.Test.YtkooeikcmnkgmaaWalkF
namespace Go.Proofs.Ytkooeikcmnkgmaa
open Go.RowKit
set_option linter.unusedVariables false
set_option linter.unusedSimpArgs false

set_option maxRecDepth 100000 in
theorem law_CanonOf (At : Option Addr) (kt : Nat) (t : List (Int × Int)) (q : Int) (s : Int) (r : Int) (w : World) (ht : At2 .i16 .i8 w At t) (hwt : Wf t) (hnt : t.length ≤ 9223372036854775807) (hbq : -9223372036854775808 ≤ q ∧ q ≤ 9223372036854775807) (hbs : -9223372036854775808 ≤ s ∧ s ≤ 9223372036854775807) (hbr : -9223372036854775808 ≤ r ∧ r ≤ 9223372036854775807) :
    Calls Try.prog 7 #[.slice At t.length kt, .int .i64 q, .int .i64 s, .int .i64 r] w fun e w' => e = .returned (.bool true) ∧ Below w.heap.size w w' := by
  by_cases hLt0 : t.length ≤ 1048576
  · have hst : szI (1048576) t.length = 1048576 - (t.length : Int) := by unfold szI; split <;> omega
    have htt : ¬ (1048576 - (t.length : Int)) < 0 := by omega
    have hLt : t.length ≤ 1073741824 := by omega
    go_enter Try.func7, Try.ntmps7
    go_wp2_with fail
    refine (c_szTune At kt t.length (1048576) _ (by omega) (by omega) hnt).mono ?_
    rintro e w' ⟨rfl, rfl⟩
    go_wp2_with fail
    refine (c_toTune At kt t w (ht) hLt).mono ?_
    rintro e w1 ⟨vst, rfl, ost_1, b1⟩
    obtain ⟨Ast, cst, rfl, _, _⟩ := ost_1.reads
    have B1 := bstep (Below.refl _ _) b1
    go_wp2_with fail
    refine (c_specCanonOf Ast cst t q s r w1 (ost_1.at_) hwt hLt hbq hbs hbr).mono ?_
    rintro e w2 ⟨vw, rfl, ow_2, b2⟩
    obtain ⟨Aw, cw, rfl, _, _⟩ := ow_2.reads
    have B2 := bstep B1 b2
    have ost_2 := ost_1.below b2
    go_wp2_with fail
    refine (c_toTune At kt t w2 (ht.below B2) hLt).mono ?_
    rintro e w3 ⟨vxt, rfl, oxt_3, b3⟩
    obtain ⟨Axt, cxt, rfl, _, _⟩ := oxt_3.reads
    have B3 := bstep B2 b3
    have ost_3 := ost_2.below b3
    have ow_3 := ow_2.below b3
    go_wp2_with fail
    refine (c_implCanonOf Axt cxt t q s r w3 (oxt_3.at_) hwt hLt hbq hbs hbr).mono ?_
    rintro e w4 ⟨vg, rfl, og_4, b4⟩
    obtain ⟨Ag, cg, rfl, _, _⟩ := og_4.reads
    have B4 := bstep B3 b4
    have ost_4 := ost_3.below b4
    have ow_4 := ow_3.below b4
    have oxt_4 := oxt_3.below b4
    have hE := eqL_self (rCan t q s r)
    have hR : (rCan t q s r).length ≤ 1073741824 := by exact Nat.le_trans (rCan_len _ _ _ _) (by omega)
    go_wp2_with fail
    refine (c_eqTune Ag Aw cg cw _ _ w4 (og_4.at_) (ow_4.at_) hR hR).mono ?_
    rintro e w5 ⟨rfl, b5⟩
    have B5 := bstep B4 b5
    have ost_5 := ost_4.below b5
    have ow_5 := ow_4.below b5
    have oxt_5 := oxt_4.below b5
    have og_5 := og_4.below b5
    go_wp2_with fail
    refine (c_toTune At kt t w5 (ht.below B5) hLt).mono ?_
    rintro e w6 ⟨vyt, rfl, oyt_6, b6⟩
    obtain ⟨Ayt, cyt, rfl, _, _⟩ := oyt_6.reads
    have B6 := bstep B5 b6
    have ost_6 := ost_5.below b6
    have ow_6 := ow_5.below b6
    have oxt_6 := oxt_5.below b6
    have og_6 := og_5.below b6
    have hEt := eqL_self t
    go_wp2_with fail
    refine (c_eqTune Axt Ayt cxt cyt _ _ w6 (oxt_6.at_) (oyt_6.at_) hLt hLt).mono ?_
    rintro e w7 ⟨rfl, b7⟩
    have B7 := bstep B6 b7
    have ost_7 := ost_6.below b7
    have ow_7 := ow_6.below b7
    have oxt_7 := oxt_6.below b7
    have og_7 := og_6.below b7
    have oyt_7 := oyt_6.below b7
    go_wp2_with fail
    refine (c_markTune Axt cxt (t) (1) _ w7 oxt_7 hLt (by omega)).mono ?_
    rintro e w8 ⟨rfl, oxt_8, g8⟩
    have B8 := bgrown B7 g8 (fun k hk => by have s1 := b1.size; have s2 := b2.size; have s3 := b3.size; have s4 := b4.size; have s5 := b5.size; have s6 := b6.size; have s7 := b7.size; have lo := oxt_7.low hk; omega)
    have ost_8 := ost_7.apart g8 (ne_of_high (N := w2.heap.size) (fun k hk => by have s2 := b2.size; have hi := ost_1.high hk; omega) (fun k hk => by have lo := oxt_7.low hk; omega))
    have ow_8 := ow_7.apart g8 (ne_of_high (N := w2.heap.size) (fun k hk => by  have hi := ow_2.high hk; omega) (fun k hk => by have lo := oxt_7.low hk; omega))
    have og_8 := og_7.apart g8 (ne_of_low (N := w3.heap.size) (fun k hk => by have lo := og_7.low hk; omega) (fun k hk => by  have hi := oxt_3.high hk; omega))
    have oyt_8 := oyt_7.apart g8 (ne_of_low (N := w5.heap.size) (fun k hk => by have lo := oyt_7.low hk; omega) (fun k hk => by have s4 := b4.size; have s5 := b5.size; have hi := oxt_3.high hk; omega))
    have hk0 : decide (((1 + 2 * t.length : Nat) : Int) < 0) = false := decide_eq_false (by omega)
    go_wp2_with fail
    refine (c_eqTune Ag Aw cg cw _ _ w8 (og_8.at_) (ow_8.at_) hR hR).mono ?_
    rintro e w9 ⟨rfl, b9⟩
    have B9 := bstep B8 b9
    have ost_9 := ost_8.below b9
    have ow_9 := ow_8.below b9
    have oxt_9 := oxt_8.below b9
    have og_9 := og_8.below b9
    have oyt_9 := oyt_8.below b9
    go_wp2_with fail
    refine (c_markTune Ag cg (rCan t q s r) (1) _ w9 og_9 hR (by omega)).mono ?_
    rintro e w10 ⟨rfl, og_10, g10⟩
    have B10 := bgrown B9 g10 (fun k hk => by have s1 := b1.size; have s2 := b2.size; have s3 := b3.size; have s4 := b4.size; have s5 := b5.size; have s6 := b6.size; have s7 := b7.size; have s8 := g8.size; have s9 := b9.size; have lo := og_9.low hk; omega)
    have ost_10 := ost_9.apart g10 (ne_of_high (N := w3.heap.size) (fun k hk => by have s2 := b2.size; have s3 := b3.size; have hi := ost_1.high hk; omega) (fun k hk => by have lo := og_9.low hk; omega))
    have ow_10 := ow_9.apart g10 (ne_of_high (N := w3.heap.size) (fun k hk => by have s3 := b3.size; have hi := ow_2.high hk; omega) (fun k hk => by have lo := og_9.low hk; omega))
    have oxt_10 := oxt_9.apart g10 (ne_of_high (N := w3.heap.size) (fun k hk => by  have hi := oxt_3.high hk; omega) (fun k hk => by have lo := og_9.low hk; omega))
    have oyt_10 := oyt_9.apart g10 (ne_of_low (N := w5.heap.size) (fun k hk => by have lo := oyt_9.low hk; omega) (fun k hk => by have s5 := b5.size; have hi := og_4.high hk; omega))
    have hk1 : decide (((1 + 2 * (rCan t q s r).length : Nat) : Int) < 0) = false := decide_eq_false (by omega)
    go_wp2_with fail
    refine (c_heldTune Ag cg (rCan t q s r).length (1) w10 (og_10.at_) hR (by omega)).mono ?_
    rintro e w11 ⟨rfl, b11⟩
    have B11 := bstep B10 b11
    have ost_11 := ost_10.below b11
    have ow_11 := ow_10.below b11
    have oxt_11 := oxt_10.below b11
    have og_11 := og_10.below b11
    have oyt_11 := oyt_10.below b11
    go_wp2_with fail
    refine (c_toTune At kt t w11 (ht.below B11) hLt).mono ?_
    rintro e w12 ⟨vzt, rfl, ozt_12, b12⟩
    obtain ⟨Azt, czt, rfl, _, _⟩ := ozt_12.reads
    have B12 := bstep B11 b12
    have ost_12 := ost_11.below b12
    have ow_12 := ow_11.below b12
    have oxt_12 := oxt_11.below b12
    have og_12 := og_11.below b12
    have oyt_12 := oyt_11.below b12
    go_wp2_with fail
    refine (c_implCanonOf Azt czt t q s r w12 (ozt_12.at_) hwt hLt hbq hbs hbr).mono ?_
    rintro e w13 ⟨vh, rfl, oh_13, b13⟩
    obtain ⟨Ah, ch, rfl, _, _⟩ := oh_13.reads
    have B13 := bstep B12 b13
    have ost_13 := ost_12.below b13
    have ow_13 := ow_12.below b13
    have oxt_13 := oxt_12.below b13
    have og_13 := og_12.below b13
    have oyt_13 := oyt_12.below b13
    have ozt_13 := ozt_12.below b13
    go_wp2_with fail
    refine (c_eqTune Ah Aw ch cw _ _ w13 (oh_13.at_) (ow_13.at_) hR hR).mono ?_
    rintro e w14 ⟨rfl, b14⟩
    have B14 := bstep B13 b14
    have ost_14 := ost_13.below b14
    have ow_14 := ow_13.below b14
    have oxt_14 := oxt_13.below b14
    have og_14 := og_13.below b14
    have oyt_14 := oyt_13.below b14
    have ozt_14 := ozt_13.below b14
    have oh_14 := oh_13.below b14
    go_wp2_with fail
    refine (c_heldTune Ag cg (rCan t q s r).length (1) w14 (og_14.at_) hR (by omega)).mono ?_
    rintro e w15 ⟨rfl, b15⟩
    have B15 := bstep B14 b15
    have ost_15 := ost_14.below b15
    have ow_15 := ow_14.below b15
    have oxt_15 := oxt_14.below b15
    have og_15 := og_14.below b15
    have oyt_15 := oyt_14.below b15
    have ozt_15 := ozt_14.below b15
    have oh_15 := oh_14.below b15
    go_wp2
    go_ret
    exact ⟨rfl, B15⟩
  · have hst : szI (1048576) t.length = -1 := by unfold szI; split <;> omega
    go_enter Try.func7, Try.ntmps7
    go_wp2_with fail
    refine (c_szTune At kt t.length (1048576) _ (by omega) (by omega) hnt).mono ?_
    rintro e w' ⟨rfl, rfl⟩
    go_wp2
    go_ret
    exact ⟨rfl, Below.refl _ _⟩
end Go.Proofs.Ytkooeikcmnkgmaa
namespace Go.Proofs.Ytkooeikcmnkgmaa.ofCanonOf
open Go.ChangeShapes Go.WideShapes Go.ChangeAt Go.RowKit
theorem own : ownKnob Try.prog.godebug = none := by kernel_rfl
theorem laidOut : laidOutB Try.prog = true := by kernel_rfl
set_option maxRecDepth 100000 in
theorem lifted (os : Os) (started : os.Started) (H : Type) (enc : TypeId × Value → H) :
    ReturnsInHanded {} Try.checked os 7 .any (Rows.fnExactCanonOfSpec.pre6 enc Try.prog Try.f7 Rows.fnExactCanonOfRow.domain false) (Rows.fnExactCanonOfSpec.post enc Try.prog Try.f7 false true false false) := by
  refine returnsInHanded_of_change (C := Try.checked) own started (by kernel_rfl) Try.func7
    (ChangeSpec.witness6 (enc := enc) (C := Try.checked) false ⟨#[], #[.slice none 0 0, .int .i64 0, .int .i64 0, .int .i64 0], []⟩ 8 (by kernel_rfl) (by kernel_rfl) (by kernel_rfl) (by kernel_rfl)) ?_
  intro W base args ds gs before hval0 hW hcnd _
  have hval : ∀ (j : Nat) t v, Try.f7.params[j]? = some t → args[j]? = some v → Value.okWide Try.prog W .any base t v := hval0
  have hW' := hW
  have hlt := fun p (hp : p ∈ before) => hW.lt p hp
  obtain ⟨p, q, hA0, hV, rfl, hfz, hnd⟩ := hW
  have hA : DataW.TrodAll enc Try.prog W 0 (fun _ => true) true Try.f7.params.toList args.toList ds p := hA0
  obtain ⟨rfl, rfl⟩ := trodVars_none hV
  simp only [List.append_nil] at hlt hW'
  have hback := fun W' hb => trodAll_below (W' := W') laidOut hb (by rw [Try.params7]; decide +kernel) hlt hA
  rw [Try.params7] at hA hval
  obtain ⟨v0, vs0, d0, ds0, p0, q0, hargs, rfl, rfl, h0, r0⟩ := trodAll_cons hA
  obtain ⟨v1, vs1, d1, ds1, p1, q1, rfl, rfl, rfl, h1, r1⟩ := trodAll_cons r0
  obtain ⟨v2, vs2, d2, ds2, p2, q2, rfl, rfl, rfl, h2, r2⟩ := trodAll_cons r1
  obtain ⟨v3, vs3, d3, ds3, p3, q3, rfl, rfl, rfl, h3, r3⟩ := trodAll_cons r2
  obtain ⟨rfl, rfl, rfl⟩ := trodAll_nil r3
  obtain rfl : args = #[v0, v1, v2, v3] := by cases args; simp_all
  obtain ⟨At, kt, t, rfl, hn_t, hr_t, hl_t⟩ := open_pairs Try.underlying22 Try.underlying65 Try.underlying42 Try.underlying60 (by kernel_rfl) (by kernel_rfl) (hval 0 _ _ rfl rfl) h0
  obtain ⟨q, rfl, rfl, rfl, wfq⟩ := open_int Try.underlying2 (hval 1 _ _ rfl rfl) h1
  obtain ⟨s, rfl, rfl, rfl, wfs⟩ := open_int Try.underlying2 (hval 2 _ _ rfl rfl) h2
  obtain ⟨r, rfl, rfl, rfl, wfr⟩ := open_int Try.underlying2 (hval 3 _ _ rfl rfl) h3
  refine (law_CanonOf At kt t q s r W hr_t (wf_of_lits hl_t) (by unfold maxLen at hn_t; omega) (by simpa [Lit.wf, IntKind.min, IntKind.max, IntKind.signed, IntKind.bits] using wfq) (by simpa [Lit.wf, IntKind.min, IntKind.max, IntKind.signed, IntKind.bits] using wfs) (by simpa [Lit.wf, IntKind.min, IntKind.max, IntKind.signed, IntKind.bits] using wfr)).mono fun e W' ⟨he, bel⟩ => ?_
  subst he
  exact ⟨_, rfl, _, _, _, [], _, [], hW', trodAll_mk1 (shut_bool Try.underlying4 _), hback W' bel, rfl, bel.frame _, fun h => by cases h⟩
theorem over : Rows.fnExactCanonOfRow.holds Try.pinned (OpenSpec.ofChange Rows.fnExactCanonOfSpec) :=
  OpenClaim.holds_of_wide 7 Try.f7 rfl rfl rfl rfl rfl rfl rfl ⟨rfl, rfl, rfl, rfl, rfl⟩ rfl rfl rfl rfl rfl (by kernel_rfl) Try.func7 (by kernel_rfl)
    (of_decide_eq_true (by kernel_rfl)) (by unfold Func.isWrapper; first | (rw [if_pos (by decide +kernel)]; kernel_rfl) | (rw [if_neg (by decide +kernel)]; exact ⟨rfl, rfl⟩))
    (fun os started H enc _ => lifted os started H enc)
end Go.Proofs.Ytkooeikcmnkgmaa.ofCanonOf
namespace Go.Proofs.Ytkooeikcmnkgmaa
theorem fnExactCanonOf_holds : Rows.FnExactCanonOfSaid := ofCanonOf.over
#print axioms fnExactCanonOf_holds
end Go.Proofs.Ytkooeikcmnkgmaa
