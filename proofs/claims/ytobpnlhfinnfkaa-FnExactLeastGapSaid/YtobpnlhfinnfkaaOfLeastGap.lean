/-
  The statement FnExactLeastGapSaid: whatever is given, the law's call returns true, and what is given reads as it did: the program's LeastGap returns what the reference's returns. Conditions: none beyond the statement's own.
-/
import Derived.Test.YtobpnlhfinnfkaaRows
import Derived.Test.YtobpnlhfinnfkaaOpen
import Derived.Test.YtobpnlhfinnfkaaWalkLG
import Derived.Test.YtobpnlhfinnfkaaWalkD
namespace Go.Proofs.Ytobpnlhfinnfkaa
open Go.RowKit
set_option linter.unusedVariables false
set_option linter.unusedSimpArgs false

set_option maxRecDepth 100000 in
theorem law_LeastGap (At : Option Addr) (kt : Nat) (t : List (Int × Int)) (w : World) (ht : At2 .i16 .i8 w At t) (hwt : Wf t) (hnt : t.length ≤ 9223372036854775807) :
    Calls Try.prog 5 #[.slice At t.length kt] w fun e w' => e = .returned (.bool true) ∧ Below w.heap.size w w' := by
  by_cases hLt0 : t.length ≤ 1048576
  · have hst : szI (1048576) t.length = 1048576 - (t.length : Int) := by unfold szI; split <;> omega
    have htt : ¬ (1048576 - (t.length : Int)) < 0 := by omega
    have hLt : t.length ≤ 1073741824 := by omega
    go_enter Try.func5, Try.ntmps5
    go_wp2_with fail
    refine (c_szTune At kt t.length (1048576) _ (by omega) (by omega) hnt).mono ?_
    rintro e w' ⟨rfl, rfl⟩
    go_wp2_with fail
    refine (c_toTune At kt t w (ht) hLt).mono ?_
    rintro e w1 ⟨vst, rfl, ost_1, b1⟩
    obtain ⟨Ast, cst, rfl, _, _⟩ := ost_1.reads
    have B1 := bstep (Below.refl _ _) b1
    go_wp2_with fail
    refine (c_specLeastGap Ast cst t w1 (ost_1.at_) hwt hLt).mono ?_
    rintro e w2 ⟨rfl, b2⟩
    have B2 := bstep B1 b2
    have ost_2 := ost_1.below b2
    go_wp2_with fail
    refine (c_toTune At kt t w2 (ht.below B2) hLt).mono ?_
    rintro e w3 ⟨vxt, rfl, oxt_3, b3⟩
    obtain ⟨Axt, cxt, rfl, _, _⟩ := oxt_3.reads
    have B3 := bstep B2 b3
    have ost_3 := ost_2.below b3
    go_wp2_with fail
    refine (c_implLeastGap Axt cxt t w3 (oxt_3.at_) hwt hLt).mono ?_
    rintro e w4 ⟨rfl, b4⟩
    have B4 := bstep B3 b4
    have ost_4 := ost_3.below b4
    have oxt_4 := oxt_3.below b4
    go_wp2_with fail
    refine (c_toTune At kt t w4 (ht.below B4) hLt).mono ?_
    rintro e w5 ⟨vyt, rfl, oyt_5, b5⟩
    obtain ⟨Ayt, cyt, rfl, _, _⟩ := oyt_5.reads
    have B5 := bstep B4 b5
    have ost_5 := ost_4.below b5
    have oxt_5 := oxt_4.below b5
    have hEt := eqL_self t
    go_wp2_with fail
    refine (c_eqTune Axt Ayt cxt cyt _ _ w5 (oxt_5.at_) (oyt_5.at_) hLt hLt).mono ?_
    rintro e w6 ⟨rfl, b6⟩
    have B6 := bstep B5 b6
    have ost_6 := ost_5.below b6
    have oxt_6 := oxt_5.below b6
    have oyt_6 := oyt_5.below b6
    go_wp2
    go_ret
    exact ⟨rfl, B6⟩
  · have hst : szI (1048576) t.length = -1 := by unfold szI; split <;> omega
    go_enter Try.func5, Try.ntmps5
    go_wp2_with fail
    refine (c_szTune At kt t.length (1048576) _ (by omega) (by omega) hnt).mono ?_
    rintro e w' ⟨rfl, rfl⟩
    go_wp2
    go_ret
    exact ⟨rfl, Below.refl _ _⟩
end Go.Proofs.Ytobpnlhfinnfkaa
namespace Go.Proofs.Ytobpnlhfinnfkaa.ofLeastGap
open Go.ChangeShapes Go.WideShapes Go.ChangeAt Go.RowKit
theorem own : ownKnob Try.prog.godebug = none := by kernel_rfl
theorem laidOut : laidOutB Try.prog = true := by kernel_rfl
set_option maxRecDepth 100000 in
theorem lifted (os : Os) (started : os.Started) (H : Type) (enc : TypeId × Value → H) :
    ReturnsInHanded {} Try.checked os 5 .any (Rows.fnExactLeastGapSpec.pre6 enc Try.prog Try.f5 Rows.fnExactLeastGapRow.domain false) (Rows.fnExactLeastGapSpec.post enc Try.prog Try.f5 false true false false) := by
  refine returnsInHanded_of_change (C := Try.checked) own started (by kernel_rfl) Try.func5
    (ChangeSpec.witness6 (enc := enc) (C := Try.checked) false ⟨#[], #[.slice none 0 0], []⟩ 8 (by kernel_rfl) (by kernel_rfl) (by kernel_rfl) (by kernel_rfl)) ?_
  intro W base args ds gs before hval0 hW hcnd _
  have hval : ∀ (j : Nat) t v, Try.f5.params[j]? = some t → args[j]? = some v → Value.okWide Try.prog W .any base t v := hval0
  have hW' := hW
  have hlt := fun p (hp : p ∈ before) => hW.lt p hp
  obtain ⟨p, q, hA0, hV, rfl, hfz, hnd⟩ := hW
  have hA : DataW.TrodAll enc Try.prog W 0 (fun _ => true) true Try.f5.params.toList args.toList ds p := hA0
  obtain ⟨rfl, rfl⟩ := trodVars_none hV
  simp only [List.append_nil] at hlt hW'
  have hback := fun W' hb => trodAll_below (W' := W') laidOut hb (by rw [Try.params5]; decide +kernel) hlt hA
  rw [Try.params5] at hA hval
  obtain ⟨v0, vs0, d0, ds0, p0, q0, hargs, rfl, rfl, h0, r0⟩ := trodAll_cons hA
  obtain ⟨rfl, rfl, rfl⟩ := trodAll_nil r0
  obtain rfl : args = #[v0] := by cases args; simp_all
  obtain ⟨At, kt, t, rfl, hn_t, hr_t, hl_t⟩ := open_pairs Try.underlying47 Try.underlying85 Try.underlying28 Try.underlying49 (by kernel_rfl) (by kernel_rfl) (hval 0 _ _ rfl rfl) h0
  refine (law_LeastGap At kt t W hr_t (wf_of_lits hl_t) (by unfold maxLen at hn_t; omega)).mono fun e W' ⟨he, bel⟩ => ?_
  subst he
  exact ⟨_, rfl, _, _, _, [], _, [], hW', trodAll_mk1 (shut_bool Try.underlying4 _), hback W' bel, rfl, bel.frame _, fun h => by cases h⟩
theorem over : Rows.fnExactLeastGapRow.holds Try.pinned (OpenSpec.ofChange Rows.fnExactLeastGapSpec) :=
  OpenClaim.holds_of_wide 5 Try.f5 rfl rfl rfl rfl rfl rfl rfl ⟨rfl, rfl, rfl, rfl, rfl⟩ rfl rfl rfl rfl rfl (by kernel_rfl) Try.func5 (by kernel_rfl)
    (of_decide_eq_true (by kernel_rfl)) (by unfold Func.isWrapper; first | (rw [if_pos (by decide +kernel)]; kernel_rfl) | (rw [if_neg (by decide +kernel)]; exact ⟨rfl, rfl⟩))
    (fun os started H enc _ => lifted os started H enc)
end Go.Proofs.Ytobpnlhfinnfkaa.ofLeastGap
namespace Go.Proofs.Ytobpnlhfinnfkaa
theorem fnExactLeastGap_holds : Rows.FnExactLeastGapSaid := ofLeastGap.over
#print axioms fnExactLeastGap_holds
end Go.Proofs.Ytobpnlhfinnfkaa
