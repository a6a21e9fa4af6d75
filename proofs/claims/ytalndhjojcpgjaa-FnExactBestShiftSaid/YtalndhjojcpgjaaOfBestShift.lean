/-
  The statement FnExactBestShiftSaid: whatever is given, the law's call returns true, and what is given reads as it did: the program's BestShift returns what the reference's returns. Conditions: none beyond the statement's own.
-/
import Derived.Test.YtalndhjojcpgjaaRows
import Derived.Test.YtalndhjojcpgjaaOpen
import Derived.Test.YtalndhjojcpgjaaWalkD
import Derived.Test.YtalndhjojcpgjaaWalkI
namespace Go.Proofs.Ytalndhjojcpgjaa
open Go.RowKit
set_option linter.unusedVariables false
set_option linter.unusedSimpArgs false

set_option maxRecDepth 100000 in
theorem law_BestShift (Aa : Option Addr) (ka : Nat) (a : List (Int × Int)) (Ab : Option Addr) (kb : Nat) (b : List (Int × Int)) (w : World) (ha : At2 .i16 .i8 w Aa a) (hwa : Wf a) (hna : a.length ≤ 9223372036854775807) (hb : At2 .i16 .i8 w Ab b) (hwb : Wf b) (hnb : b.length ≤ 9223372036854775807) :
    Calls Try.prog 4 #[.slice Aa a.length ka, .slice Ab b.length kb] w fun e w' => e = .returned (.bool true) ∧ Below w.heap.size w w' := by
  by_cases hLa0 : a.length ≤ 1048576
  · have hsa : szI (1048576) a.length = 1048576 - (a.length : Int) := by unfold szI; split <;> omega
    have hta : ¬ (1048576 - (a.length : Int)) < 0 := by omega
    have hLa : a.length ≤ 1073741824 := by omega
    by_cases hLb0 : a.length + b.length ≤ 1048576
    · have hsb : szI (1048576 - (a.length : Int)) b.length = 1048576 - (a.length : Int) - (b.length : Int) := by unfold szI; split <;> omega
      have htb : ¬ (1048576 - (a.length : Int) - (b.length : Int)) < 0 := by omega
      have hLb : b.length ≤ 1073741824 := by omega
      go_enter Try.func4, Try.ntmps4
      go_wp2_with fail
      refine (c_szTune Aa ka a.length (1048576) _ (by omega) (by omega) hna).mono ?_
      rintro e w' ⟨rfl, rfl⟩
      go_wp2_with fail
      refine (c_szTune Ab kb b.length (1048576 - (a.length : Int)) _ (by omega) (by omega) hnb).mono ?_
      rintro e w' ⟨rfl, rfl⟩
      go_wp2_with fail
      refine (c_toTune Aa ka a w (ha) hLa).mono ?_
      rintro e w1 ⟨vsa, rfl, osa_1, b1⟩
      obtain ⟨Asa, csa, rfl, _, _⟩ := osa_1.reads
      have B1 := bstep (Below.refl _ _) b1
      go_wp2_with fail
      refine (c_toTune Ab kb b w1 (hb.below B1) hLb).mono ?_
      rintro e w2 ⟨vsb, rfl, osb_2, b2⟩
      obtain ⟨Asb, csb, rfl, _, _⟩ := osb_2.reads
      have B2 := bstep B1 b2
      have osa_2 := osa_1.below b2
      go_wp2_with fail
      refine (c_specBestShift Asa Asb csa csb a b w2 (osa_2.at_) (osb_2.at_) hwa hwb hLa hLb).mono ?_
      rintro e w3 ⟨rfl, b3⟩
      have B3 := bstep B2 b3
      have osa_3 := osa_2.below b3
      have osb_3 := osb_2.below b3
      go_wp2_with fail
      refine (c_toTune Aa ka a w3 (ha.below B3) hLa).mono ?_
      rintro e w4 ⟨vxa, rfl, oxa_4, b4⟩
      obtain ⟨Axa, cxa, rfl, _, _⟩ := oxa_4.reads
      have B4 := bstep B3 b4
      have osa_4 := osa_3.below b4
      have osb_4 := osb_3.below b4
      go_wp2_with fail
      refine (c_toTune Ab kb b w4 (hb.below B4) hLb).mono ?_
      rintro e w5 ⟨vxb, rfl, oxb_5, b5⟩
      obtain ⟨Axb, cxb, rfl, _, _⟩ := oxb_5.reads
      have B5 := bstep B4 b5
      have osa_5 := osa_4.below b5
      have osb_5 := osb_4.below b5
      have oxa_5 := oxa_4.below b5
      go_wp2_with fail
      refine (c_implBestShift Axa Axb cxa cxb a b w5 (oxa_5.at_) (oxb_5.at_) hwa hwb hLa hLb).mono ?_
      rintro e w6 ⟨rfl, b6⟩
      have B6 := bstep B5 b6
      have osa_6 := osa_5.below b6
      have osb_6 := osb_5.below b6
      have oxa_6 := oxa_5.below b6
      have oxb_6 := oxb_5.below b6
      go_wp2_with fail
      refine (c_toTune Aa ka a w6 (ha.below B6) hLa).mono ?_
      rintro e w7 ⟨vya, rfl, oya_7, b7⟩
      obtain ⟨Aya, cya, rfl, _, _⟩ := oya_7.reads
      have B7 := bstep B6 b7
      have osa_7 := osa_6.below b7
      have osb_7 := osb_6.below b7
      have oxa_7 := oxa_6.below b7
      have oxb_7 := oxb_6.below b7
      have hEa := eqL_self a
      go_wp2_with fail
      refine (c_eqTune Axa Aya cxa cya _ _ w7 (oxa_7.at_) (oya_7.at_) hLa hLa).mono ?_
      rintro e w8 ⟨rfl, b8⟩
      have B8 := bstep B7 b8
      have osa_8 := osa_7.below b8
      have osb_8 := osb_7.below b8
      have oxa_8 := oxa_7.below b8
      have oxb_8 := oxb_7.below b8
      have oya_8 := oya_7.below b8
      go_wp2_with fail
      refine (c_toTune Ab kb b w8 (hb.below B8) hLb).mono ?_
      rintro e w9 ⟨vyb, rfl, oyb_9, b9⟩
      obtain ⟨Ayb, cyb, rfl, _, _⟩ := oyb_9.reads
      have B9 := bstep B8 b9
      have osa_9 := osa_8.below b9
      have osb_9 := osb_8.below b9
      have oxa_9 := oxa_8.below b9
      have oxb_9 := oxb_8.below b9
      have oya_9 := oya_8.below b9
      have hEb := eqL_self b
      go_wp2_with fail
      refine (c_eqTune Axb Ayb cxb cyb _ _ w9 (oxb_9.at_) (oyb_9.at_) hLb hLb).mono ?_
      rintro e w10 ⟨rfl, b10⟩
      have B10 := bstep B9 b10
      have osa_10 := osa_9.below b10
      have osb_10 := osb_9.below b10
      have oxa_10 := oxa_9.below b10
      have oxb_10 := oxb_9.below b10
      have oya_10 := oya_9.below b10
      have oyb_10 := oyb_9.below b10
      go_wp2
      go_ret
      exact ⟨rfl, B10⟩
    · have hsb : szI (1048576 - (a.length : Int)) b.length = -1 := by unfold szI; split <;> omega
      go_enter Try.func4, Try.ntmps4
      go_wp2_with fail
      refine (c_szTune Aa ka a.length (1048576) _ (by omega) (by omega) hna).mono ?_
      rintro e w' ⟨rfl, rfl⟩
      go_wp2_with fail
      refine (c_szTune Ab kb b.length (1048576 - (a.length : Int)) _ (by omega) (by omega) hnb).mono ?_
      rintro e w' ⟨rfl, rfl⟩
      go_wp2
      go_ret
      exact ⟨rfl, Below.refl _ _⟩
  · have hsa : szI (1048576) a.length = -1 := by unfold szI; split <;> omega
    go_enter Try.func4, Try.ntmps4
    go_wp2_with fail
    refine (c_szTune Aa ka a.length (1048576) _ (by omega) (by omega) hna).mono ?_
    rintro e w' ⟨rfl, rfl⟩
    go_wp2
    go_ret
    exact ⟨rfl, Below.refl _ _⟩
end Go.Proofs.Ytalndhjojcpgjaa
namespace Go.Proofs.Ytalndhjojcpgjaa.ofBestShift
open Go.ChangeShapes Go.WideShapes Go.ChangeAt Go.RowKit
theorem own : ownKnob Try.prog.godebug = none := by kernel_rfl
theorem laidOut : laidOutB Try.prog = true := by kernel_rfl
set_option maxRecDepth 100000 in
theorem lifted (os : Os) (started : os.Started) (H : Type) (enc : TypeId × Value → H) :
    ReturnsInHanded {} Try.checked os 4 .any (Rows.fnExactBestShiftSpec.pre6 enc Try.prog Try.f4 Rows.fnExactBestShiftRow.domain false) (Rows.fnExactBestShiftSpec.post enc Try.prog Try.f4 false true false false) := by
  refine returnsInHanded_of_change (C := Try.checked) own started (by kernel_rfl) Try.func4
    (ChangeSpec.witness6 (enc := enc) (C := Try.checked) false ⟨#[], #[.slice none 0 0, .slice none 0 0], []⟩ 8 (by kernel_rfl) (by kernel_rfl) (by kernel_rfl) (by kernel_rfl)) ?_
  intro W base args ds gs before hval0 hW hcnd _
  have hval : ∀ (j : Nat) t v, Try.f4.params[j]? = some t → args[j]? = some v → Value.okWide Try.prog W .any base t v := hval0
  have hW' := hW
  have hlt := fun p (hp : p ∈ before) => hW.lt p hp
  obtain ⟨p, q, hA0, hV, rfl, hfz, hnd⟩ := hW
  have hA : DataW.TrodAll enc Try.prog W 0 (fun _ => true) true Try.f4.params.toList args.toList ds p := hA0
  obtain ⟨rfl, rfl⟩ := trodVars_none hV
  simp only [List.append_nil] at hlt hW'
  have hback := fun W' hb => trodAll_below (W' := W') laidOut hb (by rw [Try.params4]; decide +kernel) hlt hA
  rw [Try.params4] at hA hval
  obtain ⟨v0, vs0, d0, ds0, p0, q0, hargs, rfl, rfl, h0, r0⟩ := trodAll_cons hA
  obtain ⟨v1, vs1, d1, ds1, p1, q1, rfl, rfl, rfl, h1, r1⟩ := trodAll_cons r0
  obtain ⟨rfl, rfl, rfl⟩ := trodAll_nil r1
  obtain rfl : args = #[v0, v1] := by cases args; simp_all
  obtain ⟨Aa, ka, a, rfl, hn_a, hr_a, hl_a⟩ := open_pairs Try.underlying22 Try.underlying45 Try.underlying41 Try.underlying36 (by kernel_rfl) (by kernel_rfl) (hval 0 _ _ rfl rfl) h0
  obtain ⟨Ab, kb, b, rfl, hn_b, hr_b, hl_b⟩ := open_pairs Try.underlying22 Try.underlying45 Try.underlying41 Try.underlying36 (by kernel_rfl) (by kernel_rfl) (hval 1 _ _ rfl rfl) h1
  refine (law_BestShift Aa ka a Ab kb b W hr_a (wf_of_lits hl_a) (by unfold maxLen at hn_a; omega) hr_b (wf_of_lits hl_b) (by unfold maxLen at hn_b; omega)).mono fun e W' ⟨he, bel⟩ => ?_
  subst he
  exact ⟨_, rfl, _, _, _, [], _, [], hW', trodAll_mk1 (shut_bool Try.underlying4 _), hback W' bel, rfl, bel.frame _, fun h => by cases h⟩
theorem over : Rows.fnExactBestShiftRow.holds Try.pinned (OpenSpec.ofChange Rows.fnExactBestShiftSpec) :=
  OpenClaim.holds_of_wide 4 Try.f4 rfl rfl rfl rfl rfl rfl rfl ⟨rfl, rfl, rfl, rfl, rfl⟩ rfl rfl rfl rfl rfl (by kernel_rfl) Try.func4 (by kernel_rfl)
    (of_decide_eq_true (by kernel_rfl)) (by unfold Func.isWrapper; first | (rw [if_pos (by decide +kernel)]; kernel_rfl) | (rw [if_neg (by decide +kernel)]; exact ⟨rfl, rfl⟩))
    (fun os started H enc _ => lifted os started H enc)
end Go.Proofs.Ytalndhjojcpgjaa.ofBestShift
namespace Go.Proofs.Ytalndhjojcpgjaa
theorem fnExactBestShift_holds : Rows.FnExactBestShiftSaid := ofBestShift.over
#print axioms fnExactBestShift_holds
end Go.Proofs.Ytalndhjojcpgjaa
