/-
  The statement FnExactValidTuneSaid: whatever notes are given, the law's call returns true, and the notes read as they did. Conditions: none beyond the statement's own.
-/
import Derived.Test.YtkibfahlfnaeoaaRows
import Derived.Test.YtkibfahlfnaeoaaOpen
import Derived.Test.YtkibfahlfnaeoaaLawValidTune
namespace Go.Proofs.Ytkibfahlfnaeoaa.ofValidTune
open Go.ChangeShapes Go.WideShapes Go.ChangeAt Go.RowKit
set_option linter.unusedVariables false
set_option linter.unusedSimpArgs false
theorem own : ownKnob Try.prog.godebug = none := by kernel_rfl
theorem laidOut : laidOutB Try.prog = true := by kernel_rfl
set_option maxRecDepth 100000 in
theorem lifted (os : Os) (started : os.Started) (H : Type) (enc : TypeId × Value → H) :
    ReturnsInHanded {} Try.checked os 6 .any (Rows.fnExactValidTuneSpec.pre6 enc Try.prog Try.f6 Rows.fnExactValidTuneRow.domain false) (Rows.fnExactValidTuneSpec.post enc Try.prog Try.f6 false true false false) := by
  refine returnsInHanded_of_change (C := Try.checked) own started (by kernel_rfl) Try.func6
    (ChangeSpec.witness6 (enc := enc) (C := Try.checked) false ⟨#[], #[.slice none 0 0], []⟩ 8 (by kernel_rfl) (by kernel_rfl) (by kernel_rfl) (by kernel_rfl)) ?_
  intro W base args ds gs before hval0 hW hcnd _
  have hval : ∀ (j : Nat) t v, Try.f6.params[j]? = some t → args[j]? = some v → Value.okWide Try.prog W .any base t v := hval0
  have hW' := hW
  have hlt := fun p (hp : p ∈ before) => hW.lt p hp
  obtain ⟨p, q, hA0, hV, rfl, hfz, hnd⟩ := hW
  have hA : DataW.TrodAll enc Try.prog W 0 (fun _ => true) true Try.f6.params.toList args.toList ds p := hA0
  obtain ⟨rfl, rfl⟩ := trodVars_none hV
  simp only [List.append_nil] at hlt hW'
  have hback := fun W' hb => trodAll_below (W' := W') laidOut hb (by rw [Try.params6]; decide +kernel) hlt hA
  rw [Try.params6] at hA hval
  obtain ⟨v0, vs0, d0, ds0, p0, q0, hargs, rfl, rfl, h0, r0⟩ := trodAll_cons hA
  obtain ⟨rfl, rfl, rfl⟩ := trodAll_nil r0
  obtain rfl : args = #[v0] := by cases args; simp_all
  obtain ⟨A, c, l, rfl, hn, hr, hl⟩ := open_pairs Try.underlying25 Try.underlying60 Try.underlying56 Try.underlying43 (by kernel_rfl) (by kernel_rfl) (hval 0 _ _ rfl rfl) h0
  refine (law_ValidTune A c l W hr (wf_of_lits hl) (by unfold maxLen at hn; omega)).mono fun e W' ⟨he, bel⟩ => ?_
  subst he
  exact ⟨_, rfl, _, _, _, [], _, [], hW', trodAll_mk1 (shut_bool Try.underlying4 _), hback W' bel, rfl, bel.frame _, fun h => by cases h⟩
theorem over : Rows.fnExactValidTuneRow.holds Try.pinned (OpenSpec.ofChange Rows.fnExactValidTuneSpec) :=
  OpenClaim.holds_of_wide 6 Try.f6 rfl rfl rfl rfl rfl rfl rfl ⟨rfl, rfl, rfl, rfl, rfl⟩ rfl rfl rfl rfl rfl (by kernel_rfl) Try.func6 (by kernel_rfl)
    (of_decide_eq_true (by kernel_rfl)) (by unfold Func.isWrapper; first | (rw [if_pos (by decide +kernel)]; kernel_rfl) | (rw [if_neg (by decide +kernel)]; exact ⟨rfl, rfl⟩))
    (fun os started H enc _ => lifted os started H enc)
end Go.Proofs.Ytkibfahlfnaeoaa.ofValidTune
namespace Go.Proofs.Ytkibfahlfnaeoaa
theorem fnExactValidTune_holds : Rows.FnExactValidTuneSaid := ofValidTune.over
#print axioms fnExactValidTune_holds
end Go.Proofs.Ytkibfahlfnaeoaa
