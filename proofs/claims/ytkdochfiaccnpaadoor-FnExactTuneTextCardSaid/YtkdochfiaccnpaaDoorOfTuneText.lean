/-
  The statement FnExactTuneTextCardSaid: whatever is given, the law's call returns true, and what is given reads as it did: the program's TuneText returns what the reference's returns. The three tables of the library's that the row lists are tied to the program's text by the given tie.
-/
import Derived.Test.YtkdochfiaccnpaaDoorRows
import Derived.Test.YtkdochfiaccnpaaDoorCards
import Derived.Test.YtkdochfiaccnpaaDoorTie
import Derived.Test.YtkdochfiaccnpaaDoorOpen
import Derived.ProofKit
import Derived.LaidMore
import Derived.OpenShut
import Derived.Stop.Joined
import Derived.SevenTiedAt
import Derived.Lib.LaidTab
import Derived.Stop.LaidErr
import Derived.Lib.AppendIntMem
import Derived.Test.YtkdochfiaccnpaaDoorWalkTT
import Derived.Test.YtkdochfiaccnpaaDoorWalkD
namespace Go.Proofs.YtkdochfiaccnpaaDoor
open Go.RowKit
set_option linter.unusedVariables false
set_option linter.unusedSimpArgs false

noncomputable def gPowN : Nat := (Tryd.prog.globalNamed "internal/strconv.uint64pow10").getD 0
theorem gPow : Tryd.prog.globalNamed "internal/strconv.uint64pow10" = some gPowN := by kernel_rfl
theorem gPowT : (Tryd.prog.globals[gPowN]?).map (·.type) = some 103 := by kernel_rfl
theorem cells64 : Tryd.prog.cellsOf 90 = 1 := by kernel_rfl
theorem cells20 : Tryd.prog.cellsOf 103 = 20 := by kernel_rfl

set_option maxRecDepth 100000 in
theorem law_TuneText (At : Option Addr) (kt : Nat) (t : List (Int × Int)) (w : World) (ht : At2 .i16 .i8 w At t) (hwt : Wf t) (hnt : t.length ≤ 9223372036854775807) (htab : Lib.TabIs Tryd.prog w "internal/strconv.uint64pow10" .u64 Lib.pow10Tab) :
    Calls Tryd.prog 4 #[.slice At t.length kt] w fun e w' => e = .returned (.bool true) ∧ Below w.heap.size w w' := by
  have hst0 := Tryd.underlying9
  have HT := Lib.hid (Lib.tabBelow_of_tabIs htab)
  clear htab
  by_cases hLt0 : t.length ≤ 1048576
  · have hst : szI (1048576) t.length = 1048576 - (t.length : Int) := by unfold szI; split <;> omega
    have htt : ¬ (1048576 - (t.length : Int)) < 0 := by omega
    have hLt : t.length ≤ 1073741824 := by omega
    go_enter Tryd.func4, Tryd.ntmps4
    go_wp2_with fail
    refine (c_szTune At kt t.length (1048576) _ (by omega) (by omega) hnt).mono ?_
    rintro e w' ⟨rfl, rfl⟩
    go_wp2_with fail
    refine (c_toTune At kt t w (ht) hLt).mono ?_
    rintro e w1 ⟨vst, rfl, ost_1, b1⟩
    obtain ⟨Ast, cst, rfl, _, _⟩ := ost_1.reads
    have B1 := bstep (Below.refl _ _) b1
    go_wp2_with fail
    refine (c_specTuneText Ast cst t w1 (ost_1.at_) hwt hLt).mono ?_
    rintro e w2 ⟨rfl, b2⟩
    have B2 := bstep B1 b2
    clear ost_1
    obtain ⟨R, hR⟩ : ∃ R, rTT t = R := ⟨_, rfl⟩
    rw [hR]
    have HR := Lib.hid hR
    clear hR
    go_wp2_with fail
    refine (c_toTune At kt t w2 (ht.below B2) hLt).mono ?_
    rintro e w3 ⟨vxt, rfl, oxt_3, b3⟩
    obtain ⟨Axt, cxt, rfl, _, _⟩ := oxt_3.reads
    have B3 := bstep B2 b3
    go_wp2_with fail
    refine (c_implTuneText Axt cxt t w3 (oxt_3.at_) hwt hLt (Lib.tabBelow_of_tabIs (HT.out.on B3).here)).mono ?_
    rintro e w4 ⟨rfl, b4⟩
    rw [HR.out]
    have B4 := bstep B3 b4
    have oxt_4 := oxt_3.below b4
    go_wp2_with fail
    refine (c_toTune At kt t w4 (ht.below B4) hLt).mono ?_
    rintro e w5 ⟨vyt, rfl, oyt_5, b5⟩
    obtain ⟨Ayt, cyt, rfl, _, _⟩ := oyt_5.reads
    have B5 := bstep B4 b5
    have oxt_5 := oxt_4.below b5
    have hEt := eqL_self t
    go_wp2_with fail
    refine (c_eqTune Axt Ayt cxt cyt _ _ w5 (oxt_5.at_) (oyt_5.at_) hLt hLt).mono ?_
    rintro e w6 ⟨rfl, b6⟩
    have B6 := bstep B5 b6
    go_wp2
    go_ret
    exact ⟨rfl, B6⟩
  · have hst : szI (1048576) t.length = -1 := by unfold szI; split <;> omega
    go_enter Tryd.func4, Tryd.ntmps4
    go_wp2_with fail
    refine (c_szTune At kt t.length (1048576) _ (by omega) (by omega) hnt).mono ?_
    rintro e w' ⟨rfl, rfl⟩
    go_wp2
    go_ret
    exact ⟨rfl, Below.refl _ _⟩
end Go.Proofs.YtkdochfiaccnpaaDoor
namespace Go.Proofs.YtkdochfiaccnpaaDoor.ofTuneText
open Go.ChangeShapes Go.WideShapes Go.ChangeAt Go.RowKit
theorem own : ownKnob Tryd.prog.godebug = none := by kernel_rfl
theorem laidOut : laidOutB Tryd.prog = true := by kernel_rfl
def laid3 : List (String × DataW Unit) := Rows.fnExactTuneTextRow.laid
set_option maxRecDepth 100000 in
/-- The heap that the text lays meets what is listed. -/
theorem door_met (os : Os) (args : Array Value) : laidMetH Tryd.prog laid3 ((World.doorLaid Tryd.prog 400 os).forCall (fun _ _ => 0) ⟨#[], args, []⟩).memory :=
  laidMetH_of_parts3 (fuel := 8) (laidMet_of_run' 8 (by kernel_rfl) (by kernel_rfl)) (by kernel_rfl) (by kernel_rfl)
set_option maxRecDepth 100000 in
theorem lifted (os : Os) (started : os.Started) (H : Type) (enc : TypeId × Value → H) :
    ReturnsInHanded {} Tryd.checked os 4 .any (fun w args => (Rows.fnExactTuneTextSpec.pre enc Tryd.prog Tryd.f4 [] false w args ∧ laidMetH Tryd.prog laid3 w) ∧ sizedMet enc Tryd.prog Tryd.f4 (OpenSpec.ofChange Rows.fnExactTuneTextSpec) false w args)
      (Rows.fnExactTuneTextSpec.post enc Tryd.prog Tryd.f4 false true false false) := by
  refine returnsInHanded_of_change_and (C := Tryd.checked) (X := fun w _ => laidMetH Tryd.prog laid3 w) (fun _ _ _ hh h => h.of_heap hh) own started (by kernel_rfl) Tryd.func4
    (ChangeSpec.witness_shaped (enc := enc) (C := Tryd.checked) (os := os) (X := fun w _ => laidMetH Tryd.prog laid3 w) false (World.doorLaid Tryd.prog 400 os) #[.slice none 0 0] 8 rfl (World.shaped_of_RefB (by kernel_rfl) (by kernel_rfl)) (by kernel_rfl) (by kernel_rfl) (by kernel_rfl) (door_met os _)) ?_
  intro W base args ds gs before hval0 hW hcnd hsz0 hL _
  have hval : ∀ (j : Nat) t v, Tryd.f4.params[j]? = some t → args[j]? = some v → Value.okWide Tryd.prog W .any base t v := hval0
  have hW' := hW
  have hlt := fun p (hp : p ∈ before) => hW.lt p hp
  obtain ⟨p, q, hA0, hV, rfl, hfz, hnd⟩ := hW
  have hA : DataW.TrodAll enc Tryd.prog W 0 (fun _ => true) true Tryd.f4.params.toList args.toList ds p := hA0
  obtain ⟨rfl, rfl⟩ := trodVars_none hV
  simp only [List.append_nil] at hlt hW'
  have hback := fun W' hb => trodAll_below (W' := W') laidOut hb (by rw [Tryd.params4]; decide +kernel) hlt hA
  rw [Tryd.params4] at hA hval
  obtain ⟨v0, vs0, d0, ds0, p0, q0, hargs, rfl, rfl, h0, r0⟩ := trodAll_cons hA
  obtain ⟨rfl, rfl, rfl⟩ := trodAll_nil r0
  obtain rfl : args = #[v0] := by cases args; simp_all
  obtain ⟨At, kt, t, rfl, hn_t, hr_t, hl_t⟩ := open_pairs Tryd.underlying24 Tryd.underlying51 Tryd.underlying32 Tryd.underlying47 (by kernel_rfl) (by kernel_rfl) (hval 0 _ _ rfl rfl) h0
  have hL3 : laidMet Tryd.prog (Rows.fnExactTuneTextRow.laid) W := by
    rw [← MakeChecks.laidMetH_plain _ _ _ (by kernel_rfl)]; exact hL
  have htab : Lib.TabIs Tryd.prog W "internal/strconv.uint64pow10" .u64 Lib.pow10Tab := Lib.tabIs_of_head gPow gPowT Tryd.underlying103 Tryd.underlying90 cells64 cells20 (show laidMet Tryd.prog [("internal/strconv.uint64pow10", Lib.tabData .u64 Lib.pow10Tab)] W from hL3.tail.tail)
  refine (law_TuneText At kt t W hr_t (wf_of_lits hl_t) (by unfold maxLen at hn_t; omega) htab).mono fun e W' ⟨he, bel⟩ => ?_
  subst he
  exact ⟨_, rfl, _, _, _, [], _, [], hW', trodAll_mk1 (shut_bool Tryd.underlying4 _), hback W' bel, rfl, bel.frame _, fun h => by cases h⟩
theorem over : Rows.fnExactTuneTextRow.holds Tryd.pinned (OpenSpec.ofChange Rows.fnExactTuneTextSpec) :=
  OpenClaim.holds_of_wide 4 Tryd.f4 rfl rfl rfl rfl rfl rfl rfl ⟨rfl, rfl, rfl, rfl, rfl⟩ rfl rfl rfl rfl rfl (by kernel_rfl) Tryd.func4 (by kernel_rfl)
    (of_decide_eq_true (by kernel_rfl)) (by unfold Func.isWrapper; first | (rw [if_pos (by decide +kernel)]; kernel_rfl) | (rw [if_neg (by decide +kernel)]; exact ⟨rfl, rfl⟩))
    (fun os started H enc _ => lifted os started H enc)
theorem card : Rows.FnExactTuneTextCardSaid :=
  Claim7.holds_tied_plain_at .later [] [.data, .data, .data] true (true, "327044051a54c245e37f794e62ad774c0db03810075deb1934bbbae8653f43b1") false
    over (fun _ h => by cases h) (by kernel_rfl) (fun _ h => by cases h) fnExactTuneText_row_tie rfl ⟨rfl, rfl⟩ (by kernel_rfl) rfl
    (fun f fn hf hfn => by
      obtain rfl : f = 4 := Option.some.inj ((show Tryd.prog.funcNamed "loop.example/g01311/laws.FnExactTuneText" = some 4 by kernel_rfl).symm.trans hf) |>.symm
      obtain rfl : fn = Tryd.f4 := (Option.some.inj (Tryd.func4.symm.trans hfn)).symm
      exact ⟨by kernel_rfl, fun j t ht => by
        rw [Tryd.params4] at ht
        have hm : t ∈ [24] := by simpa using Array.mem_of_getElem? ht
        have hall : ([24].all fun u => !Tryd.prog.wantsStandIn u) = true := by kernel_rfl
        exact (show Tryd.prog.wantsStandIn t = false by simpa using List.all_eq_true.1 hall t hm)⟩)
    (by kernel_rfl)
end Go.Proofs.YtkdochfiaccnpaaDoor.ofTuneText
namespace Go.Proofs.YtkdochfiaccnpaaDoor
theorem fnExactTuneTextCard_holds : Rows.FnExactTuneTextCardSaid := ofTuneText.card
#print axioms fnExactTuneTextCard_holds
end Go.Proofs.YtkdochfiaccnpaaDoor
