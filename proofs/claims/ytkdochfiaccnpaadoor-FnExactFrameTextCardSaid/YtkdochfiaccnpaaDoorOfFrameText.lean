/-
  The statement FnExactFrameTextCardSaid: whatever is given, the law's call returns true, and what is given reads as it did: the program's FrameText returns what the reference's returns. The three tables of the library's that the row lists are tied to the program's text by the given tie.
-/
import Derived.Test.YtkdochfiaccnpaaDoorRows
import Derived.Test.YtkdochfiaccnpaaDoorCards
import Derived.Test.YtkdochfiaccnpaaDoorTie
import Derived.Test.YtkdochfiaccnpaaDoorOpen
import Derived.ProofKit
import Derived.LaidMore
import Derived.OpenShut
import Derived.Stop.Joined
import Derived.SevenTiedAt
import Derived.Test.YtkdochfiaccnpaaDoorOpenD
import Derived.Test.YtkdochfiaccnpaaDoorWalkFT
import Derived.Test.YtkdochfiaccnpaaDoorWalkDA
namespace Go.Proofs.YtkdochfiaccnpaaDoor
open Go.RowKit
set_option linter.unusedVariables false
set_option linter.unusedSimpArgs false

set_option maxRecDepth 100000 in
set_option maxHeartbeats 1600000 in
theorem law_FrameText (sf : Int) (Af : Option Addr) (kf : Nat) (f : List (Int × Int)) (w : World) (hf : At2 .i8 .i8 w Af f) (hsf : W16 sf) (hwf : Whs f) (hnf : f.length ≤ 9223372036854775807) :
    Calls Tryd.prog 5 #[.agg #[.int .i16 sf, .slice Af f.length kf]] w fun e w' => e = .returned (.bool true) ∧ Below w.heap.size w w' := by
  have hst0 := Tryd.underlying9
  have hu := Tryd.underlying40
  have hu2 := Tryd.underlying35
  by_cases hLf0 : f.length ≤ 1048576
  · have hsz : szI 1048576 f.length = 1048576 - (f.length : Int) := by unfold szI; split <;> omega
    have ht : decide (1048576 - (f.length : Int) < 0) = false := decide_eq_false (by omega)
    have hLf : f.length ≤ 1073741824 := by omega
    go_enter Tryd.func5, Tryd.ntmps5
    go_wp2_with fail
    refine (c_szFrame sf Af kf f.length (1048576) _ (by omega) (by omega) hnf).mono ?_
    rintro e w1 ⟨rfl, b1⟩
    have H1 := Lib.hid ((Var.new w #[.int .i16 sf, .slice Af f.length kf] 35).below b1)
    have B1 := bstep (balloc (Below.refl _ w) _) b1
    rw [hsz]
    clear hsz b1
    have c1 := H1.out.cell (i := 0) rfl
    have c2 := H1.out.cell (i := 1) rfl
    go_wp2_with fail
    refine (c_toFrame sf Af kf f _ (hf.below B1) hLf).mono ?_
    rintro e w2 ⟨A2, k2, rfl, o2, b2⟩
    clear c1 c2
    go_wp2_with fail
    refine (c_specFrameText sf A2 k2 f _ o2.at_ hsf hwf hLf).mono ?_
    rintro e w3 ⟨rfl, b3⟩
    have H3 := Lib.hid ((H1.out.below b2).below b3)
    have B3 := bstep (bstep B1 b2) b3
    obtain ⟨R, hR⟩ : ∃ R, rFT sf f = R := ⟨_, rfl⟩
    rw [hR]
    have HR := Lib.hid hR
    clear hR o2 b2 b3 H1
    have c1 := H3.out.cell (i := 0) rfl
    have c2 := H3.out.cell (i := 1) rfl
    go_wp2_with fail
    refine (c_toFrame sf Af kf f _ (hf.below B3) hLf).mono ?_
    rintro e w4 ⟨A4, k4, rfl, o4, b4⟩
    have v2 : Var (w4.alloc (.cells #[.int .i16 sf, .slice A4 f.length k4] 40)) w4.heap.size #[.int .i16 sf, .slice A4 f.length k4] 40 := Var.new _ _ _
    have Ga := Lib.hid v2
    have Ha := Lib.hid ((H3.out.below b4).old (.cells #[.int .i16 sf, .slice A4 f.length k4] 40))
    have OA := Lib.hid (o4.alloc (.cells #[.int .i16 sf, .slice A4 f.length k4] 40))
    have Ba := balloc (bstep B3 b4) (.cells #[.int .i16 sf, .slice A4 f.length k4] 40)
    clear v2 c1 c2 o4 b4 H3
    go_wp2_with fail
    refine (c_implFrameText sf A4 k4 f _ OA.out.at_ hsf hwf hLf).mono ?_
    rintro e w5 ⟨rfl, b5⟩
    rw [HR.out]
    have G5 := Lib.hid (Ga.out.below b5)
    have H5 := Lib.hid (Ha.out.below b5)
    have O5 := Lib.hid (OA.out.below b5)
    have B5 := bstep Ba b5
    have hE := eqL_self f
    clear b5 Ga Ha OA
    go_upto_region 10 with fail
    refine wp_region_held_drew (S := (Below w5.heap.size w5)) (by kernel_rfl) (bdrew (Below.refl _ _)) (fun hHeld => ?_)
    refine takeL (i := 0) (v := .agg #[.int .i16 sf, .slice A4 f.length k4]) rfl (by kernel_rfl) (by kernel_rfl) (by kernel_rfl) (fun _ _ _ h => h) (Or.inl ⟨by rfl, by intro w' hS; have y1 := (G5.out.below hS).cell (i := 0) rfl; have y2 := (G5.out.below hS).cell (i := 1) rfl; clear hS; go_simp⟩) hHeld ?_
    simp only [Act.put, List.setIfInBounds_toArray, List.set_cons_zero, List.set_cons_succ]
    refine takeL (i := 1) (v := .agg #[.int .i16 sf, .slice Af f.length kf]) rfl (by kernel_rfl) (by kernel_rfl) (by kernel_rfl) (fun _ _ _ h => h) (Or.inl ⟨by rfl, by intro w' hS; have y1 := (H5.out.below hS).cell (i := 0) rfl; have y2 := (H5.out.below hS).cell (i := 1) rfl; clear hS; go_simp⟩) hHeld ?_
    simp only [Act.put, List.setIfInBounds_toArray, List.set_cons_zero, List.set_cons_succ]
    refine wpAnyH_ready (rs := [2]) (by kernel_rfl) (by simp) ?_
    refine readyL rfl (fun K hK => ?_) AllReadyH.nil
    go_simp
    refine (c_toFrame sf Af kf f _ (hf.below (bstep B5 hHeld)) hLf).mono ?_
    rintro e wa ⟨Ax, kx, rfl, ox, hbk⟩
    go_wp2_with fail
    refine hK.out _ _ (bstep hHeld hbk) (fun hHeld => ?_)
    clear hK K
    try simp only [Act.put, List.setIfInBounds_toArray, List.set_cons_zero, List.set_cons_succ]
    refine wpAnyH_ready (rs := [3]) (by kernel_rfl) (by simp) ?_
    refine readyL rfl (fun K hK => ?_) AllReadyH.nil
    go_simp
    refine (c_eqFrame sf sf A4 Ax k4 kx f f _ (O5.out.at_.below hHeld) ox.at_ hLf hLf).mono ?_
    rintro e wb ⟨rfl, hbk⟩
    rw [hE, decide_self]
    go_wp2_with fail
    refine hK.out _ _ (bstep hHeld hbk) (fun hHeld => ?_)
    clear hK K
    try simp only [Act.put, List.setIfInBounds_toArray, List.set_cons_zero, List.set_cons_succ]
    refine takeL (i := 4) (v := .bool false) rfl (by kernel_rfl) (by kernel_rfl) (by kernel_rfl) (fun _ _ _ h => h) (Or.inl ⟨by rfl, by intro w' hS; clear hS; go_simp⟩) hHeld ?_
    simp only [Act.put, List.setIfInBounds_toArray, List.set_cons_zero, List.set_cons_succ]
    refine wpAnyH_done (by kernel_rfl) ?_ _
    go_wp2
    go_ret
    exact ⟨rfl, bstep B5 hHeld⟩
  · have hsz : szI 1048576 f.length = -1 := by unfold szI; split <;> omega
    go_enter Tryd.func5, Tryd.ntmps5
    go_wp2_with fail
    refine (c_szFrame sf Af kf f.length (1048576) _ (by omega) (by omega) hnf).mono ?_
    rintro e w1 ⟨rfl, b1⟩
    rw [hsz]
    go_wp2
    go_ret
    exact ⟨rfl, bstep (balloc (Below.refl _ w) _) b1⟩
end Go.Proofs.YtkdochfiaccnpaaDoor
namespace Go.Proofs.YtkdochfiaccnpaaDoor.ofFrameText
open Go.ChangeShapes Go.WideShapes Go.ChangeAt Go.RowKit
theorem own : ownKnob Tryd.prog.godebug = none := by kernel_rfl
theorem laidOut : laidOutB Tryd.prog = true := by kernel_rfl
def laid3 : List (String × DataW Unit) := Rows.fnExactFrameTextRow.laid
set_option maxRecDepth 100000 in
/-- The heap that the text lays meets what is listed. -/
theorem door_met (os : Os) (args : Array Value) : laidMetH Tryd.prog laid3 ((World.doorLaid Tryd.prog 400 os).forCall (fun _ _ => 0) ⟨#[], args, []⟩).memory :=
  laidMetH_of_parts3 (fuel := 8) (laidMet_of_run' 8 (by kernel_rfl) (by kernel_rfl)) (by kernel_rfl) (by kernel_rfl)
set_option maxRecDepth 100000 in
theorem lifted (os : Os) (started : os.Started) (H : Type) (enc : TypeId × Value → H) :
    ReturnsInHanded {} Tryd.checked os 5 .any (fun w args => (Rows.fnExactFrameTextSpec.pre enc Tryd.prog Tryd.f5 [] false w args ∧ laidMetH Tryd.prog laid3 w) ∧ sizedMet enc Tryd.prog Tryd.f5 (OpenSpec.ofChange Rows.fnExactFrameTextSpec) false w args)
      (Rows.fnExactFrameTextSpec.post enc Tryd.prog Tryd.f5 false true false false) := by
  refine returnsInHanded_of_change_and (C := Tryd.checked) (X := fun w _ => laidMetH Tryd.prog laid3 w) (fun _ _ _ hh h => h.of_heap hh) own started (by kernel_rfl) Tryd.func5
    (ChangeSpec.witness_shaped (enc := enc) (C := Tryd.checked) (os := os) (X := fun w _ => laidMetH Tryd.prog laid3 w) false (World.doorLaid Tryd.prog 400 os) #[.agg #[.int .i16 0, .slice none 0 0]] 8 rfl (World.shaped_of_RefB (by kernel_rfl) (by kernel_rfl)) (by kernel_rfl) (by kernel_rfl) (by kernel_rfl) (door_met os _)) ?_
  intro W base args ds gs before hval0 hW hcnd hsz0 hL _
  have hval : ∀ (j : Nat) t v, Tryd.f5.params[j]? = some t → args[j]? = some v → Value.okWide Tryd.prog W .any base t v := hval0
  have hW' := hW
  have hlt := fun p (hp : p ∈ before) => hW.lt p hp
  obtain ⟨p, q, hA0, hV, rfl, hfz, hnd⟩ := hW
  have hA : DataW.TrodAll enc Tryd.prog W 0 (fun _ => true) true Tryd.f5.params.toList args.toList ds p := hA0
  obtain ⟨rfl, rfl⟩ := trodVars_none hV
  simp only [List.append_nil] at hlt hW'
  have hback := fun W' hb => trodAll_below (W' := W') laidOut hb (by rw [Tryd.params5]; decide +kernel) hlt hA
  rw [Tryd.params5] at hA hval
  obtain ⟨v0, vs0, d0, ds0, p0, q0, hargs, rfl, rfl, h0, r0⟩ := trodAll_cons hA
  obtain ⟨rfl, rfl, rfl⟩ := trodAll_nil r0
  obtain rfl : args = #[v0] := by cases args; simp_all
  obtain ⟨sf, Af, kf, f, rfl, hw_s, hn_f, hr_f, hl_f⟩ := open_frame Tryd.underlying35 (by kernel_rfl) (by kernel_rfl) Tryd.underlying32 rfl Tryd.underlying33 Tryd.underlying78 Tryd.underlying47 Tryd.underlying47 (by kernel_rfl) (by kernel_rfl) (hval 0 _ _ rfl rfl) h0
  refine (law_FrameText sf Af kf f W hr_f hw_s hl_f hn_f).mono fun e W' ⟨he, bel⟩ => ?_
  subst he
  exact ⟨_, rfl, _, _, _, [], _, [], hW', trodAll_mk1 (shut_bool Tryd.underlying4 _), hback W' bel, rfl, bel.frame _, fun h => by cases h⟩
theorem over : Rows.fnExactFrameTextRow.holds Tryd.pinned (OpenSpec.ofChange Rows.fnExactFrameTextSpec) :=
  OpenClaim.holds_of_wide 5 Tryd.f5 rfl rfl rfl rfl rfl rfl rfl ⟨rfl, rfl, rfl, rfl, rfl⟩ rfl rfl rfl rfl rfl (by kernel_rfl) Tryd.func5 (by kernel_rfl)
    (of_decide_eq_true (by kernel_rfl)) (by unfold Func.isWrapper; first | (rw [if_pos (by decide +kernel)]; kernel_rfl) | (rw [if_neg (by decide +kernel)]; exact ⟨rfl, rfl⟩))
    (fun os started H enc _ => lifted os started H enc)
theorem card : Rows.FnExactFrameTextCardSaid :=
  Claim7.holds_tied_plain_at .later [] [.data, .data, .data] true (true, "327044051a54c245e37f794e62ad774c0db03810075deb1934bbbae8653f43b1") false
    over (fun _ h => by cases h) (by kernel_rfl) (fun _ h => by cases h) fnExactFrameText_row_tie rfl ⟨rfl, rfl⟩ (by kernel_rfl) rfl
    (fun f fn hf hfn => by
      obtain rfl : f = 5 := Option.some.inj ((show Tryd.prog.funcNamed "loop.example/g01311/laws.FnExactFrameText" = some 5 by kernel_rfl).symm.trans hf) |>.symm
      obtain rfl : fn = Tryd.f5 := (Option.some.inj (Tryd.func5.symm.trans hfn)).symm
      exact ⟨by kernel_rfl, fun j t ht => by
        rw [Tryd.params5] at ht
        have hm : t ∈ [35] := by simpa using Array.mem_of_getElem? ht
        have hall : ([35].all fun u => !Tryd.prog.wantsStandIn u) = true := by kernel_rfl
        exact (show Tryd.prog.wantsStandIn t = false by simpa using List.all_eq_true.1 hall t hm)⟩)
    (by kernel_rfl)
end Go.Proofs.YtkdochfiaccnpaaDoor.ofFrameText
namespace Go.Proofs.YtkdochfiaccnpaaDoor
theorem fnExactFrameTextCard_holds : Rows.FnExactFrameTextCardSaid := ofFrameText.card
#print axioms fnExactFrameTextCard_holds
end Go.Proofs.YtkdochfiaccnpaaDoor
