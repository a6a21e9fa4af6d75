/-
  The statement FnExactFirstClashSaid: whatever is given, the law's call returns true, and what is given reads as it did: the program's FirstClash returns what the reference's returns. Conditions: none beyond the statement's own.
-/
import Derived.Test.YtehmadgmhknfhaaRows
import Derived.Test.YtehmadgmhknfhaaOpenD
import Derived.Deep.RegionHeld
import Derived.Test.YtehmadgmhknfhaaWalkDW
namespace Go.Proofs.Ytehmadgmhknfhaa
open Go.RowKit
set_option linter.unusedVariables false
set_option linter.unusedSimpArgs false

set_option maxRecDepth 100000 in
set_option maxHeartbeats 1000000 in
theorem law_FirstClash (sf : Int) (Af : Option Addr) (kf : Nat) (f : List (Int × Int)) (d : List Int) (w : World) (hf : At2 .i8 .i8 w Af f) (hsf : W16 sf) (hwf : Whs f) (hnf : f.length ≤ 9223372036854775807) (hd : d.length = 96) (hrd : ∀ x ∈ d, 0 ≤ x ∧ x ≤ 4294967295) :
    Calls Try.prog 5 #[.agg #[.int .i16 sf, .slice Af f.length kf], .agg (drumV d)] w fun e w' => e = .returned (.bool true) ∧ Below w.heap.size w w' := by
  have hu := Try.underlying33
  have hu2 := Try.underlying25
  have hud := Try.underlying27
  have hid1 : (Try.prog.info? 27).map (·.size) = some 96 := by kernel_rfl
  have hlnd : (Try.prog.info? 27).map (·.size) = some (drumV d).toList.length := by rw [drumV_len, hd]; exact hid1
  by_cases hLf0 : f.length ≤ 1048576
  · have hsz : szI 1048576 f.length = 1048576 - (f.length : Int) := by unfold szI; split <;> omega
    have ht : decide (1048576 - (f.length : Int) < 0) = false := decide_eq_false (by omega)
    have hLf : f.length ≤ 1073741824 := by omega
    go_enter Try.func5, Try.ntmps5
    go_wp2_with fail
    refine (c_szFrame sf Af kf f.length (1048576) _ (by omega) (by omega) hnf).mono ?_
    rintro e w1 ⟨rfl, b1⟩
    have v0 : Var ((w.alloc (.cells #[.int .i16 sf, .slice Af f.length kf] 25)).alloc (.cells (drumV d) 27)) (w.heap.size) #[.int .i16 sf, .slice Af f.length kf] 25 := by simpa using ((Var.new w #[.int .i16 sf, .slice Af f.length kf] 25).old (.cells (drumV d) 27))
    have H1 := Lib.hid (v0.below b1)
    clear v0
    have v1 : Var ((w.alloc (.cells #[.int .i16 sf, .slice Af f.length kf] 25)).alloc (.cells (drumV d) 27)) (w.heap.size + 1) (drumV d) 27 := by simpa using (Var.new (w.alloc (.cells #[.int .i16 sf, .slice Af f.length kf] 25)) (drumV d) 27)
    have Dd1 := Lib.hid (v1.below b1)
    clear v1
    have B1 := bstep (balloc (balloc (Below.refl _ w) _) _) b1
    have c1 := H1.out.cell (i := 0) rfl
    have c2 := H1.out.cell (i := 1) rfl
    rw [hsz]
    clear hsz
    go_wp2_with fail
    have hk0 := Lib.hid (show w1.drew.cell? ⟨w.heap.size, 0, none⟩ = some (.int .i16 sf) ∧ w1.drew.cell? ⟨w.heap.size, 1, none⟩ = some (.slice Af f.length kf) ∧ w1.drew.rangeAt (w.heap.size + 1) 0 (drumV d).toList ∧ Below w1.heap.size w1 w1.drew from ⟨H1.out.drew.cell rfl, H1.out.drew.cell rfl, Dd1.out.drew.range, bdrew (Below.refl _ _)⟩)
    go_region_held (fun w' => w'.cell? ⟨w.heap.size, 0, none⟩ = some (.int .i16 sf) ∧ w'.cell? ⟨w.heap.size, 1, none⟩ = some (.slice Af f.length kf) ∧ w'.rangeAt (w.heap.size + 1) 0 (drumV d).toList ∧ Below w1.heap.size w1 w')
      (first | exact hk0.out | exact ⟨keepc q1 hbk, keepc q2 hbk, keepr q3 hbk, bstep q4 hbk⟩)
      (first | (go_at_call 13; obtain ⟨q1, q2, q3, q4⟩ := ‹_ ∧ _›; refine (c_toFrame sf Af kf f _ (hf.below (bstep B1 q4)) hLf).mono ?_; rintro e w1x ⟨Ax, kx, rfl, ox, hbk⟩) | (go_at_call 14; obtain ⟨q1, q2, q3, q4⟩ := ‹_ ∧ _›; (refine (c_toDrum d _ hd).mono ?_); rintro e wd ⟨rfl, hbk⟩; have oy := ox; clear ox; have ox := oy.below hbk; clear oy) | (go_at_call 23; obtain ⟨q1, q2, q3, q4⟩ := ‹_ ∧ _›; refine (c_specFirstClash sf Ax kx f d _ ox.at_ hsf hwf hLf hd hrd).mono ?_; rintro e w3 ⟨rfl, hbk⟩))
    clear hk0
    have b3 := bstep q4 hbk
    have H3 := Lib.hid (H1.out.below b3)
    have Dd3 := Lib.hid (Dd1.out.below b3)
    have B3 := bstep B1 b3
    clear ox hbk
    have c1 := H3.out.cell (i := 0) rfl
    have c2 := H3.out.cell (i := 1) rfl
    go_wp2_with fail
    refine (c_toFrame sf Af kf f _ (hf.below B3) hLf).mono ?_
    rintro e w4 ⟨A4, k4, rfl, o4, b4⟩
    have H4 := Lib.hid (H3.out.below b4)
    have Dd4 := Lib.hid (Dd3.out.below b4)
    have B4 := bstep B3 b4
    have v2 : Var (w4.alloc (.cells #[.int .i16 sf, .slice A4 f.length k4] 33)) w4.heap.size #[.int .i16 sf, .slice A4 f.length k4] 33 := Var.new _ _ _
    have G4 := Lib.hid v2
    clear v2
    have Ha := Lib.hid (H4.out.old (.cells #[.int .i16 sf, .slice A4 f.length k4] 33))
    have Dda := Lib.hid (Dd4.out.old (.cells #[.int .i16 sf, .slice A4 f.length k4] 33))
    have o4a := o4.alloc (.cells #[.int .i16 sf, .slice A4 f.length k4] 33)
    have B4a := balloc B4 (.cells #[.int .i16 sf, .slice A4 f.length k4] 33)
    go_wp2_with fail
    obtain ⟨w4a, hw4a⟩ : ∃ u, u = w4.alloc (.cells #[.int .i16 sf, .slice A4 f.length k4] 33) := ⟨_, rfl⟩
    rw [← hw4a] at G4 Ha Dda o4a B4a ⊢
    clear hw4a
    have hk0 := Lib.hid (show w4a.drew.cell? ⟨w4.heap.size, 0, none⟩ = some (.int .i16 sf) ∧ w4a.drew.cell? ⟨w4.heap.size, 1, none⟩ = some (.slice A4 f.length k4) ∧ w4a.drew.rangeAt (w.heap.size + 1) 0 (drumV d).toList ∧ Below w4a.heap.size w4a w4a.drew from ⟨G4.out.drew.cell rfl, G4.out.drew.cell rfl, Dda.out.drew.range, bdrew (Below.refl _ _)⟩)
    go_region_held (fun w' => w'.cell? ⟨w4.heap.size, 0, none⟩ = some (.int .i16 sf) ∧ w'.cell? ⟨w4.heap.size, 1, none⟩ = some (.slice A4 f.length k4) ∧ w'.rangeAt (w.heap.size + 1) 0 (drumV d).toList ∧ Below w4a.heap.size w4a w')
      (first | exact hk0.out | exact ⟨keepc q1 hbk, keepc q2 hbk, keepr q3 hbk, bstep q4 hbk⟩)
      (first | (go_at_call 14; obtain ⟨q1, q2, q3, q4⟩ := ‹_ ∧ _›; (refine (c_toDrum d _ hd).mono ?_); rintro e wd ⟨rfl, hbk⟩) | (go_at_call 24; obtain ⟨q1, q2, q3, q4⟩ := ‹_ ∧ _›; refine (c_implFirstClash sf A4 k4 f d _ (o4a.at_.below q4) hsf hwf hLf hd hrd).mono ?_; rintro e w5 ⟨rfl, hbk⟩))
    clear hk0
    have b5 := bstep q4 hbk
    have H5 := Lib.hid (Ha.out.below b5)
    have Dd5 := Lib.hid (Dda.out.below b5)
    have G5 := Lib.hid (G4.out.below b5)
    have B5 := bstep B4a b5
    have o5 := o4a.below b5
    clear hbk
    have hE := eqL_self f
    go_wp2_with fail
    have hk0 := Lib.hid (show w5.drew.cell? ⟨w.heap.size, 0, none⟩ = some (.int .i16 sf) ∧ w5.drew.cell? ⟨w.heap.size, 1, none⟩ = some (.slice Af f.length kf) ∧ w5.drew.cell? ⟨w4.heap.size, 0, none⟩ = some (.int .i16 sf) ∧ w5.drew.cell? ⟨w4.heap.size, 1, none⟩ = some (.slice A4 f.length k4) ∧ Below w5.heap.size w5 w5.drew from ⟨H5.out.drew.cell rfl, H5.out.drew.cell rfl, G5.out.drew.cell rfl, G5.out.drew.cell rfl, bdrew (Below.refl _ _)⟩)
    go_region_held (fun w' => w'.cell? ⟨w.heap.size, 0, none⟩ = some (.int .i16 sf) ∧ w'.cell? ⟨w.heap.size, 1, none⟩ = some (.slice Af f.length kf) ∧ w'.cell? ⟨w4.heap.size, 0, none⟩ = some (.int .i16 sf) ∧ w'.cell? ⟨w4.heap.size, 1, none⟩ = some (.slice A4 f.length k4) ∧ Below w5.heap.size w5 w')
      (first | exact hk0.out | exact ⟨keepc q1 hbk, keepc q2 hbk, keepc q3 hbk, keepc q4 hbk, bstep q5 hbk⟩)
      (first | (go_at_call 13; obtain ⟨q1, q2, q3, q4, q5⟩ := ‹_ ∧ _›; refine (c_toFrame sf Af kf f _ (hf.below (bstep B5 q5)) hLf).mono ?_; rintro e w5x ⟨Ax, kx, rfl, ox, hbk⟩) | (go_at_call 16; obtain ⟨q1, q2, q3, q4, q5⟩ := ‹_ ∧ _›; refine (c_eqFrame sf sf A4 Ax k4 kx f f _ (o5.at_.below q5) ox.at_ hLf hLf).mono ?_; rintro e w7 ⟨rfl, hbk⟩))
    clear hk0
    go_wp2
    go_ret
    exact ⟨rfl, bstep (bstep B5 q5) hbk⟩
  · have hsz : szI 1048576 f.length = -1 := by unfold szI; split <;> omega
    go_enter Try.func5, Try.ntmps5
    go_wp2_with fail
    refine (c_szFrame sf Af kf f.length (1048576) _ (by omega) (by omega) hnf).mono ?_
    rintro e w1 ⟨rfl, b1⟩
    rw [hsz]
    go_wp2
    go_ret
    exact ⟨rfl, bstep (balloc (balloc (Below.refl _ w) _) _) b1⟩
end Go.Proofs.Ytehmadgmhknfhaa
namespace Go.Proofs.Ytehmadgmhknfhaa.ofFirstClash
open Go.ChangeShapes Go.WideShapes Go.ChangeAt Go.RowKit
theorem own : ownKnob Try.prog.godebug = none := by kernel_rfl
theorem laidOut : laidOutB Try.prog = true := by kernel_rfl
set_option maxRecDepth 100000 in
theorem lifted (os : Os) (started : os.Started) (H : Type) (enc : TypeId × Value → H) :
    ReturnsInHanded {} Try.checked os 5 .any (Rows.fnExactFirstClashSpec.pre6 enc Try.prog Try.f5 Rows.fnExactFirstClashRow.domain false) (Rows.fnExactFirstClashSpec.post enc Try.prog Try.f5 false true false false) := by
  refine returnsInHanded_of_change (C := Try.checked) own started (by kernel_rfl) Try.func5
    (ChangeSpec.witness6 (enc := enc) (C := Try.checked) false ⟨#[], #[.agg #[.int .i16 0, .slice none 0 0], .agg (Array.replicate 96 (.int .u32 0))], []⟩ 8 (by kernel_rfl) (by kernel_rfl) (by kernel_rfl) (by kernel_rfl)) ?_
  intro W base args ds gs before hval0 hW hcnd _
  have hval : ∀ (j : Nat) t v, Try.f5.params[j]? = some t → args[j]? = some v → Value.okWide Try.prog W .any base t v := hval0
  have hW' := hW
  have hlt := fun p (hp : p ∈ before) => hW.lt p hp
  obtain ⟨p, q, hA0, hV, rfl, hfz, hnd⟩ := hW
  have hA : DataW.TrodAll enc Try.prog W 0 (fun _ => true) true Try.f5.params.toList args.toList ds p := hA0
  obtain ⟨rfl, rfl⟩ := trodVars_none hV
  simp only [List.append_nil] at hlt hW'
  have hback := fun W' hb => trodAll_below (W' := W') laidOut hb (by rw [Try.params5]; decide +kernel) hlt hA
  rw [Try.params5] at hA hval
  obtain ⟨v0, vs0, d0, ds0, p0, q0, hargs, rfl, rfl, h0, r0⟩ := trodAll_cons hA
  obtain ⟨v1, vs1, d1, ds1, p1, q1, rfl, rfl, rfl, h1, r1⟩ := trodAll_cons r0
  obtain ⟨rfl, rfl, rfl⟩ := trodAll_nil r1
  obtain rfl : args = #[v0, v1] := by cases args; simp_all
  obtain ⟨sf, Af, kf, f, rfl, hw_s, hn_f, hr_f, hl_f⟩ := open_frame Try.underlying25 (by kernel_rfl) (by kernel_rfl) Try.underlying22 rfl Try.underlying23 Try.underlying99 Try.underlying77 Try.underlying77 (by kernel_rfl) (by kernel_rfl) (hval 0 _ _ rfl rfl) h0
  obtain ⟨d, rfl, hn_d, hr_d⟩ := open_drum Try.underlying27 Try.underlying26 (by kernel_rfl) (by kernel_rfl) (hval 1 _ _ rfl rfl) h1
  refine (law_FirstClash sf Af kf f d W hr_f hw_s hl_f hn_f hn_d hr_d).mono fun e W' ⟨he, bel⟩ => ?_
  subst he
  exact ⟨_, rfl, _, _, _, [], _, [], hW', trodAll_mk1 (shut_bool Try.underlying4 _), hback W' bel, rfl, bel.frame _, fun h => by cases h⟩
theorem over : Rows.fnExactFirstClashRow.holds Try.pinned (OpenSpec.ofChange Rows.fnExactFirstClashSpec) :=
  OpenClaim.holds_of_wide 5 Try.f5 rfl rfl rfl rfl rfl rfl rfl ⟨rfl, rfl, rfl, rfl, rfl⟩ rfl rfl rfl rfl rfl (by kernel_rfl) Try.func5 (by kernel_rfl)
    (of_decide_eq_true (by kernel_rfl)) (by unfold Func.isWrapper; first | (rw [if_pos (by decide +kernel)]; kernel_rfl) | (rw [if_neg (by decide +kernel)]; exact ⟨rfl, rfl⟩))
    (fun os started H enc _ => lifted os started H enc)
end Go.Proofs.Ytehmadgmhknfhaa.ofFirstClash
namespace Go.Proofs.Ytehmadgmhknfhaa
theorem fnExactFirstClash_holds : Rows.FnExactFirstClashSaid := ofFirstClash.over
#print axioms fnExactFirstClash_holds
end Go.Proofs.Ytehmadgmhknfhaa
