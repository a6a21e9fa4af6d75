/-
  The statement FnExactJoinTunesSaid: whatever is given, the law's call returns true, and what is given reads as it did: the program's JoinTunes returns what the reference's returns. Conditions: none beyond the statement's own.
-/
import Derived.Test.YtkooeikcmnkgmaaRows
import Derived.Test.YtkooeikcmnkgmaaOpen
import Derived.Test.YtkooeikcmnkgmaaWalkX
import Derived.Test.YtkooeikcmnkgmaaWalkF
namespace Go.Proofs.Ytkooeikcmnkgmaa
open Go.RowKit
set_option linter.unusedVariables false
set_option linter.unusedSimpArgs false

set_option maxRecDepth 100000 in
theorem law_JoinTunes (Aa : Option Addr) (ka : Nat) (a : List (Int × Int)) (Ab : Option Addr) (kb : Nat) (b : List (Int × Int)) (w : World) (ha : At2 .i16 .i8 w Aa a) (hwa : Wf a) (hna : a.length ≤ 9223372036854775807) (hb : At2 .i16 .i8 w Ab b) (hwb : Wf b) (hnb : b.length ≤ 9223372036854775807) :
    Calls Try.prog 8 #[.slice Aa a.length ka, .slice Ab b.length kb] w fun e w' => e = .returned (.bool true) ∧ Below w.heap.size w w' := by
  by_cases hLa0 : a.length ≤ 1048576
  · have hsa : szI (1048576) a.length = 1048576 - (a.length : Int) := by unfold szI; split <;> omega
    have hta : ¬ (1048576 - (a.length : Int)) < 0 := by omega
    have hLa : a.length ≤ 1073741824 := by omega
    by_cases hLb0 : a.length + b.length ≤ 1048576
    · have hsb : szI (1048576 - (a.length : Int)) b.length = 1048576 - (a.length : Int) - (b.length : Int) := by unfold szI; split <;> omega
      have htb : ¬ (1048576 - (a.length : Int) - (b.length : Int)) < 0 := by omega
      have hLb : b.length ≤ 1073741824 := by omega
      go_enter Try.func8, Try.ntmps8
      go_wp2_with fail
      refine (c_szTune Aa ka a.length (1048576) _ (by omega) (by omega) hna).mono ?_
      rintro e w' ⟨rfl, rfl⟩
      go_wp2_with fail
      refine (c_szTune Ab kb b.length (1048576 - (a.length : Int)) _ (by omega) (by omega) hnb).mono ?_
      rintro e w' ⟨rfl, rfl⟩
      go_wp2_with fail
      refine (c_toTune Aa ka a w (ha) hLa).mono ?_
      rintro e w1 ⟨vsa, rfl, osa_1, b1⟩
      obtain ⟨Asa, csa, rfl, _, _⟩ := osa_1.reads
      have B1 := bstep (Below.refl _ _) b1
      go_wp2_with fail
      refine (c_toTune Ab kb b w1 (hb.below B1) hLb).mono ?_
      rintro e w2 ⟨vsb, rfl, osb_2, b2⟩
      obtain ⟨Asb, csb, rfl, _, _⟩ := osb_2.reads
      have B2 := bstep B1 b2
      have osa_2 := osa_1.below b2
      go_wp2_with fail
      refine (c_specJoinTunes Asa Asb csa csb a b w2 (osa_2.at_) (osb_2.at_) hwa hwb hLa hLb).mono ?_
      rintro e w3 ⟨vw, rfl, ow_3, b3⟩
      obtain ⟨Aw, cw, rfl, _, _⟩ := ow_3.reads
      have B3 := bstep B2 b3
      have osa_3 := osa_2.below b3
      have osb_3 := osb_2.below b3
      go_wp2_with fail
      refine (c_toTune Aa ka a w3 (ha.below B3) hLa).mono ?_
      rintro e w4 ⟨vxa, rfl, oxa_4, b4⟩
      obtain ⟨Axa, cxa, rfl, _, _⟩ := oxa_4.reads
      have B4 := bstep B3 b4
      have osa_4 := osa_3.below b4
      have osb_4 := osb_3.below b4
      have ow_4 := ow_3.below b4
      go_wp2_with fail
      refine (c_toTune Ab kb b w4 (hb.below B4) hLb).mono ?_
      rintro e w5 ⟨vxb, rfl, oxb_5, b5⟩
      obtain ⟨Axb, cxb, rfl, _, _⟩ := oxb_5.reads
      have B5 := bstep B4 b5
      have osa_5 := osa_4.below b5
      have osb_5 := osb_4.below b5
      have ow_5 := ow_4.below b5
      have oxa_5 := oxa_4.below b5
      go_wp2_with fail
      refine (c_implJoinTunes Axa Axb cxa cxb a b w5 (oxa_5.at_) (oxb_5.at_) hwa hwb hLa hLb).mono ?_
      rintro e w6 ⟨vg, rfl, og_6, b6⟩
      obtain ⟨Ag, cg, rfl, _, _⟩ := og_6.reads
      have B6 := bstep B5 b6
      have osa_6 := osa_5.below b6
      have osb_6 := osb_5.below b6
      have ow_6 := ow_5.below b6
      have oxa_6 := oxa_5.below b6
      have oxb_6 := oxb_5.below b6
      have hE := eqL_self (rJoin a b)
      have hR : (rJoin a b).length ≤ 1073741824 := by exact Nat.le_trans (rJoin_len _ _) (by omega)
      go_wp2_with fail
      refine (c_eqTune Ag Aw cg cw _ _ w6 (og_6.at_) (ow_6.at_) hR hR).mono ?_
      rintro e w7 ⟨rfl, b7⟩
      have B7 := bstep B6 b7
      have osa_7 := osa_6.below b7
      have osb_7 := osb_6.below b7
      have ow_7 := ow_6.below b7
      have oxa_7 := oxa_6.below b7
      have oxb_7 := oxb_6.below b7
      have og_7 := og_6.below b7
      go_wp2_with fail
      refine (c_toTune Aa ka a w7 (ha.below B7) hLa).mono ?_
      rintro e w8 ⟨vya, rfl, oya_8, b8⟩
      obtain ⟨Aya, cya, rfl, _, _⟩ := oya_8.reads
      have B8 := bstep B7 b8
      have osa_8 := osa_7.below b8
      have osb_8 := osb_7.below b8
      have ow_8 := ow_7.below b8
      have oxa_8 := oxa_7.below b8
      have oxb_8 := oxb_7.below b8
      have og_8 := og_7.below b8
      have hEa := eqL_self a
      go_wp2_with fail
      refine (c_eqTune Axa Aya cxa cya _ _ w8 (oxa_8.at_) (oya_8.at_) hLa hLa).mono ?_
      rintro e w9 ⟨rfl, b9⟩
      have B9 := bstep B8 b9
      have osa_9 := osa_8.below b9
      have osb_9 := osb_8.below b9
      have ow_9 := ow_8.below b9
      have oxa_9 := oxa_8.below b9
      have oxb_9 := oxb_8.below b9
      have og_9 := og_8.below b9
      have oya_9 := oya_8.below b9
      go_wp2_with fail
      refine (c_toTune Ab kb b w9 (hb.below B9) hLb).mono ?_
      rintro e w10 ⟨vyb, rfl, oyb_10, b10⟩
      obtain ⟨Ayb, cyb, rfl, _, _⟩ := oyb_10.reads
      have B10 := bstep B9 b10
      have osa_10 := osa_9.below b10
      have osb_10 := osb_9.below b10
      have ow_10 := ow_9.below b10
      have oxa_10 := oxa_9.below b10
      have oxb_10 := oxb_9.below b10
      have og_10 := og_9.below b10
      have oya_10 := oya_9.below b10
      have hEb := eqL_self b
      go_wp2_with fail
      refine (c_eqTune Axb Ayb cxb cyb _ _ w10 (oxb_10.at_) (oyb_10.at_) hLb hLb).mono ?_
      rintro e w11 ⟨rfl, b11⟩
      have B11 := bstep B10 b11
      have osa_11 := osa_10.below b11
      have osb_11 := osb_10.below b11
      have ow_11 := ow_10.below b11
      have oxa_11 := oxa_10.below b11
      have oxb_11 := oxb_10.below b11
      have og_11 := og_10.below b11
      have oya_11 := oya_10.below b11
      have oyb_11 := oyb_10.below b11
      go_wp2_with fail
      refine (c_markTune Axa cxa (a) (1) _ w11 oxa_11 hLa (by omega)).mono ?_
      rintro e w12 ⟨rfl, oxa_12, g12⟩
      have B12 := bgrown B11 g12 (fun k hk => by have s1 := b1.size; have s2 := b2.size; have s3 := b3.size; have s4 := b4.size; have s5 := b5.size; have s6 := b6.size; have s7 := b7.size; have s8 := b8.size; have s9 := b9.size; have s10 := b10.size; have s11 := b11.size; have lo := oxa_11.low hk; omega)
      have osa_12 := osa_11.apart g12 (ne_of_high (N := w3.heap.size) (fun k hk => by have s2 := b2.size; have s3 := b3.size; have hi := osa_1.high hk; omega) (fun k hk => by have lo := oxa_11.low hk; omega))
      have osb_12 := osb_11.apart g12 (ne_of_high (N := w3.heap.size) (fun k hk => by have s3 := b3.size; have hi := osb_2.high hk; omega) (fun k hk => by have lo := oxa_11.low hk; omega))
      have ow_12 := ow_11.apart g12 (ne_of_high (N := w3.heap.size) (fun k hk => by  have hi := ow_3.high hk; omega) (fun k hk => by have lo := oxa_11.low hk; omega))
      have oxb_12 := oxb_11.apart g12 (ne_of_low (N := w4.heap.size) (fun k hk => by have lo := oxb_11.low hk; omega) (fun k hk => by  have hi := oxa_4.high hk; omega))
      have og_12 := og_11.apart g12 (ne_of_low (N := w5.heap.size) (fun k hk => by have lo := og_11.low hk; omega) (fun k hk => by have s5 := b5.size; have hi := oxa_4.high hk; omega))
      have oya_12 := oya_11.apart g12 (ne_of_low (N := w7.heap.size) (fun k hk => by have lo := oya_11.low hk; omega) (fun k hk => by have s5 := b5.size; have s6 := b6.size; have s7 := b7.size; have hi := oxa_4.high hk; omega))
      have oyb_12 := oyb_11.apart g12 (ne_of_low (N := w9.heap.size) (fun k hk => by have lo := oyb_11.low hk; omega) (fun k hk => by have s5 := b5.size; have s6 := b6.size; have s7 := b7.size; have s8 := b8.size; have s9 := b9.size; have hi := oxa_4.high hk; omega))
      go_wp2_with fail
      refine (c_markTune Axb cxb (b) (1 + 2 * a.length) _ w12 oxb_12 hLb (by omega)).mono ?_
      rintro e w13 ⟨rfl, oxb_13, g13⟩
      have B13 := bgrown B12 g13 (fun k hk => by have s1 := b1.size; have s2 := b2.size; have s3 := b3.size; have s4 := b4.size; have s5 := b5.size; have s6 := b6.size; have s7 := b7.size; have s8 := b8.size; have s9 := b9.size; have s10 := b10.size; have s11 := b11.size; have s12 := g12.size; have lo := oxb_12.low hk; omega)
      have osa_13 := osa_12.apart g13 (ne_of_high (N := w4.heap.size) (fun k hk => by have s2 := b2.size; have s3 := b3.size; have s4 := b4.size; have hi := osa_1.high hk; omega) (fun k hk => by have lo := oxb_12.low hk; omega))
      have osb_13 := osb_12.apart g13 (ne_of_high (N := w4.heap.size) (fun k hk => by have s3 := b3.size; have s4 := b4.size; have hi := osb_2.high hk; omega) (fun k hk => by have lo := oxb_12.low hk; omega))
      have ow_13 := ow_12.apart g13 (ne_of_high (N := w4.heap.size) (fun k hk => by have s4 := b4.size; have hi := ow_3.high hk; omega) (fun k hk => by have lo := oxb_12.low hk; omega))
      have oxa_13 := oxa_12.apart g13 (ne_of_high (N := w4.heap.size) (fun k hk => by  have hi := oxa_4.high hk; omega) (fun k hk => by have lo := oxb_12.low hk; omega))
      have og_13 := og_12.apart g13 (ne_of_low (N := w5.heap.size) (fun k hk => by have lo := og_12.low hk; omega) (fun k hk => by  have hi := oxb_5.high hk; omega))
      have oya_13 := oya_12.apart g13 (ne_of_low (N := w7.heap.size) (fun k hk => by have lo := oya_12.low hk; omega) (fun k hk => by have s6 := b6.size; have s7 := b7.size; have hi := oxb_5.high hk; omega))
      have oyb_13 := oyb_12.apart g13 (ne_of_low (N := w9.heap.size) (fun k hk => by have lo := oyb_12.low hk; omega) (fun k hk => by have s6 := b6.size; have s7 := b7.size; have s8 := b8.size; have s9 := b9.size; have hi := oxb_5.high hk; omega))
      have hk0 : decide (((1 + 2 * a.length + 2 * b.length : Nat) : Int) < 0) = false := decide_eq_false (by omega)
      go_wp2_with fail
      refine (c_eqTune Ag Aw cg cw _ _ w13 (og_13.at_) (ow_13.at_) hR hR).mono ?_
      rintro e w14 ⟨rfl, b14⟩
      have B14 := bstep B13 b14
      have osa_14 := osa_13.below b14
      have osb_14 := osb_13.below b14
      have ow_14 := ow_13.below b14
      have oxa_14 := oxa_13.below b14
      have oxb_14 := oxb_13.below b14
      have og_14 := og_13.below b14
      have oya_14 := oya_13.below b14
      have oyb_14 := oyb_13.below b14
      go_wp2_with fail
      refine (c_markTune Ag cg (rJoin a b) (1) _ w14 og_14 hR (by omega)).mono ?_
      rintro e w15 ⟨rfl, og_15, g15⟩
      have B15 := bgrown B14 g15 (fun k hk => by have s1 := b1.size; have s2 := b2.size; have s3 := b3.size; have s4 := b4.size; have s5 := b5.size; have s6 := b6.size; have s7 := b7.size; have s8 := b8.size; have s9 := b9.size; have s10 := b10.size; have s11 := b11.size; have s12 := g12.size; have s13 := g13.size; have s14 := b14.size; have lo := og_14.low hk; omega)
      have osa_15 := osa_14.apart g15 (ne_of_high (N := w5.heap.size) (fun k hk => by have s2 := b2.size; have s3 := b3.size; have s4 := b4.size; have s5 := b5.size; have hi := osa_1.high hk; omega) (fun k hk => by have lo := og_14.low hk; omega))
      have osb_15 := osb_14.apart g15 (ne_of_high (N := w5.heap.size) (fun k hk => by have s3 := b3.size; have s4 := b4.size; have s5 := b5.size; have hi := osb_2.high hk; omega) (fun k hk => by have lo := og_14.low hk; omega))
      have ow_15 := ow_14.apart g15 (ne_of_high (N := w5.heap.size) (fun k hk => by have s4 := b4.size; have s5 := b5.size; have hi := ow_3.high hk; omega) (fun k hk => by have lo := og_14.low hk; omega))
      have oxa_15 := oxa_14.apart g15 (ne_of_high (N := w5.heap.size) (fun k hk => by have s5 := b5.size; have hi := oxa_4.high hk; omega) (fun k hk => by have lo := og_14.low hk; omega))
      have oxb_15 := oxb_14.apart g15 (ne_of_high (N := w5.heap.size) (fun k hk => by  have hi := oxb_5.high hk; omega) (fun k hk => by have lo := og_14.low hk; omega))
      have oya_15 := oya_14.apart g15 (ne_of_low (N := w7.heap.size) (fun k hk => by have lo := oya_14.low hk; omega) (fun k hk => by have s7 := b7.size; have hi := og_6.high hk; omega))
      have oyb_15 := oyb_14.apart g15 (ne_of_low (N := w9.heap.size) (fun k hk => by have lo := oyb_14.low hk; omega) (fun k hk => by have s7 := b7.size; have s8 := b8.size; have s9 := b9.size; have hi := og_6.high hk; omega))
      have hk1 : decide (((1 + 2 * (rJoin a b).length : Nat) : Int) < 0) = false := decide_eq_false (by omega)
      go_wp2_with fail
      refine (c_heldTune Ag cg (rJoin a b).length (1) w15 (og_15.at_) hR (by omega)).mono ?_
      rintro e w16 ⟨rfl, b16⟩
      have B16 := bstep B15 b16
      have osa_16 := osa_15.below b16
      have osb_16 := osb_15.below b16
      have ow_16 := ow_15.below b16
      have oxa_16 := oxa_15.below b16
      have oxb_16 := oxb_15.below b16
      have og_16 := og_15.below b16
      have oya_16 := oya_15.below b16
      have oyb_16 := oyb_15.below b16
      go_wp2_with fail
      refine (c_toTune Aa ka a w16 (ha.below B16) hLa).mono ?_
      rintro e w17 ⟨vza, rfl, oza_17, b17⟩
      obtain ⟨Aza, cza, rfl, _, _⟩ := oza_17.reads
      have B17 := bstep B16 b17
      have osa_17 := osa_16.below b17
      have osb_17 := osb_16.below b17
      have ow_17 := ow_16.below b17
      have oxa_17 := oxa_16.below b17
      have oxb_17 := oxb_16.below b17
      have og_17 := og_16.below b17
      have oya_17 := oya_16.below b17
      have oyb_17 := oyb_16.below b17
      go_wp2_with fail
      refine (c_toTune Ab kb b w17 (hb.below B17) hLb).mono ?_
      rintro e w18 ⟨vzb, rfl, ozb_18, b18⟩
      obtain ⟨Azb, czb, rfl, _, _⟩ := ozb_18.reads
      have B18 := bstep B17 b18
      have osa_18 := osa_17.below b18
      have osb_18 := osb_17.below b18
      have ow_18 := ow_17.below b18
      have oxa_18 := oxa_17.below b18
      have oxb_18 := oxb_17.below b18
      have og_18 := og_17.below b18
      have oya_18 := oya_17.below b18
      have oyb_18 := oyb_17.below b18
      have oza_18 := oza_17.below b18
      go_wp2_with fail
      refine (c_implJoinTunes Aza Azb cza czb a b w18 (oza_18.at_) (ozb_18.at_) hwa hwb hLa hLb).mono ?_
      rintro e w19 ⟨vh, rfl, oh_19, b19⟩
      obtain ⟨Ah, ch, rfl, _, _⟩ := oh_19.reads
      have B19 := bstep B18 b19
      have osa_19 := osa_18.below b19
      have osb_19 := osb_18.below b19
      have ow_19 := ow_18.below b19
      have oxa_19 := oxa_18.below b19
      have oxb_19 := oxb_18.below b19
      have og_19 := og_18.below b19
      have oya_19 := oya_18.below b19
      have oyb_19 := oyb_18.below b19
      have oza_19 := oza_18.below b19
      have ozb_19 := ozb_18.below b19
      go_wp2_with fail
      refine (c_eqTune Ah Aw ch cw _ _ w19 (oh_19.at_) (ow_19.at_) hR hR).mono ?_
      rintro e w20 ⟨rfl, b20⟩
      have B20 := bstep B19 b20
      have osa_20 := osa_19.below b20
      have osb_20 := osb_19.below b20
      have ow_20 := ow_19.below b20
      have oxa_20 := oxa_19.below b20
      have oxb_20 := oxb_19.below b20
      have og_20 := og_19.below b20
      have oya_20 := oya_19.below b20
      have oyb_20 := oyb_19.below b20
      have oza_20 := oza_19.below b20
      have ozb_20 := ozb_19.below b20
      have oh_20 := oh_19.below b20
      go_wp2_with fail
      refine (c_heldTune Ag cg (rJoin a b).length (1) w20 (og_20.at_) hR (by omega)).mono ?_
      rintro e w21 ⟨rfl, b21⟩
      have B21 := bstep B20 b21
      have osa_21 := osa_20.below b21
      have osb_21 := osb_20.below b21
      have ow_21 := ow_20.below b21
      have oxa_21 := oxa_20.below b21
      have oxb_21 := oxb_20.below b21
      have og_21 := og_20.below b21
      have oya_21 := oya_20.below b21
      have oyb_21 := oyb_20.below b21
      have oza_21 := oza_20.below b21
      have ozb_21 := ozb_20.below b21
      have oh_21 := oh_20.below b21
      go_wp2
      go_ret
      exact ⟨rfl, B21⟩
    · have hsb : szI (1048576 - (a.length : Int)) b.length = -1 := by unfold szI; split <;> omega
      go_enter Try.func8, Try.ntmps8
      go_wp2_with fail
      refine (c_szTune Aa ka a.length (1048576) _ (by omega) (by omega) hna).mono ?_
      rintro e w' ⟨rfl, rfl⟩
      go_wp2_with fail
      refine (c_szTune Ab kb b.length (1048576 - (a.length : Int)) _ (by omega) (by omega) hnb).mono ?_
      rintro e w' ⟨rfl, rfl⟩
      go_wp2
      go_ret
      exact ⟨rfl, Below.refl _ _⟩
  · have hsa : szI (1048576) a.length = -1 := by unfold szI; split <;> omega
    go_enter Try.func8, Try.ntmps8
    go_wp2_with fail
    refine (c_szTune Aa ka a.length (1048576) _ (by omega) (by omega) hna).mono ?_
    rintro e w' ⟨rfl, rfl⟩
    go_wp2
    go_ret
    exact ⟨rfl, Below.refl _ _⟩
end Go.Proofs.Ytkooeikcmnkgmaa
namespace Go.Proofs.Ytkooeikcmnkgmaa.ofJoinTunes
open Go.ChangeShapes Go.WideShapes Go.ChangeAt Go.RowKit
theorem own : ownKnob Try.prog.godebug = none := by kernel_rfl
theorem laidOut : laidOutB Try.prog = true := by kernel_rfl
set_option maxRecDepth 100000 in
theorem lifted (os : Os) (started : os.Started) (H : Type) (enc : TypeId × Value → H) :
    ReturnsInHanded {} Try.checked os 8 .any (Rows.fnExactJoinTunesSpec.pre6 enc Try.prog Try.f8 Rows.fnExactJoinTunesRow.domain false) (Rows.fnExactJoinTunesSpec.post enc Try.prog Try.f8 false true false false) := by
  refine returnsInHanded_of_change (C := Try.checked) own started (by kernel_rfl) Try.func8
    (ChangeSpec.witness6 (enc := enc) (C := Try.checked) false ⟨#[], #[.slice none 0 0, .slice none 0 0], []⟩ 8 (by kernel_rfl) (by kernel_rfl) (by kernel_rfl) (by kernel_rfl)) ?_
  intro W base args ds gs before hval0 hW hcnd _
  have hval : ∀ (j : Nat) t v, Try.f8.params[j]? = some t → args[j]? = some v → Value.okWide Try.prog W .any base t v := hval0
  have hW' := hW
  have hlt := fun p (hp : p ∈ before) => hW.lt p hp
  obtain ⟨p, q, hA0, hV, rfl, hfz, hnd⟩ := hW
  have hA : DataW.TrodAll enc Try.prog W 0 (fun _ => true) true Try.f8.params.toList args.toList ds p := hA0
  obtain ⟨rfl, rfl⟩ := trodVars_none hV
  simp only [List.append_nil] at hlt hW'
  have hback := fun W' hb => trodAll_below (W' := W') laidOut hb (by rw [Try.params8]; decide +kernel) hlt hA
  rw [Try.params8] at hA hval
  obtain ⟨v0, vs0, d0, ds0, p0, q0, hargs, rfl, rfl, h0, r0⟩ := trodAll_cons hA
  obtain ⟨v1, vs1, d1, ds1, p1, q1, rfl, rfl, rfl, h1, r1⟩ := trodAll_cons r0
  obtain ⟨rfl, rfl, rfl⟩ := trodAll_nil r1
  obtain rfl : args = #[v0, v1] := by cases args; simp_all
  obtain ⟨Aa, ka, a, rfl, hn_a, hr_a, hl_a⟩ := open_pairs Try.underlying22 Try.underlying65 Try.underlying42 Try.underlying60 (by kernel_rfl) (by kernel_rfl) (hval 0 _ _ rfl rfl) h0
  obtain ⟨Ab, kb, b, rfl, hn_b, hr_b, hl_b⟩ := open_pairs Try.underlying22 Try.underlying65 Try.underlying42 Try.underlying60 (by kernel_rfl) (by kernel_rfl) (hval 1 _ _ rfl rfl) h1
  refine (law_JoinTunes Aa ka a Ab kb b W hr_a (wf_of_lits hl_a) (by unfold maxLen at hn_a; omega) hr_b (wf_of_lits hl_b) (by unfold maxLen at hn_b; omega)).mono fun e W' ⟨he, bel⟩ => ?_
  subst he
  exact ⟨_, rfl, _, _, _, [], _, [], hW', trodAll_mk1 (shut_bool Try.underlying4 _), hback W' bel, rfl, bel.frame _, fun h => by cases h⟩
theorem over : Rows.fnExactJoinTunesRow.holds Try.pinned (OpenSpec.ofChange Rows.fnExactJoinTunesSpec) :=
  OpenClaim.holds_of_wide 8 Try.f8 rfl rfl rfl rfl rfl rfl rfl ⟨rfl, rfl, rfl, rfl, rfl⟩ rfl rfl rfl rfl rfl (by kernel_rfl) Try.func8 (by kernel_rfl)
    (of_decide_eq_true (by kernel_rfl)) (by unfold Func.isWrapper; first | (rw [if_pos (by decide +kernel)]; kernel_rfl) | (rw [if_neg (by decide +kernel)]; exact ⟨rfl, rfl⟩))
    (fun os started H enc _ => lifted os started H enc)
end Go.Proofs.Ytkooeikcmnkgmaa.ofJoinTunes
namespace Go.Proofs.Ytkooeikcmnkgmaa
theorem fnExactJoinTunes_holds : Rows.FnExactJoinTunesSaid := ofJoinTunes.over
#print axioms fnExactJoinTunes_holds
end Go.Proofs.Ytkooeikcmnkgmaa
