/-
  LeastGap, in the reference and in the program.
-/
import Derived.Test.YtmdocjiljjbijaaWalkC
import Derived.Test.YtmdocjiljjbijaaDataD
import Derived.Test.YtmdocjiljjbijaaPureQ
import Derived.Maps.OwnOps
namespace Go.Proofs.Ytmdocjiljjbijaa
open Go.RowKit Go.Maps
set_option linter.unusedVariables false
set_option linter.unusedSimpArgs false
set_option maxRecDepth 4000

theorem keyed8 : Keyed Try.prog 38 := int_keyed Try.underlying38
theorem WF8 {a : Int} (h : 0 ≤ a ∧ a ≤ 47) : (Lit.int .i8 a).wf = true := by simp [Lit.wf, IntKind.min, IntKind.max, IntKind.signed, IntKind.bits]; omega
theorem WF16 {a : Int} (h : 0 ≤ a ∧ a ≤ 199) : (Lit.int .i16 a).wf = true := by simp [Lit.wf, IntKind.min, IntKind.max, IntKind.signed, IntKind.bits]; omega
theorem zero16 (w : World) : (zeroValue 41).run Try.prog w = .ok (.int .i16 0) w := by kernel_rfl
set_option maxHeartbeats 1000000 in
theorem c_specLeastGap (A : Option Addr) (c : Nat) (l : List (Int × Int)) (w : World) (h : At2 .i16 .i8 w A l) (hw : Wf l) (hn : l.length ≤ 1073741824) :
    Calls Try.prog 16 #[.slice A l.length c] w fun e w' => e = .returned (.tuple #[.int .i64 (rG1 l), .int .i8 (rG2 l), .int .i64 (cG l)]) ∧ Below w.heap.size w w' := by
  have hu := Try.underlying43
  rcases hok : okT l with _ | _
  · have HR := Lib.hid (show rG1 l = 0 ∧ rG2 l = 0 ∧ cG l = 1 by simp [rG1, rG2, cG, hok])
    go_enter Try.func16, Try.ntmps16
    go_wp2_with fail
    refine (c_l01Ok A c l w h hw hn).mono ?_
    rintro e w1 ⟨rfl, b1⟩
    rw [hok]
    go_wp2
    go_ret3
    exact ⟨by rw [HR.out.1, HR.out.2.1, HR.out.2.2]; rfl, b1⟩
  · have hll := okT_len hok
    go_enter Try.func16, Try.ntmps16
    go_wp2_with fail
    refine (c_l01Ok A c l w h hw hn).mono ?_
    rintro e w1 ⟨rfl, b1⟩
    rw [hok]
    go_wp2
    go_loopw [5, 6, 7] (fun g p iv w' => ∃ (i : Nat) (st : Int × Int), iv = .int .i64 (i : Int) ∧ g = .int .i64 st.1 ∧ p = .int .i8 st.2 ∧ i ≤ l.length ∧ MinOf st (GapS l i 0) ∧ Below w.heap.size w w') (fun _ _ i _ => l.length - (intOf i).toNat)
    case atStart => exact ⟨0, (-1, 0), rfl, rfl, rfl, by omega, GapS_zero l, b1⟩
    case round =>
      obtain ⟨i, st0, rfl, rfl, rfl, hi, hmin, hb⟩ := hrel
      by_cases hlt : i < l.length
      · have hdl : decide ((i : Int) < (l.length : Int)) = true := decide_eq_true (by omega)
        have HMin := Lib.hid hmin
        clear hmin
        go_wp2
        go_loopw [5, 6, 8] (fun g p jv w' => ∃ (j : Nat) (st : Int × Int), jv = .int .i64 (j : Int) ∧ g = .int .i64 st.1 ∧ p = .int .i8 st.2 ∧ j ≤ i ∧ MinOf st (GapS l i j) ∧ Below w.heap.size w w') (fun _ _ j _ => i - (intOf j).toNat)
        case atStart => exact ⟨0, st0, rfl, rfl, rfl, by omega, HMin.out, hb⟩
        case round =>
          obtain ⟨j, st, rfl, rfl, rfl, hj, hmin, hb2⟩ := hrel
          by_cases hjl : j < i
          · have hjl2 : j < l.length := by omega
            obtain ⟨b, off, hAe, hbl, hc⟩ := (h.below hb2).get (by omega)
            subst hAe
            have y1 : ∀ x : After wr, _ := fun x => (x.cell hbl).trans (hc i hlt).1
            have y2 : ∀ x : After wr, _ := fun x => (x.cell hbl).trans (hc i hlt).2
            have z1 : ∀ x : After wr, _ := fun x => (x.cell hbl).trans (hc j hjl2).1
            have z2 : ∀ x : After wr, _ := fun x => (x.cell hbl).trans (hc j hjl2).2
            obtain ⟨m1, m2, m3, m4⟩ := okT_note hok hlt
            obtain ⟨n1, n2, n3, n4⟩ := okT_note hok hjl2
            have hst := hmin.bd hok
            have hdj : decide ((j : Int) < (i : Int)) = true := decide_eq_true (by omega)
            have hji : (j : Int) < (l.length : Int) := by omega
            obtain ⟨own, hown⟩ : ∃ o, l[i].1 - l[j].1 = o := ⟨_, rfl⟩
            have hw1 : IntKind.i64.wrap (l[i].1 - l[j].1) = own := by rw [hown]; exact IntWalk.i64_in _ (by omega)
            clear hc
            rcases hp : decide (l[j].2 = l[i].2) with _ | _
            · have hpb : (l[j].2 == l[i].2) = false := by rw [← hp]; rfl
              have HM2 := Lib.hid (hmin.congr (GapS_skip hlt hjl (of_decide_eq_false hp)))
              clear hmin hown
              go_wp2
              refine region_after (by kernel_rfl) (by kernel_rfl) ?_
              repeat (go_big_quiet_step (fail))
              refine wpQuiet_nil ?_
              rintro _ ⟨x, rfl⟩
              have BX := bstep hb2 x.below
              have y1b := fun x' : After x.w => keepc (y1 x) x'.below
              have y2b := fun x' : After x.w => keepc (y2 x) x'.below
              clear y1 y2
              have z1b := fun x' : After x.w => keepc (z1 x) x'.below
              have z2b := fun x' : After x.w => keepc (z2 x) x'.below
              clear z1 z2
              go_wp2
              refine region_after (by kernel_rfl) (by kernel_rfl) ?_
              repeat (go_big_quiet_step (fail))
              refine wpQuiet_nil ?_
              rintro _ ⟨x, rfl⟩
              go_wp2
              go_roundw
              case rel => exact ⟨j + 1, st, by go_num, rfl, rfl, by omega, HM2.out, bstep BX x.below⟩
              case measure => simp [intOf]; omega
            · have hpb : (l[j].2 == l[i].2) = true := by rw [← hp]; rfl
              have hadd := hmin.add (c := (l[i].1 - l[j].1, l[i].2)) (gap_pos hok hlt hjl (of_decide_eq_true hp)) (GapS_step hlt hjl (of_decide_eq_true hp))
              rw [hown] at hadd
              clear hmin hown
              rcases q1 : decide (st.1 < 0) with _ | _
              · rcases q2 : decide (own < st.1) with _ | _
                · rcases q3 : decide (own = st.1) with _ | _
                  · have q3b : ((own) == st.1) = false := by rw [← q3]; rfl
                    have hbet : bet st (own, l[i].2) = false := by unfold bet; simp only [q1, q2, q3, Bool.false_or, Bool.false_and]
                    have HM2 := Lib.hid (show MinOf (updG st (own, l[i].2)) (GapS l i (j + 1)) from hadd)
                    rw [updG_no hbet] at HM2
                    clear hadd hbet
                    go_wp2
                    refine region_after (by kernel_rfl) (by kernel_rfl) ?_
                    repeat (go_big_quiet_step (fail))
                    refine wpQuiet_nil ?_
                    rintro _ ⟨x, rfl⟩
                    have BX := bstep hb2 x.below
                    have y1b := fun x' : After x.w => keepc (y1 x) x'.below
                    have y2b := fun x' : After x.w => keepc (y2 x) x'.below
                    clear y1 y2
                    have z1b := fun x' : After x.w => keepc (z1 x) x'.below
                    have z2b := fun x' : After x.w => keepc (z2 x) x'.below
                    clear z1 z2
                    go_wp2
                    refine region_after (by kernel_rfl) (by kernel_rfl) ?_
                    repeat (go_big_quiet_step (fail))
                    refine wpQuiet_nil ?_
                    rintro _ ⟨x, rfl⟩
                    have y5 := y2b x
                    clear y1b y2b z1b z2b
                    go_wp2
                    go_roundw
                    case rel => exact ⟨j + 1, st, by go_num, rfl, rfl, by omega, HM2.out, bstep BX x.below⟩
                    case measure => simp [intOf]; omega
                  · have q3b : ((own) == st.1) = true := by rw [← q3]; rfl
                    rcases q4 : decide (l[i].2 < st.2) with _ | _
                    · have hbet : bet st (own, l[i].2) = false := by unfold bet; simp only [q1, q2, q3, q4, Bool.false_or, Bool.and_false]
                      have HM2 := Lib.hid (show MinOf (updG st (own, l[i].2)) (GapS l i (j + 1)) from hadd)
                      rw [updG_no hbet] at HM2
                      clear hadd hbet
                      go_wp2
                      refine region_after (by kernel_rfl) (by kernel_rfl) ?_
                      repeat (go_big_quiet_step (fail))
                      refine wpQuiet_nil ?_
                      rintro _ ⟨x, rfl⟩
                      have BX := bstep hb2 x.below
                      have y1b := fun x' : After x.w => keepc (y1 x) x'.below
                      have y2b := fun x' : After x.w => keepc (y2 x) x'.below
                      clear y1 y2
                      have z1b := fun x' : After x.w => keepc (z1 x) x'.below
                      have z2b := fun x' : After x.w => keepc (z2 x) x'.below
                      clear z1 z2
                      go_wp2
                      refine region_after (by kernel_rfl) (by kernel_rfl) ?_
                      repeat (go_big_quiet_step (fail))
                      refine wpQuiet_nil ?_
                      rintro _ ⟨x, rfl⟩
                      have y5 := y2b x
                      clear y1b y2b z1b z2b
                      go_wp2
                      go_roundw
                      case rel => exact ⟨j + 1, st, by go_num, rfl, rfl, by omega, HM2.out, bstep BX x.below⟩
                      case measure => simp [intOf]; omega
                    · have hbet : bet st (own, l[i].2) = true := by unfold bet; simp only [q1, q2, q3, q4, Bool.false_or, Bool.and_true]
                      have HM2 := Lib.hid (show MinOf (updG st (own, l[i].2)) (GapS l i (j + 1)) from hadd)
                      rw [updG_yes hbet] at HM2
                      clear hadd hbet
                      go_wp2
                      refine region_after (by kernel_rfl) (by kernel_rfl) ?_
                      repeat (go_big_quiet_step (fail))
                      refine wpQuiet_nil ?_
                      rintro _ ⟨x, rfl⟩
                      have BX := bstep hb2 x.below
                      have y1b := fun x' : After x.w => keepc (y1 x) x'.below
                      have y2b := fun x' : After x.w => keepc (y2 x) x'.below
                      clear y1 y2
                      have z1b := fun x' : After x.w => keepc (z1 x) x'.below
                      have z2b := fun x' : After x.w => keepc (z2 x) x'.below
                      clear z1 z2
                      go_wp2
                      refine region_after (by kernel_rfl) (by kernel_rfl) ?_
                      repeat (go_big_quiet_step (fail))
                      refine wpQuiet_nil ?_
                      rintro _ ⟨x, rfl⟩
                      have y5 := y2b x
                      clear y1b y2b z1b z2b
                      go_wp2
                      go_roundw
                      case rel => exact ⟨j + 1, (own, l[i].2), by go_num, rfl, rfl, by omega, HM2.out, bstep BX x.below⟩
                      case measure => simp [intOf]; omega
                · have hbet : bet st (own, l[i].2) = true := by unfold bet; simp only [q1, q2, Bool.false_or, Bool.true_or]
                  have HM2 := Lib.hid (show MinOf (updG st (own, l[i].2)) (GapS l i (j + 1)) from hadd)
                  rw [updG_yes hbet] at HM2
                  clear hadd hbet
                  go_wp2
                  refine region_after (by kernel_rfl) (by kernel_rfl) ?_
                  repeat (go_big_quiet_step (fail))
                  refine wpQuiet_nil ?_
                  rintro _ ⟨x, rfl⟩
                  have BX := bstep hb2 x.below
                  have y1b := fun x' : After x.w => keepc (y1 x) x'.below
                  have y2b := fun x' : After x.w => keepc (y2 x) x'.below
                  clear y1 y2
                  have z1b := fun x' : After x.w => keepc (z1 x) x'.below
                  have z2b := fun x' : After x.w => keepc (z2 x) x'.below
                  clear z1 z2
                  go_wp2
                  refine region_after (by kernel_rfl) (by kernel_rfl) ?_
                  repeat (go_big_quiet_step (fail))
                  refine wpQuiet_nil ?_
                  rintro _ ⟨x, rfl⟩
                  have y5 := y2b x
                  clear y1b y2b z1b z2b
                  go_wp2
                  go_roundw
                  case rel => exact ⟨j + 1, (own, l[i].2), by go_num, rfl, rfl, by omega, HM2.out, bstep BX x.below⟩
                  case measure => simp [intOf]; omega
              · have hbet : bet st (own, l[i].2) = true := by unfold bet; simp only [q1, Bool.true_or]
                have HM2 := Lib.hid (show MinOf (updG st (own, l[i].2)) (GapS l i (j + 1)) from hadd)
                rw [updG_yes hbet] at HM2
                clear hadd hbet
                go_wp2
                refine region_after (by kernel_rfl) (by kernel_rfl) ?_
                repeat (go_big_quiet_step (fail))
                refine wpQuiet_nil ?_
                rintro _ ⟨x, rfl⟩
                have BX := bstep hb2 x.below
                have y1b := fun x' : After x.w => keepc (y1 x) x'.below
                have y2b := fun x' : After x.w => keepc (y2 x) x'.below
                clear y1 y2
                have z1b := fun x' : After x.w => keepc (z1 x) x'.below
                have z2b := fun x' : After x.w => keepc (z2 x) x'.below
                clear z1 z2
                go_wp2
                refine region_after (by kernel_rfl) (by kernel_rfl) ?_
                repeat (go_big_quiet_step (fail))
                refine wpQuiet_nil ?_
                rintro _ ⟨x, rfl⟩
                have y5 := y2b x
                clear y1b y2b z1b z2b
                go_wp2
                go_roundw
                case rel => exact ⟨j + 1, (own, l[i].2), by go_num, rfl, rfl, by omega, HM2.out, bstep BX x.below⟩
                case measure => simp [intOf]; omega
          · obtain rfl : j = i := by omega
            have HM2 := Lib.hid (hmin.congr (GapS_next l j))
            clear hmin
            have hdj : decide ((j : Int) < (j : Int)) = false := decide_eq_false (by omega)
            go_wp2
            go_roundw
            case rel => exact ⟨j + 1, st, by go_num, rfl, rfl, by omega, HM2.out, hb2⟩
            case measure => simp [intOf]; omega
      · obtain rfl : i = l.length := by omega
        have hdl : decide ((l.length : Int) < (l.length : Int)) = false := decide_eq_false (by omega)
        obtain ⟨st, hst0⟩ : ∃ st, st0 = st := ⟨_, rfl⟩
        subst hst0
        have HG := gapL_eq hmin
        rcases hneg : decide (st0.1 < 0) with _ | _
        · have hn2 := of_decide_eq_false hneg
          have HR := Lib.hid (show rG1 l = st0.1 ∧ rG2 l = st0.2 ∧ cG l = 0 by simp [rG1, rG2, cG, hok, HG, hn2])
          clear HG hn2 hmin
          go_wp2
          go_ret3
          exact ⟨by rw [HR.out.1, HR.out.2.1, HR.out.2.2]; rfl, hb⟩
        · have hn2 := of_decide_eq_true hneg
          have HR := Lib.hid (show rG1 l = 0 ∧ rG2 l = 0 ∧ cG l = 6 by simp [rG1, rG2, cG, hok, HG, hn2])
          clear HG hn2 hmin
          go_wp2
          go_ret3
          exact ⟨by rw [HR.out.1, HR.out.2.1, HR.out.2.2]; rfl, hb⟩
set_option maxHeartbeats 1000000 in
theorem c_implLeastGap (A : Option Addr) (c : Nat) (l : List (Int × Int)) (w : World) (h : At2 .i16 .i8 w A l) (hw : Wf l) (hn : l.length ≤ 1073741824) :
    Calls Try.prog 15 #[.slice A l.length c] w fun e w' => e = .returned (.tuple #[.int .i64 (rG1 l), .int .i8 (rG2 l), .int .i64 (cG l)]) ∧ Below w.heap.size w w' := by
  have hu := Try.underlying43
  rcases hok : okT l with _ | _
  · have HR := Lib.hid (show rG1 l = 0 ∧ rG2 l = 0 ∧ cG l = 1 by simp [rG1, rG2, cG, hok])
    go_enter Try.func15, Try.ntmps15
    go_wp2_with fail
    refine (c_tuneCode_one A c l w _ h hw hn).mono ?_
    rintro e w1 ⟨rfl, b1⟩
    rw [hok]
    go_wp2
    go_ret3
    exact ⟨by rw [HR.out.1, HR.out.2.1, HR.out.2.2]; rfl, b1⟩
  · have hll := okT_len hok
    have hmm := @run_makeMap Try.prog
    go_enter Try.func15, Try.ntmps15
    go_wp2_with fail
    refine (c_tuneCode_one A c l w _ h hw hn).mono ?_
    rintro e w1 ⟨rfl, b1⟩
    rw [hok]
    have HM0 := Lib.hid (World.ownsMap_made (H := Unit) w1 Try.prog 38 (plainElem Try.prog 41))
    obtain ⟨mb, hmb⟩ : ∃ b, w1.heap.size = b := ⟨_, rfl⟩
    have HMB := Lib.hid (show w.heap.size ≤ mb by rw [← hmb]; exact b1.size)
    go_wp2
    rw [hmb] at HM0
    clear hmm hmb
    go_loopw [7, 8, 23] (fun g p iv w' => ∃ (k : Nat) (st : Int × Int), iv = .int .i64 (k : Int) ∧ g = .int .i64 st.1 ∧ p = .int .i8 st.2 ∧ k ≤ l.length ∧ MinOf st (GapS l k 0) ∧ w'.ownsMap Try.prog 38 (plainElem Try.prog 41) mb k (atD l k) ∧ Below w.heap.size w w') (fun _ _ i _ => l.length - (intOf i).toNat)
    case atStart => exact ⟨0, (-1, 0), rfl, rfl, rfl, by omega, GapS_zero l, HM0.out, balloc b1 _⟩
    case round =>
      obtain ⟨k, st, rfl, rfl, rfl, hk, hmin, hown, hb⟩ := hrel
      have HO := Lib.hid hown
      clear hown
      by_cases hlt : k < l.length
      · have hdl : decide ((k : Int) < (l.length : Int)) = true := decide_eq_true (by omega)
        obtain ⟨b, off, hAe, hbl, hc⟩ := (h.below hb).get (by omega)
        subst hAe
        have u1 := (hc k hlt).1
        have u2 := (hc k hlt).2
        obtain ⟨m1, m2, m3, m4⟩ := okT_note hok hlt
        have hst := hmin.bd hok
        have HWF := Lib.hid (show (Lit.int .i8 l[k].2).wf = true from WF8 (by omega))
        have HWF2 := Lib.hid (show (Lit.int .i16 l[k].1).wf = true from WF16 (by omega))
        have y1 : ∀ x : After (wr.alloc (.cells #[.int .i16 l[k].1, .int .i8 l[k].2] 43)), x.w.cell? ⟨wr.heap.size, 0, none⟩ = some (.int .i16 l[k].1) := fun x => box1 x rfl
        have y2 : ∀ x : After (wr.alloc (.cells #[.int .i16 l[k].1, .int .i8 l[k].2] 43)), x.w.cell? ⟨wr.heap.size, 1, none⟩ = some (.int .i8 l[k].2) := fun x => box1 x rfl
        clear hc
        rcases atD_spec l l[k].2 k (by omega) with ⟨hh, hno⟩ | ⟨m, hm, hmk, hmp, hlast, hh, hatm⟩
        · have HH := Lib.hid hh
          have HM2 := Lib.hid (gap_none hlt hno hmin)
          clear hh hno hmin
          go_wp2_with (first | (at_lookup; refine wpList_lookup_own_ok_int _ rfl _ _ 68 rfl 38 41 .i16 keyed8 Try.underlying68 Try.underlying41 (zero16 _) mb k _ rfl (HO.out.alloc _) _ (pKey l[k].2) rfl (keyOf_int_mk Try.underlying38 HWF.out) ?_; intro c1 hat hwc; rw [HH.out]; have HAT := Lib.hid hat; clear hat) | (at_mapUpdate; refine wpList_mapUpdate_own _ rfl _ _ _ 68 rfl 38 41 keyed8 Try.underlying68 _ mb k _ rfl (HO.out.alloc _) (by unfold maxLen; omega) _ _ (pKey l[k].2) rfl rfl (keyOf_int_mk Try.underlying38 HWF.out) (.lit (.int .i16 l[k].1)) [] (plainElem_int Try.underlying41 HWF2.out) ?_; intro w5 hown5 hg5))
          have B5 := bgrown (balloc hb _) hg5 (fun j hj => by cases hj; exact HMB.out)
          go_roundw
          case rel => exact ⟨k + 1, st, by go_num, rfl, rfl, by omega, HM2.out, by rw [atD_step hlt]; exact hown5, B5⟩
          case measure => simp [intOf]; omega
        · have HH := Lib.hid hh
          obtain ⟨lm, hlm⟩ : ∃ x, l[m].1 = x := ⟨_, rfl⟩
          obtain ⟨n1, n2, n3, n4⟩ := okT_note hok hm
          rw [hlm] at n1 n2
          have HC1 := Lib.hid (fun c1 (he : (atD l k).atKey (pKey l[k].2) (.lit (.int .i16 0)) = .lit (.int .i16 c1)) => show c1 = lm by rw [hatm] at he; simp at he; rw [← hlm]; exact he.symm)
          have hadd := gap_last hok hlt hmk hmp hlast hmin
          rw [hlm] at hadd
          obtain ⟨own, hown⟩ : ∃ o, l[k].1 - lm = o := ⟨_, rfl⟩
          have hw1 : IntKind.i16.wrap (l[k].1 - lm) = own := by rw [hown]; exact IntWalk.i16_in _ (by omega)
          have hpos := gap_pos hok hlt hmk hmp
          rw [hlm, hown] at hpos
          rw [hown] at hadd
          have ho2 : own ≤ 199 := by omega
          have hw2 : IntKind.i64.wrap own = own := IntWalk.i64_in _ (by omega)
          clear hh hlast hatm hmin hlm hown
          rcases q1 : decide (st.1 < 0) with _ | _
          · rcases q2 : decide (own < st.1) with _ | _
            · rcases q3 : decide (own = st.1) with _ | _
              · have q3b : ((own) == st.1) = false := by rw [← q3]; rfl
                have hbet : bet st (own, l[k].2) = false := by unfold bet; simp only [q1, q2, q3, Bool.false_or, Bool.false_and]
                rw [updG_no hbet] at hadd
                have HM2 := Lib.hid hadd
                clear hadd hbet
                go_wp2_with (first | (at_lookup; refine wpList_lookup_own_ok_int _ rfl _ _ 68 rfl 38 41 .i16 keyed8 Try.underlying68 Try.underlying41 (zero16 _) mb k _ rfl (HO.out.alloc _) _ (pKey l[k].2) rfl (keyOf_int_mk Try.underlying38 HWF.out) ?_; intro c1 hat hwc; rw [HH.out]; have HAT := Lib.hid hat; clear hat; obtain rfl : c1 = lm := HC1.out c1 HAT.out) | (at_mapUpdate; refine wpList_mapUpdate_own _ rfl _ _ _ 68 rfl 38 41 keyed8 Try.underlying68 _ mb k _ rfl (HO.out.alloc _) (by unfold maxLen; omega) _ _ (pKey l[k].2) rfl rfl (keyOf_int_mk Try.underlying38 HWF.out) (.lit (.int .i16 l[k].1)) [] (plainElem_int Try.underlying41 HWF2.out) ?_; intro w5 hown5 hg5))
                have B5 := bgrown (balloc hb _) hg5 (fun j hj => by cases hj; exact HMB.out)
                go_roundw
                case rel => exact ⟨k + 1, st, by go_num, rfl, rfl, by omega, HM2.out, by rw [atD_step hlt]; exact hown5, B5⟩
                case measure => simp [intOf]; omega
              · have q3b : ((own) == st.1) = true := by rw [← q3]; rfl
                rcases q4 : decide (l[k].2 < st.2) with _ | _
                · have hbet : bet st (own, l[k].2) = false := by unfold bet; simp only [q1, q2, q3, q4, Bool.false_or, Bool.and_false]
                  rw [updG_no hbet] at hadd
                  have HM2 := Lib.hid hadd
                  clear hadd hbet
                  go_wp2_with (first | (at_lookup; refine wpList_lookup_own_ok_int _ rfl _ _ 68 rfl 38 41 .i16 keyed8 Try.underlying68 Try.underlying41 (zero16 _) mb k _ rfl (HO.out.alloc _) _ (pKey l[k].2) rfl (keyOf_int_mk Try.underlying38 HWF.out) ?_; intro c1 hat hwc; rw [HH.out]; have HAT := Lib.hid hat; clear hat; obtain rfl : c1 = lm := HC1.out c1 HAT.out) | (at_mapUpdate; refine wpList_mapUpdate_own _ rfl _ _ _ 68 rfl 38 41 keyed8 Try.underlying68 _ mb k _ rfl (HO.out.alloc _) (by unfold maxLen; omega) _ _ (pKey l[k].2) rfl rfl (keyOf_int_mk Try.underlying38 HWF.out) (.lit (.int .i16 l[k].1)) [] (plainElem_int Try.underlying41 HWF2.out) ?_; intro w5 hown5 hg5))
                  have B5 := bgrown (balloc hb _) hg5 (fun j hj => by cases hj; exact HMB.out)
                  go_roundw
                  case rel => exact ⟨k + 1, st, by go_num, rfl, rfl, by omega, HM2.out, by rw [atD_step hlt]; exact hown5, B5⟩
                  case measure => simp [intOf]; omega
                · have hbet : bet st (own, l[k].2) = true := by unfold bet; simp only [q1, q2, q3, q4, Bool.false_or, Bool.and_true]
                  rw [updG_yes hbet] at hadd
                  have HM2 := Lib.hid hadd
                  clear hadd hbet
                  go_wp2_with (at_lookup; refine wpList_lookup_own_ok_int _ rfl _ _ 68 rfl 38 41 .i16 keyed8 Try.underlying68 Try.underlying41 (zero16 _) mb k _ rfl (HO.out.alloc _) _ (pKey l[k].2) rfl (keyOf_int_mk Try.underlying38 HWF.out) ?_; intro c1 hat hwc; rw [HH.out]; have HAT := Lib.hid hat; clear hat; obtain rfl : c1 = lm := HC1.out c1 HAT.out)
                  refine region_after (by kernel_rfl) (by kernel_rfl) ?_
                  repeat (go_big_quiet_step (fail))
                  refine wpQuiet_nil ?_
                  rintro _ ⟨x, rfl⟩
                  go_wp2_with (at_mapUpdate; refine wpList_mapUpdate_own _ rfl _ _ _ 68 rfl 38 41 keyed8 Try.underlying68 _ mb k _ rfl ((HO.out.alloc _).kept (gbelow x.below none) (by simp)) (by unfold maxLen; omega) _ _ (pKey l[k].2) rfl rfl (keyOf_int_mk Try.underlying38 HWF.out) (.lit (.int .i16 l[k].1)) [] (plainElem_int Try.underlying41 HWF2.out) ?_; intro w5 hown5 hg5)
                  have B5 := bgrown (bstep (balloc hb _) x.below) hg5 (fun j hj => by cases hj; exact HMB.out)
                  go_roundw
                  case rel => exact ⟨k + 1, (own, l[k].2), by go_num, rfl, rfl, by omega, HM2.out, by rw [atD_step hlt]; exact hown5, B5⟩
                  case measure => simp [intOf]; omega
            · have hbet : bet st (own, l[k].2) = true := by unfold bet; simp only [q1, q2, Bool.false_or, Bool.true_or]
              rw [updG_yes hbet] at hadd
              have HM2 := Lib.hid hadd
              clear hadd hbet
              go_wp2_with (at_lookup; refine wpList_lookup_own_ok_int _ rfl _ _ 68 rfl 38 41 .i16 keyed8 Try.underlying68 Try.underlying41 (zero16 _) mb k _ rfl (HO.out.alloc _) _ (pKey l[k].2) rfl (keyOf_int_mk Try.underlying38 HWF.out) ?_; intro c1 hat hwc; rw [HH.out]; have HAT := Lib.hid hat; clear hat; obtain rfl : c1 = lm := HC1.out c1 HAT.out)
              refine region_after (by kernel_rfl) (by kernel_rfl) ?_
              repeat (go_big_quiet_step (fail))
              refine wpQuiet_nil ?_
              rintro _ ⟨x, rfl⟩
              go_wp2_with (at_mapUpdate; refine wpList_mapUpdate_own _ rfl _ _ _ 68 rfl 38 41 keyed8 Try.underlying68 _ mb k _ rfl ((HO.out.alloc _).kept (gbelow x.below none) (by simp)) (by unfold maxLen; omega) _ _ (pKey l[k].2) rfl rfl (keyOf_int_mk Try.underlying38 HWF.out) (.lit (.int .i16 l[k].1)) [] (plainElem_int Try.underlying41 HWF2.out) ?_; intro w5 hown5 hg5)
              have B5 := bgrown (bstep (balloc hb _) x.below) hg5 (fun j hj => by cases hj; exact HMB.out)
              go_roundw
              case rel => exact ⟨k + 1, (own, l[k].2), by go_num, rfl, rfl, by omega, HM2.out, by rw [atD_step hlt]; exact hown5, B5⟩
              case measure => simp [intOf]; omega
          · have hbet : bet st (own, l[k].2) = true := by unfold bet; simp only [q1, Bool.true_or]
            rw [updG_yes hbet] at hadd
            have HM2 := Lib.hid hadd
            clear hadd hbet
            go_wp2_with (at_lookup; refine wpList_lookup_own_ok_int _ rfl _ _ 68 rfl 38 41 .i16 keyed8 Try.underlying68 Try.underlying41 (zero16 _) mb k _ rfl (HO.out.alloc _) _ (pKey l[k].2) rfl (keyOf_int_mk Try.underlying38 HWF.out) ?_; intro c1 hat hwc; rw [HH.out]; have HAT := Lib.hid hat; clear hat; obtain rfl : c1 = lm := HC1.out c1 HAT.out)
            refine region_after (by kernel_rfl) (by kernel_rfl) ?_
            repeat (go_big_quiet_step (fail))
            refine wpQuiet_nil ?_
            rintro _ ⟨x, rfl⟩
            go_wp2_with (at_mapUpdate; refine wpList_mapUpdate_own _ rfl _ _ _ 68 rfl 38 41 keyed8 Try.underlying68 _ mb k _ rfl ((HO.out.alloc _).kept (gbelow x.below none) (by simp)) (by unfold maxLen; omega) _ _ (pKey l[k].2) rfl rfl (keyOf_int_mk Try.underlying38 HWF.out) (.lit (.int .i16 l[k].1)) [] (plainElem_int Try.underlying41 HWF2.out) ?_; intro w5 hown5 hg5)
            have B5 := bgrown (bstep (balloc hb _) x.below) hg5 (fun j hj => by cases hj; exact HMB.out)
            go_roundw
            case rel => exact ⟨k + 1, (own, l[k].2), by go_num, rfl, rfl, by omega, HM2.out, by rw [atD_step hlt]; exact hown5, B5⟩
            case measure => simp [intOf]; omega
      · obtain rfl : k = l.length := by omega
        have hdl : decide ((l.length : Int) < (l.length : Int)) = false := decide_eq_false (by omega)
        have HG := gapL_eq hmin
        rcases hneg : decide (st.1 < 0) with _ | _
        · have hn2 := of_decide_eq_false hneg
          have HR := Lib.hid (show rG1 l = st.1 ∧ rG2 l = st.2 ∧ cG l = 0 by simp [rG1, rG2, cG, hok, HG, hn2])
          clear HG hn2 hmin
          go_wp2
          go_ret3
          exact ⟨by rw [HR.out.1, HR.out.2.1, HR.out.2.2]; rfl, hb⟩
        · have hn2 := of_decide_eq_true hneg
          have HR := Lib.hid (show rG1 l = 0 ∧ rG2 l = 0 ∧ cG l = 6 by simp [rG1, rG2, cG, hok, HG, hn2])
          clear HG hn2 hmin
          go_wp2
          go_ret3
          exact ⟨by rw [HR.out.1, HR.out.2.1, HR.out.2.2]; rfl, hb⟩

end Go.Proofs.Ytmdocjiljjbijaa
