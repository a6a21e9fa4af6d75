/-
  The walks of LoudestStep, in the reference and in the program.
-/
import Derived.Test.YtmdocjiljjbijaaWalkC
import Derived.Test.YtmdocjiljjbijaaPureC
import Derived.Test.YtmdocjiljjbijaaDataG
namespace Go.Proofs.Ytmdocjiljjbijaa
open Go.RowKit
set_option linter.unusedVariables false
set_option linter.unusedSimpArgs false
set_option maxRecDepth 4000

theorem zero_Cnt : (Try.prog.info? 72).map (·.zero) = some (some (.agg (cntV zC))) := by
  unfold cntV; rw [zC_eq]; kernel_rfl
theorem size_Cnt : (Try.prog.info? 72).map (·.size) = some 200 := by kernel_rfl
theorem size_i64 : (Try.prog.info? 2).map (·.size) = some 1 := by kernel_rfl

set_option maxHeartbeats 1000000 in
theorem c_specLoudestStep (A : Option Addr) (c : Nat) (l : List (Int × Int)) (w : World) (h : At2 .i16 .i8 w A l) (hw : Wf l) (hn : l.length ≤ 1073741824) :
    Calls Try.prog 22 #[.slice A l.length c] w fun e w' => e = .returned (.tuple #[.int .i64 (rLo1 l), .int .i64 (rLo2 l), .int .i64 (cLo l)]) ∧ Below w.heap.size w w' := by
  rcases hok : okT l with _ | _
  · have HR := Lib.hid (show rLo1 l = 0 ∧ rLo2 l = 0 ∧ cLo l = 1 by simp [rLo1, rLo2, cLo, hok])
    go_enter Try.func22, Try.ntmps22
    go_wp2_with fail
    refine (c_l01Ok A c l w h hw hn).mono ?_
    rintro e w1 ⟨rfl, b1⟩
    rw [hok]
    go_wp2
    go_ret3
    exact ⟨by rw [HR.out.1, HR.out.2.1, HR.out.2.2]; rfl, b1⟩
  · by_cases hpos : 0 < l.length
    · have HR := Lib.hid (show rLo1 l = (loud l : Int) ∧ rLo2 l = (cntA l (loud l) : Int) ∧ cLo l = 0 by simp [rLo1, rLo2, cLo, hok, hpos])
      have hn0 : ((l.length : Int) == 0) = false := by simp; intro e; simp [e] at hpos
      have hl120 := okT_len hok
      have hu40 := Try.underlying72
      go_enter Try.func22, Try.ntmps22
      go_wp2_with fail
      refine (c_l01Ok A c l w h hw hn).mono ?_
      rintro e w1 ⟨rfl, b1⟩
      rw [hok]
      have V0 := Lib.hid (Var.new w1 (cntV zC) 72)
      clear hu40
      go_wp2_with (first | (refine wpList_bzC (by rfl) rfl Try.underlying72 zero_Cnt size_i64 ?_) | (refine wpList_allocC rfl 72 rfl zero_Cnt ?_) | (refine wpList_storeC rfl rfl V0.out rfl rfl size_Cnt zC_len zC_len ?_))
      have hu40 := Try.underlying72
      have V1 := Lib.hid (V0.out.rowG (cntV zC))
      have B1 : Below w1.heap.size w1 ((w1.alloc (.cells (cntV zC) 72)).setRow w1.heap.size (cntV zC)) := browG (balloc (Below.refl _ _) _) (Nat.le_refl _) _
      go_loopw [7] (fun i w' => ∃ k : Nat, i = .int .i64 k ∧ k ≤ l.length ∧ Var w' w1.heap.size (cntV (cntL l k)) 72 ∧ Below w1.heap.size w1 w') (fun i _ => l.length - (intOf i).toNat)
      case atStart => exact ⟨0, rfl, by omega, by rw [cntL_zero, ← zC_eq]; exact V1.out, B1⟩
      case round =>
        obtain ⟨k, rfl, hk, hv, hb⟩ := hrel
        by_cases hlt : k < l.length
        · obtain ⟨b, off, rfl, hbl, hc⟩ := ((h.below b1).below hb).get (by omega)
          obtain ⟨n1, n2, n3, n4⟩ := okT_note hok hlt
          obtain ⟨a, ha⟩ : ∃ a : Nat, l[k].1 = (a : Int) := ⟨l[k].1.toNat, by omega⟩
          have y1 := (hc k hlt).1
          clear hc
          rw [ha] at y1
          have ha2 : a < (cntL l k).length := by rw [cntL_len]; omega
          have x1 := hv.cell (cntV_get ha2)
          have x2 := hv.frozen a
          rw [cntL_get] at x1
          have hcl : cntA (l.take k) (a : Nat) ≤ 120 := Nat.le_trans (cntA_le _ _) (by simp; omega)
          have hw1 : IntKind.i64.wrap (((cntA (l.take k) (a : Nat) : Nat) : Int) + 1) = ((cntA (l.take k) (a : Nat) : Nat) : Int) + 1 := IntWalk.i64_in _ (by omega)
          have i1 : (0 : Int) ≤ (a : Int) := by omega
          have i2 : (a : Int) < 200 := by omega
          have HST := Lib.hid (cntL_step hlt ha (by omega))
          have HV := Lib.hid hv
          clear hv ha ha2
          go_wp2
          go_roundw
          case rel =>
            refine ⟨k + 1, by go_num, by omega, ?_, bset hb (by simp) _⟩
            have := HV.out.set a (.int .i64 (((cntA (l.take k) (a : Nat) : Nat) : Int) + 1))
            rw [cntV_set, HST.out] at this
            exact this
          case measure => simp [intOf]; omega
        · obtain rfl : k = l.length := by omega
          have HV := Lib.hid hv
          clear hv
          go_wp2
          have hC : ∀ j : Nat, j < 200 → (cntV (cntL l l.length))[j]? = some (.int .i64 ((cntA l (j : Nat) : Nat) : Int)) := fun j hj => by
            rw [cntV_get (by rw [cntL_len]; exact hj), cntL_get, List.take_length]
          have HC := Lib.hid hC
          clear hC
          have B2 := bstep b1 hb
          go_loopw [6, 8] (fun q i w' => ∃ k : Nat, i = .int .i64 (k : Int) ∧ q = .int .i64 ((argF (fun k => cntA l k) (k - 1) : Nat) : Int) ∧ 1 ≤ k ∧ k ≤ 200 ∧ Below wr.heap.size wr w') (fun _ i _ => 200 - (intOf i).toNat)
          case atStart => exact ⟨1, rfl, rfl, by omega, by omega, Below.refl _ _⟩
          case round =>
            obtain ⟨k, rfl, rfl, hk1, hk2, hb2⟩ := hrel
            have hal := argF_le (fun k => cntA l k) (k - 1)
            obtain ⟨q, hq⟩ : ∃ q, argF (fun k => cntA l k) (k - 1) = q := ⟨_, rfl⟩
            rw [hq] at hal ⊢
            have x2 : ∀ x : After wr, _ := fun x => ((HV.out.below hb2).below x.below).cell (HC.out q (by omega))
            have i3 : (0 : Int) ≤ (q : Int) := by omega
            have i4 : (q : Int) < 200 := by omega
            by_cases hlt2 : k < 200
            · have x1 : ∀ x : After wr, _ := fun x => ((HV.out.below hb2).below x.below).cell (HC.out k hlt2)
              have i1 : (0 : Int) ≤ (k : Int) := by omega
              have i2 : (k : Int) < 200 := by omega
              have hstep : argF (fun k => cntA l k) k = if cntA l (q : Nat) < cntA l (k : Nat) then k else q := by
                obtain ⟨k', rfl⟩ : ∃ k', k = k' + 1 := ⟨k - 1, by omega⟩
                rw [Nat.add_sub_cancel] at hq
                simp only [argF, hq]
              have HQ := Lib.hid hq
              clear hq
              rcases hd : decide (cntA l (q : Nat) < cntA l (k : Nat)) with _ | _
              · have hno : ¬ cntA l (q : Nat) < cntA l (k : Nat) := by have := of_decide_eq_false hd; omega
                rw [if_neg hno] at hstep
                have HS := Lib.hid hstep
                clear hstep
                go_wp2
                refine region_after (by kernel_rfl) (by kernel_rfl) ?_
                repeat (go_big_quiet_step (fail))
                refine wpQuiet_nil ?_
                rintro _ ⟨x, rfl⟩
                go_wp2
                go_roundw
                case rel => exact ⟨k + 1, by go_num, by rw [Nat.add_sub_cancel, HS.out], by omega, by omega, bstep hb2 x.below⟩
                case measure => simp [intOf]; omega
              · have hyes : cntA l (q : Nat) < cntA l (k : Nat) := by have := of_decide_eq_true hd; omega
                rw [if_pos hyes] at hstep
                have HS := Lib.hid hstep
                clear hstep
                go_wp2
                refine region_after (by kernel_rfl) (by kernel_rfl) ?_
                repeat (go_big_quiet_step (fail))
                refine wpQuiet_nil ?_
                rintro _ ⟨x, rfl⟩
                go_wp2
                go_roundw
                case rel => exact ⟨k + 1, by go_num, by rw [Nat.add_sub_cancel, HS.out], by omega, by omega, bstep hb2 x.below⟩
                case measure => simp [intOf]; omega
            · obtain rfl : k = 200 := by omega
              have HQ := Lib.hid (show loud l = q from hq)
              clear hq
              go_wp2
              refine region_after (by kernel_rfl) (by kernel_rfl) ?_
              repeat (go_big_quiet_step (fail))
              refine wpQuiet_nil ?_
              rintro _ ⟨x, rfl⟩
              go_wp2
              go_ret3
              refine ⟨?_, bstep (bstep B2 hb2) x.below⟩
              rw [HR.out.1, HR.out.2.1, HR.out.2.2, HQ.out]; rfl
    · have h0 : l.length = 0 := by omega
      have HR := Lib.hid (show rLo1 l = 0 ∧ rLo2 l = 0 ∧ cLo l = 6 by simp [rLo1, rLo2, cLo, hok, h0])
      have hn0 : ((l.length : Int) == 0) = true := by simp [h0]
      clear h0 hpos
      go_enter Try.func22, Try.ntmps22
      go_wp2_with fail
      refine (c_l01Ok A c l w h hw hn).mono ?_
      rintro e w1 ⟨rfl, b1⟩
      rw [hok]
      go_wp2
      go_ret3
      refine ⟨?_, b1⟩
      rw [HR.out.1, HR.out.2.1, HR.out.2.2]; rfl

set_option maxHeartbeats 1000000 in
theorem c_implLoudestStep (A : Option Addr) (c : Nat) (l : List (Int × Int)) (w : World) (h : At2 .i16 .i8 w A l) (hw : Wf l) (hn : l.length ≤ 1073741824) :
    Calls Try.prog 21 #[.slice A l.length c] w fun e w' => e = .returned (.tuple #[.int .i64 (rLo1 l), .int .i64 (rLo2 l), .int .i64 (cLo l)]) ∧ Below w.heap.size w w' := by
  have hu := Try.underlying43
  by_cases hall : okT l = true ∧ 0 < l.length
  · obtain ⟨hok, hpos⟩ := hall
    have HR := Lib.hid (show rLo1 l = (loud l : Int) ∧ rLo2 l = (cntA l (loud l) : Int) ∧ cLo l = 0 by simp [rLo1, rLo2, cLo, hok, hpos])
    have hl120 := okT_len hok
    have hp1 : decide ((0 : Int) < (l.length : Int)) = true := decide_eq_true (by omega)
    go_enter Try.func21, Try.ntmps21
    go_wp2_with fail
    refine (c_tuneCode_one A c l w _ h hw hn).mono ?_
    rintro e w1 ⟨rfl, b1⟩
    rw [hok]
    go_wp2_with fail
    refine (c_unless _ _ _).mono ?_
    rintro e w' ⟨rfl, rfl⟩
    go_wp2_with fail
    refine (c_firstOf_two _ _ w1 _).mono ?_
    rintro e w2 ⟨rfl, b2⟩
    have B2 := bstep b1 b2
    go_wp2
    go_loopw [6, 7, 8, 25] (fun x y z i w' => ∃ k best most many : Nat, i = .int .i64 k ∧ x = .int .i64 (best : Int) ∧ y = .int .i64 (most : Int) ∧ z = .int .i64 (many : Int) ∧ k ≤ l.length ∧ Lo l k best most many ∧ Below w.heap.size w w') (fun _ _ _ i _ => l.length - (intOf i).toNat)
    case atStart => exact ⟨0, 0, 0, 0, rfl, rfl, rfl, rfl, by omega, Lo.zero l, B2⟩
    case round =>
      obtain ⟨k, best, most, many, rfl, rfl, rfl, rfl, hk, hlo, hb⟩ := hrel
      by_cases hlt : k < l.length
      · obtain ⟨b, off, rfl, hbl, hc⟩ := (h.below hb).get (by omega)
        obtain ⟨n1, n2, n3, n4⟩ := okT_note hok hlt
        have y1 := (hc k hlt).1
        have y2 := (hc k hlt).2
        obtain ⟨mb, mm, my⟩ := hlo.most_le
        have hwm : IntKind.i64.wrap ((many : Int) + 1) = ((many + 1 : Nat) : Int) := IntWalk.i64_in _ (by omega)
        have HN := Lib.hid (show ((l[k].1.toNat : Nat) : Int) = l[k].1 by omega)
        have z1 : ∀ x : After (wr.alloc (.cells #[.int .i16 l[k].1, .int .i8 l[k].2] 43)), x.w.cell? ⟨wr.heap.size, 0, none⟩ = some (.int .i16 l[k].1) := fun x => box1 x rfl
        have z2 : ∀ x : After (wr.alloc (.cells #[.int .i16 l[k].1, .int .i8 l[k].2] 43)), x.w.cell? ⟨wr.heap.size, 1, none⟩ = some (.int .i8 l[k].2) := fun x => box1 x rfl
        by_cases hk0 : k = 0
        · obtain ⟨rfl, rfl, rfl⟩ := hlo.1 hk0
          have HS := Lib.hid (Lo.step hok hlo hlt 1 (by rw [if_neg (fun ⟨j, _, e, _⟩ => by omega)]))
          have hkp : decide ((0 : Int) < (k : Int)) = false := decide_eq_false (by omega)
          have hkp2 : decide (0 < k) = false := decide_eq_false (by omega)
          have HK := Lib.hid hk0
          clear hc hk0
          go_wp2
          refine region_after (by kernel_rfl) (by kernel_rfl) ?_
          repeat (go_big_quiet_step (fail))
          refine wpQuiet_nil ?_
          rintro _ ⟨x, rfl⟩
          go_wp2
          go_roundw
          case rel => exact ⟨k + 1, l[k].1.toNat, 1, 1, by go_num, by rw [HN.out], rfl, rfl, by omega, HS.out.1 (by omega), bstep (balloc hb _) x.below⟩
          case measure => simp [intOf]; omega
        · have hk1 : k - 1 < l.length := by omega
          have hkp : decide ((0 : Int) < (k : Int)) = true := decide_eq_true (by omega)
          have hkq : (0 : Int) < (k : Int) := by omega
          have hw1 : IntKind.i64.wrap ((k:Int) - 1) = (k:Int) - 1 := IntWalk.i64_in _ (by omega)
          have hw2 : (0:Int) ≤ (k:Int) - 1 := by omega
          have hw3 : ((k:Int) - 1).toNat = k - 1 := by omega
          have hkl : (k : Int) - 1 < (l.length : Int) := by omega
          have hkp2 : decide (0 < k) = true := decide_eq_true (by omega)
          have p1 : ∀ x : After (wr.alloc (.cells #[.int .i16 l[k].1, .int .i8 l[k].2] 43)), _ := fun x => (x.old hbl).trans (hc (k - 1) hk1).1
          have p2 : ∀ x : After (wr.alloc (.cells #[.int .i16 l[k].1, .int .i8 l[k].2] 43)), _ := fun x => (x.old hbl).trans (hc (k - 1) hk1).2
          clear hc
          rcases hne : (l[k - 1].1 != l[k].1) with _ | _
          · have heq : l[k - 1].1 = l[k].1 := by simpa using hne
            have HS := Lib.hid (Lo.step hok hlo hlt (many + 1) (by
              rw [if_neg]
              rintro ⟨j, hj, e, hx⟩
              obtain rfl : k - 1 = j := by omega
              exact hx heq))
            clear heq
            by_cases hgt : most < (many + 1)
            · have hg1 : decide (most < (many + 1)) = true := decide_eq_true hgt
              have hg2 : ((most : Int) < (((many + 1) : Nat) : Int)) := by omega
              go_wp2
              refine region_after (by kernel_rfl) (by kernel_rfl) ?_
              repeat (go_big_quiet_step (fail))
              refine wpQuiet_nil ?_
              rintro _ ⟨x, rfl⟩
              go_wp2
              go_roundw
              case rel => exact ⟨k + 1, l[k].1.toNat, (many + 1), (many + 1), by go_num, by rw [HN.out], rfl, rfl, by omega, HS.out.1 hgt, bstep (balloc hb _) x.below⟩
              case measure => simp [intOf]; omega
            · have hg1 : decide (most < (many + 1)) = false := decide_eq_false hgt
              have hg2 : ¬ ((most : Int) < (((many + 1) : Nat) : Int)) := by omega
              go_wp2
              refine region_after (by kernel_rfl) (by kernel_rfl) ?_
              repeat (go_big_quiet_step (fail))
              refine wpQuiet_nil ?_
              rintro _ ⟨x, rfl⟩
              go_wp2
              go_roundw
              case rel => exact ⟨k + 1, best, most, (many + 1), by go_num, rfl, rfl, rfl, by omega, HS.out.2 hgt, bstep (balloc hb _) x.below⟩
              case measure => simp [intOf]; omega
          · have heq : l[k - 1].1 ≠ l[k].1 := by simpa using hne
            have HS := Lib.hid (Lo.step hok hlo hlt 1 (by
              rw [if_pos ⟨k - 1, hk1, by omega, heq⟩]))
            clear heq
            by_cases hgt : most < 1
            · have hg1 : decide (most < 1) = true := decide_eq_true hgt
              have hg2 : ((most : Int) < ((1 : Nat) : Int)) := by omega
              go_wp2
              refine region_after (by kernel_rfl) (by kernel_rfl) ?_
              repeat (go_big_quiet_step (fail))
              refine wpQuiet_nil ?_
              rintro _ ⟨x, rfl⟩
              go_wp2
              go_roundw
              case rel => exact ⟨k + 1, l[k].1.toNat, 1, 1, by go_num, by rw [HN.out], rfl, rfl, by omega, HS.out.1 hgt, bstep (balloc hb _) x.below⟩
              case measure => simp [intOf]; omega
            · have hg1 : decide (most < 1) = false := decide_eq_false hgt
              have hg2 : ¬ ((most : Int) < ((1 : Nat) : Int)) := by omega
              go_wp2
              refine region_after (by kernel_rfl) (by kernel_rfl) ?_
              repeat (go_big_quiet_step (fail))
              refine wpQuiet_nil ?_
              rintro _ ⟨x, rfl⟩
              go_wp2
              go_roundw
              case rel => exact ⟨k + 1, best, most, 1, by go_num, rfl, rfl, rfl, by omega, HS.out.2 hgt, bstep (balloc hb _) x.below⟩
              case measure => simp [intOf]; omega
      · obtain rfl : k = l.length := by omega
        obtain ⟨e1, e2⟩ := hlo.done
        have HQ := Lib.hid (And.intro e1 e2)
        clear hlo e1 e2
        go_wp2
        go_ret3
        refine ⟨?_, hb⟩
        rw [HR.out.1, HR.out.2.1, HR.out.2.2, HQ.out.1, HQ.out.2]; rfl
  · rcases hok : okT l with _ | _
    · have HR := Lib.hid (show rLo1 l = 0 ∧ rLo2 l = 0 ∧ cLo l = 1 by simp [rLo1, rLo2, cLo, hok])
      rcases hpos : decide (0 < l.length) with _ | _
      all_goals
        have hpos2 : decide ((0 : Int) < (l.length : Int)) = decide (0 < l.length) := by rw [decide_eq_decide]; omega
        rw [hpos] at hpos2
        go_enter Try.func21, Try.ntmps21
        go_wp2_with fail
        refine (c_tuneCode_one A c l w _ h hw hn).mono ?_
        rintro e w1 ⟨rfl, b1⟩
        rw [hok]
        go_wp2_with fail
        refine (c_unless _ _ _).mono ?_
        rintro e w' ⟨rfl, rfl⟩
        go_wp2_with fail
        refine (c_firstOf_two _ _ w1 _).mono ?_
        rintro e w2 ⟨rfl, b2⟩
        go_wp2
        go_ret3
        refine ⟨?_, bstep b1 b2⟩
        rw [HR.out.1, HR.out.2.1, HR.out.2.2]; rfl
    · have h0 : l.length = 0 := by
        by_cases h0 : l.length = 0
        · exact h0
        · exact absurd ⟨hok, by omega⟩ hall
      have HR := Lib.hid (show rLo1 l = 0 ∧ rLo2 l = 0 ∧ cLo l = 6 by simp [rLo1, rLo2, cLo, hok, h0])
      have hp1 : decide ((0 : Int) < (l.length : Int)) = false := decide_eq_false (by omega)
      have hp2 : decide (0 < l.length) = false := decide_eq_false (by omega)
      clear h0 hall
      go_enter Try.func21, Try.ntmps21
      go_wp2_with fail
      refine (c_tuneCode_one A c l w _ h hw hn).mono ?_
      rintro e w1 ⟨rfl, b1⟩
      rw [hok]
      go_wp2_with fail
      refine (c_unless _ _ _).mono ?_
      rintro e w' ⟨rfl, rfl⟩
      go_wp2_with fail
      refine (c_firstOf_two _ _ w1 _).mono ?_
      rintro e w2 ⟨rfl, b2⟩
      go_wp2
      go_ret3
      refine ⟨?_, bstep b1 b2⟩
      rw [HR.out.1, HR.out.2.1, HR.out.2.2]; rfl

end Go.Proofs.Ytmdocjiljjbijaa
