/-
  The walks of the comparison of notes and of the test whether a tune is valid, in the reference and in the program.
-/
import Derived.Test.YtnakdlfjjeligaaGreatWalkA
namespace Go.Proofs.YtnakdlfjjeligaaGreat
open Go.RowKit
set_option linter.unusedVariables false
set_option linter.unusedSimpArgs false
set_option maxRecDepth 4000

theorem c_l01Ok (A : Option Addr) (c : Nat) (l : List (Int × Int)) (w : World) (h : At2 .i16 .i8 w A l) (hw : Wf l) (hn : l.length ≤ 1073741824) :
    Calls Tryz.prog 51 #[.slice A l.length c] w fun e w' => e = .returned (.bool (okT l)) ∧ Below w.heap.size w w' := by
  have hu := Tryz.underlying111
  go_enter Tryz.func51, Tryz.ntmps51
  go_wp2
  go_loopw [3] (fun i w' => ∃ k : Nat, i = .int .i64 k ∧ k ≤ l.length ∧ Pre l k ∧ Below w.heap.size w w') (fun i _ => l.length - (intOf i).toNat)
  case atStart => exact ⟨0, rfl, by omega, Pre.zero l, Below.refl _ _⟩
  case round =>
    obtain ⟨k, rfl, hk, hpre, hb⟩ := hrel
    by_cases hlt : k < l.length
    · obtain ⟨b, off, rfl, hbl, hc⟩ := (h.below hb).get (by omega)
      have hk1 := hw.get hlt
      have x1 : ∀ x : After wr, x.w.cell? ⟨b, off + k * 2, none⟩ = some (.int .i16 l[k].1) := fun x => (x.cell hbl).trans (hc k hlt).1
      have x2 : ∀ x : After wr, x.w.cell? ⟨b, off + k * 2 + 1, none⟩ = some (.int .i8 l[k].2) := fun x => (x.cell hbl).trans (hc k hlt).2
      rcases hok : okN l[k] with _ | _
      · go_wp2
        refine region_after (by kernel_rfl) (by kernel_rfl) ?_
        repeat (go_big_quiet_step ((go_at_call 83; exact After.call (c_l01Note _ _ hk1))))
        refine wpQuiet_nil ?_
        rintro _ ⟨x, rfl⟩
        go_wp2
        go_ret
        exact ⟨ret_bool (okT_bad1 hlt hok).symm, hb.trans (x.below.mono hb.size)⟩
      · by_cases hz : 0 < k
        · have x3 : ∀ x : After wr, x.w.cell? ⟨b, off + (k-1) * 2, none⟩ = some (.int .i16 l[k-1].1) := fun x => (x.cell hbl).trans (hc (k-1) (by omega)).1
          have x4 : ∀ x : After wr, x.w.cell? ⟨b, off + (k-1) * 2 + 1, none⟩ = some (.int .i8 l[k-1].2) := fun x => (x.cell hbl).trans (hc (k-1) (by omega)).2
          have hw1 : IntKind.i64.wrap ((k:Int) - 1) = (k:Int) - 1 := IntWalk.i64_in _ (by omega)
          have hw2 : (0:Int) ≤ (k:Int) - 1 := by omega
          have hw3 : ((k:Int) - 1).toNat = k - 1 := by omega
          have hw4 : (k:Int) - 1 < (l.length : Int) := by omega
          have hw5 : (0:Int) < (k:Int) := by omega
          rcases hlt2 : ltN l[k-1] l[k] with _ | _
          · go_wp2
            refine region_after (by kernel_rfl) (by kernel_rfl) ?_
            repeat (go_big_quiet_step (first | (go_at_call 83; exact After.call (c_l01Note _ _ hk1)) | (go_at_call 84; exact After.call (c_l01Before _ _ _))))
            refine wpQuiet_nil ?_
            rintro _ ⟨x, rfl⟩
            go_wp2
            go_ret
            exact ⟨ret_bool (okT_bad2 hlt hz hlt2).symm, hb.trans (x.below.mono hb.size)⟩
          · go_wp2
            refine region_after (by kernel_rfl) (by kernel_rfl) ?_
            repeat (go_big_quiet_step (first | (go_at_call 83; exact After.call (c_l01Note _ _ hk1)) | (go_at_call 84; exact After.call (c_l01Before _ _ _))))
            refine wpQuiet_nil ?_
            rintro _ ⟨x, rfl⟩
            go_wp2
            go_roundw
            case rel => exact ⟨k + 1, by go_num, by omega, hpre.succ hlt hok (fun _ => hlt2), hb.trans (x.below.mono hb.size)⟩
            case measure => simp [intOf]; omega
        · have hw5 : decide ((0:Int) < (k:Int)) = false := decide_eq_false (by omega)
          go_wp2
          refine region_after (by kernel_rfl) (by kernel_rfl) ?_
          repeat (go_big_quiet_step ((go_at_call 83; exact After.call (c_l01Note _ _ hk1))))
          refine wpQuiet_nil ?_
          rintro _ ⟨x, rfl⟩
          go_wp2
          go_roundw
          case rel => exact ⟨k + 1, by go_num, by omega, hpre.succ hlt hok (fun h => absurd h hz), hb.trans (x.below.mono hb.size)⟩
          case measure => simp [intOf]; omega
    · obtain rfl : k = l.length := by omega
      go_wp2
      go_ret
      exact ⟨ret_bool (by rw [okT_end hpre]; simp; omega), hb⟩

/-- '!=' and '==' of two notes. -/
theorem neq_note (a b : Int × Int) (W : World) : (binOp .neq 111 (.agg #[.int .i16 a.1, .int .i8 a.2]) (.agg #[.int .i16 b.1, .int .i8 b.2])).run Tryz.prog W = .ok (.bool (!eqN a b)) W := by
  have hu := Tryz.underlying111
  rcases h1 : (a.1 == b.1) with _ | _ <;> rcases h2 : (a.2 == b.2) with _ | _
  all_goals
    have g1 : decide (a.1 = b.1) = (a.1 == b.1) := rfl
    have g2 : decide (a.2 = b.2) = (a.2 == b.2) := rfl
    unfold eqN
    rw [g1, g2, h1, h2]
    simp [go_sem, hu, h1, h2, Result.andThen]
theorem eq_note (a b : Int × Int) (W : World) : (binOp .eql 111 (.agg #[.int .i16 a.1, .int .i8 a.2]) (.agg #[.int .i16 b.1, .int .i8 b.2])).run Tryz.prog W = .ok (.bool (eqN a b)) W := by
  have hu := Tryz.underlying111
  rcases h1 : (a.1 == b.1) with _ | _ <;> rcases h2 : (a.2 == b.2) with _ | _
  all_goals
    have g1 : decide (a.1 = b.1) = (a.1 == b.1) := rfl
    have g2 : decide (a.2 = b.2) = (a.2 == b.2) := rfl
    unfold eqN
    rw [g1, g2, h1, h2]
    simp [go_sem, hu, h1, h2, Result.andThen]

theorem c_isNaN16 (a : Int) (w : World) : Calls Tryz.prog 105 #[.int .i16 a] w fun e w' => e = .returned (.bool false) ∧ w = w' := by
  go_enter Tryz.func105, Tryz.ntmps105
  go_wp2
  go_ret
  exact ⟨by simp, rfl⟩
theorem c_isNaN8 (a : Int) (w : World) : Calls Tryz.prog 106 #[.int .i8 a] w fun e w' => e = .returned (.bool false) ∧ w = w' := by
  go_enter Tryz.func106, Tryz.ntmps106
  go_wp2
  go_ret
  exact ⟨by simp, rfl⟩
theorem c_Compare16 (a b : Int) (w : World) : Calls Tryz.prog 101 #[.int .i16 a, .int .i16 b] w fun e w' => e = .returned (.int .i64 (cmpI a b)) ∧ w = w' := by
  by_cases h1 : a < b <;> by_cases h2 : b < a
  all_goals (try (exfalso; omega))
  all_goals
    go_enter Tryz.func101, Tryz.ntmps101
    go_wp2_with (go_at_call 105; refine (c_isNaN16 _ _).mono ?_; rintro e w' ⟨rfl, rfl⟩)
    go_ret
    exact ⟨ret_int (by unfold cmpI; repeat' split <;> omega), rfl⟩
theorem c_Compare8 (a b : Int) (w : World) : Calls Tryz.prog 102 #[.int .i8 a, .int .i8 b] w fun e w' => e = .returned (.int .i64 (cmpI a b)) ∧ w = w' := by
  by_cases h1 : a < b <;> by_cases h2 : b < a
  all_goals (try (exfalso; omega))
  all_goals
    go_enter Tryz.func102, Tryz.ntmps102
    go_wp2_with (go_at_call 106; refine (c_isNaN8 _ _).mono ?_; rintro e w' ⟨rfl, rfl⟩)
    go_ret
    exact ⟨ret_int (by unfold cmpI; repeat' split <;> omega), rfl⟩

theorem c_Or (A : Option Addr) (c : Nat) (xs : List Int) (w : World) (h : At1 .i64 w A xs) (hn : xs.length ≤ 1073741824) :
    Calls Tryz.prog 100 #[.slice A xs.length c] w fun e w' => e = .returned (.int .i64 (firstNZ xs)) ∧ w = w' := by
  go_enter Tryz.func100, Tryz.ntmps100
  go_wp2
  go_loop [8] (fun i => ∃ k : Nat, i = .int .i64 k ∧ k ≤ xs.length ∧ ∀ i (hi : i < xs.length), i < k → xs[i] = 0) (fun i => xs.length - (intOf i).toNat)
  case atStart => exact ⟨0, rfl, by omega, fun _ _ h => absurd h (by omega)⟩
  case round =>
    obtain ⟨k, rfl, hk, hz⟩ := hrel
    have HZ := Lib.hid hz; clear hz
    by_cases hlt : k < xs.length
    · obtain ⟨b, off, rfl, hbl, hc⟩ := h.get (by omega)
      have x1 := hc k hlt
      clear hc
      rcases hx : (xs[k] == 0) with _ | _
      · have hx2 : ¬ xs[k] = 0 := by simpa using hx
        go_wp2
        go_ret
        exact ⟨ret_int (firstNZ_at hlt hx2 HZ.out).symm, rfl⟩
      · have hx2 : xs[k] = 0 := by simpa using hx
        have HX := Lib.hid hx2
        clear hx2
        go_wp2
        go_round
        case rel => exact ⟨k + 1, by go_num, by omega, fun i hi hik => by
          by_cases e : i = k
          · subst e; exact HX.out
          · exact HZ.out i hi (by omega)⟩
        case measure => simp [intOf]; omega
    · obtain rfl : k = xs.length := by omega
      go_wp2
      go_ret
      exact ⟨ret_int (firstNZ_none (fun i hi => HZ.out i hi hi)).symm, rfl⟩

theorem cmpN_first (a b : Int × Int) : firstNZ [cmpI a.1 b.1, cmpI a.2 b.2] = cmpN a b := by
  simp only [firstNZ, cmpN]
  split
  · split <;> omega
  · rfl

theorem c_compareNotes (a b : Int × Int) (w : World) :
    Calls Tryz.prog 92 #[.agg #[.int .i16 a.1, .int .i8 a.2], .agg #[.int .i16 b.1, .int .i8 b.2]] w fun e w' => e = .returned (.int .i64 (cmpN a b)) ∧ Below w.heap.size w w' := by
  have hu := Tryz.underlying111
  go_enter Tryz.func92, Tryz.ntmps92
  go_wp2
  have x1 := fun x => box2a (w := w) (cs := #[.int .i16 a.1, .int .i8 a.2]) (ds := #[.int .i16 b.1, .int .i8 b.2]) (t := 111) (u := 111) x (i := 0) rfl
  have x2 := fun x => box2a (w := w) (cs := #[.int .i16 a.1, .int .i8 a.2]) (ds := #[.int .i16 b.1, .int .i8 b.2]) (t := 111) (u := 111) x (i := 1) rfl
  have x3 := fun x => box2b (w := w) (cs := #[.int .i16 a.1, .int .i8 a.2]) (ds := #[.int .i16 b.1, .int .i8 b.2]) (t := 111) (u := 111) x (i := 0) rfl
  have x4 := fun x => box2b (w := w) (cs := #[.int .i16 a.1, .int .i8 a.2]) (ds := #[.int .i16 b.1, .int .i8 b.2]) (t := 111) (u := 111) x (i := 1) rfl
  refine region_tail 10 (by kernel_rfl) (by kernel_rfl) ?_
  simp only [List.take_succ_cons, List.take_zero, List.drop_succ_cons, List.drop_zero]
  repeat (go_big_quiet_step (first | (go_at_call 101; exact After.call_same (c_Compare16 _ _ _)) | (go_at_call 102; exact After.call_same (c_Compare8 _ _ _))))
  refine wpQuiet_nil ?_
  clear x1 x2 x3 x4
  intro w2 hb2
  have hb : Below w.heap.size w w2 := bstep (balloc (balloc (Below.refl _ _) _) _) hb2
  go_wp2_with fail
  refine (c_Or (some ⟨w2.heap.size, 0, none⟩) 2 [cmpI a.1 b.1, cmpI a.2 b.2] _ (Row.lit #[.int .i64 (cmpI a.1 b.1), .int .i64 (cmpI a.2 b.2)] _) (by simp)).mono ?_
  rintro e w' ⟨rfl, rfl⟩
  go_wp2
  go_ret
  exact ⟨ret_int (cmpN_first a b), balloc hb _⟩

theorem c_ValidTune (A : Option Addr) (c : Nat) (l : List (Int × Int)) (w : World) (h : At2 .i16 .i8 w A l) (hw : Wf l) (hn : l.length ≤ 1073741824) :
    Calls Tryz.prog 71 #[.slice A l.length c] w fun e w' => e = .returned (.bool (okT l)) ∧ Below w.heap.size w w' := by
  have hu := Tryz.underlying111
  go_enter Tryz.func71, Tryz.ntmps71
  go_wp2
  go_loopw [7] (fun i w' => ∃ k : Nat, i = .int .i64 k ∧ k ≤ l.length ∧ Pre l k ∧ Below w.heap.size w w') (fun i _ => l.length - (intOf i).toNat)
  case atStart => exact ⟨0, rfl, by omega, Pre.zero l, Below.refl _ _⟩
  case round =>
    obtain ⟨k, rfl, hk, hpre, hb⟩ := hrel
    by_cases hlt : k < l.length
    · obtain ⟨b, off, rfl, hbl, hc⟩ := (h.below hb).get (by omega)
      have hk1 := hw.get hlt
      have hc1 := (hc k hlt).1
      have hc2 := (hc k hlt).2
      have x1 : ∀ x : After (wr.alloc (.cells #[.int .i16 l[k].1, .int .i8 l[k].2] 111)), x.w.cell? ⟨wr.heap.size, 0, none⟩ = some (.int .i16 l[k].1) := fun x => box1 x rfl
      have x2 : ∀ x : After (wr.alloc (.cells #[.int .i16 l[k].1, .int .i8 l[k].2] 111)), x.w.cell? ⟨wr.heap.size, 1, none⟩ = some (.int .i8 l[k].2) := fun x => box1 x rfl
      rcases hok : okN l[k] with _ | _
      · go_wp2
        refine region_after (by kernel_rfl) (by kernel_rfl) ?_
        repeat (go_big_quiet_step ((go_at_call 91; exact After.call (c_isNote _ _ hk1))))
        refine wpQuiet_nil ?_
        rintro _ ⟨x, rfl⟩
        go_wp2
        go_ret
        exact ⟨ret_bool (okT_bad1 hlt hok).symm, bstep (balloc hb _) x.below⟩
      · by_cases hz : 0 < k
        · have hkl : k - 1 < l.length := by omega
          have hcm := @cmpN_ge l[k-1] l[k]
          have HCM := Lib.hid hcm
          clear hcm
          rcases hlt2 : ltN l[k-1] l[k] with _ | _
          · have hcm : decide (0 ≤ cmpN l[k-1] l[k]) = true := by rw [HCM.out, hlt2]; rfl
            have y1 : ∀ x : After (wr.alloc (.cells #[.int .i16 l[k].1, .int .i8 l[k].2] 111)), _ := fun x => (x.old hbl).trans (hc (k-1) hkl).1
            have y2 : ∀ x : After (wr.alloc (.cells #[.int .i16 l[k].1, .int .i8 l[k].2] 111)), _ := fun x => (x.old hbl).trans (hc (k-1) hkl).2
            have hw1 : IntKind.i64.wrap ((k:Int) - 1) = (k:Int) - 1 := IntWalk.i64_in _ (by omega)
            have hw2 : (0:Int) ≤ (k:Int) - 1 := by omega
            have hw3 : ((k:Int) - 1).toNat = k - 1 := by omega
            have hw4 : (k:Int) - 1 < (l.length : Int) := by omega
            have hw5 : (0:Int) < (k:Int) := by omega
            go_wp2
            refine region_after (by kernel_rfl) (by kernel_rfl) ?_
            repeat (go_big_quiet_step (first | (go_at_call 91; exact After.call (c_isNote _ _ hk1)) | (go_at_call 92; exact After.call (c_compareNotes _ _ _))))
            refine wpQuiet_nil ?_
            rintro _ ⟨x, rfl⟩
            go_wp2
            go_ret
            exact ⟨ret_bool (okT_bad2 hlt hz hlt2).symm, bstep (balloc hb _) x.below⟩
          · have hcm : decide (0 ≤ cmpN l[k-1] l[k]) = false := by rw [HCM.out, hlt2]; rfl
            have y1 : ∀ x : After (wr.alloc (.cells #[.int .i16 l[k].1, .int .i8 l[k].2] 111)), _ := fun x => (x.old hbl).trans (hc (k-1) hkl).1
            have y2 : ∀ x : After (wr.alloc (.cells #[.int .i16 l[k].1, .int .i8 l[k].2] 111)), _ := fun x => (x.old hbl).trans (hc (k-1) hkl).2
            have hw1 : IntKind.i64.wrap ((k:Int) - 1) = (k:Int) - 1 := IntWalk.i64_in _ (by omega)
            have hw2 : (0:Int) ≤ (k:Int) - 1 := by omega
            have hw3 : ((k:Int) - 1).toNat = k - 1 := by omega
            have hw4 : (k:Int) - 1 < (l.length : Int) := by omega
            have hw5 : (0:Int) < (k:Int) := by omega
            go_wp2
            refine region_after (by kernel_rfl) (by kernel_rfl) ?_
            repeat (go_big_quiet_step (first | (go_at_call 91; exact After.call (c_isNote _ _ hk1)) | (go_at_call 92; exact After.call (c_compareNotes _ _ _))))
            refine wpQuiet_nil ?_
            rintro _ ⟨x, rfl⟩
            go_wp2
            go_roundw
            case rel => exact ⟨k + 1, by go_num, by omega, hpre.succ hlt hok (fun _ => hlt2), bstep (balloc hb _) x.below⟩
            case measure => simp [intOf]; omega
        · have hw5 : decide ((0:Int) < (k:Int)) = false := decide_eq_false (by omega)
          go_wp2
          refine region_after (by kernel_rfl) (by kernel_rfl) ?_
          repeat (go_big_quiet_step ((go_at_call 91; exact After.call (c_isNote _ _ hk1))))
          refine wpQuiet_nil ?_
          rintro _ ⟨x, rfl⟩
          go_wp2
          go_roundw
          case rel => exact ⟨k + 1, by go_num, by omega, hpre.succ hlt hok (fun h => absurd h hz), bstep (balloc hb _) x.below⟩
          case measure => simp [intOf]; omega
    · obtain rfl : k = l.length := by omega
      go_wp2
      go_ret
      exact ⟨ret_bool (by rw [okT_end hpre]; simp; omega), hb⟩

end Go.Proofs.YtnakdlfjjeligaaGreat
