/-
  The walks of CutTune, in the reference and in the program.
-/
import Derived.Test.YtbdopmcjoncelaaGreatDoorWalkC
import Derived.Test.YtbdopmcjoncelaaGreatDoorWalkD
namespace Go.Proofs.YtbdopmcjoncelaaGreatDoor
open Go.RowKit
set_option linter.unusedVariables false
set_option linter.unusedSimpArgs false
set_option maxRecDepth 4000

theorem c_specCutTune (A : Option Addr) (c : Nat) (l : List (Int × Int)) (f g : Int) (w : World) (h : At2 .i16 .i8 w A l) (hw : Wf l) (hn : l.length ≤ 1073741824) (hf : -9223372036854775808 ≤ f ∧ f ≤ 9223372036854775807) (hg : -9223372036854775808 ≤ g ∧ g ≤ 9223372036854775807) :
    Calls Tryz.prog 20 #[.slice A l.length c, .int .i64 f, .int .i64 g] w fun e w' => ∃ v, e = .returned (.tuple #[v, .int .i64 (cCut l f g)]) ∧ Own2 .i16 .i8 40 w' w.heap.size v (rCut l f g) ∧ Below w.heap.size w w' := by
  have hu := Tryz.underlying40
  rcases hok : okT l with _ | _
  · have hr : rCut l f g = [] := by simp [rCut, hok]
    have hcc : cCut l f g = 1 := by simp [cCut, hok]
    have HR := Lib.hid hr; clear hr
    have HC := Lib.hid hcc; clear hcc
    go_enter Tryz.func20, Tryz.ntmps20
    go_wp2_with fail
    refine (c_l01Ok A c l w h hw hn).mono ?_
    rintro e w1 ⟨rfl, b1⟩
    go_wp2
    go_ret2
    rw [HR.out, HC.out]
    exact ⟨_, rfl, Own2.lit0 b1.size, balloc b1 _⟩
  · by_cases hrange : 0 ≤ f ∧ f ≤ g ∧ g ≤ 200
    · obtain ⟨q1, q2, q3⟩ := hrange
      have hcc : cCut l f g = 0 := by simp [cCut, hok, q1, q2, q3]
      have hr : rCut l f g = cutL l f g := by simp [rCut, hok, q1, q2, q3]
      have HR := Lib.hid hr; clear hr
      have HC := Lib.hid hcc; clear hcc
      have e1 : inB f 0 200 = true := inB_iff.2 (by omega)
      have e2 : inB g f 200 = true := inB_iff.2 (by omega)
      go_enter Tryz.func20, Tryz.ntmps20
      go_wp2_with fail
      refine (c_l01Ok A c l w h hw hn).mono ?_
      rintro e w1 ⟨rfl, b1⟩
      go_wp2_with (go_at_call 43; refine (c_l00In _ _ _ _).mono ?_; rintro e w' ⟨rfl, rfl⟩)
      go_loopw [8, 9] (fun v i w' => ∃ (k : Nat) (A' : Option Addr) (c' : Nat), i = .int .i64 k ∧ v = .slice A' (cutL (l.take k) f g).length c' ∧ k ≤ l.length ∧ Own2 .i16 .i8 40 w' w.heap.size v (cutL (l.take k) f g) ∧ Below w.heap.size w w') (fun _ i _ => l.length - (intOf i).toNat)
      case atStart => exact ⟨0, _, _, rfl, rfl, by omega, Own2.lit0 b1.size, balloc b1 _⟩
      case round =>
        obtain ⟨k, A', c', rfl, rfl, hk, hown, hb⟩ := hrel
        by_cases hlt : k < l.length
        · obtain ⟨b, off, rfl, hbl, hc⟩ := (h.below hb).get (by omega)
          obtain ⟨n1, n2, n3, n4⟩ := okT_note hok hlt
          have y1 := (hc k hlt).1
          have x1 : ∀ x : After wr, _ := fun x => (x.cell hbl).trans (hc k hlt).1
          have x2 : ∀ x : After wr, _ := fun x => (x.cell hbl).trans (hc k hlt).2
          clear hc
          have hg1 : IntKind.i64.wrap (g - 1) = g - 1 := IntWalk.i64_in _ (by omega)
          rcases hin : inB l[k].1 f (g - 1) with _ | _
          · have hno := cutL_no l f g k hlt hin
            have HN := Lib.hid hno; clear hno
            go_wp2_with (go_at_call 43; refine (c_l00In _ _ _ _).mono ?_; rintro e w' ⟨rfl, rfl⟩)
            go_roundw
            case rel => exact ⟨k + 1, A', c', by go_num, by rw [HN.out], by omega, by rw [HN.out]; exact hown, hb⟩
            case measure => simp [intOf]; omega
          · have hyes := cutL_yes l f g k hlt hin
            have HY := Lib.hid hyes; clear hyes
            have hin2 := inB_iff.1 hin
            have hlen2 : (cutL (l.take k) f g).length ≤ 1073741824 := Nat.le_trans (cutL_len _ _ _) (by simp; omega)
            have hf1 : IntKind.i16.wrap f = f := IntWalk.i16_in _ (by omega)
            have hf2 : IntKind.i16.wrap (l[k].1 - f) = l[k].1 - f := IntWalk.i16_in _ (by omega)
            go_wp2_with (go_at_call 43; refine (c_l00In _ _ _ _).mono ?_; rintro e w' ⟨rfl, rfl⟩)
            refine region_tail1 15 _ rfl rfl (fun _ _ _ _ h => h) (by kernel_rfl) (by kernel_rfl) ?_
            simp only [Nat.reduceSub, List.take_succ_cons, List.take_zero, List.drop_succ_cons, List.drop_zero, Act.put, Act.eval, List.setIfInBounds_toArray, List.set_cons_zero, List.set_cons_succ, List.getD_eq_getElem?_getD, Array.getD_eq_getD_getElem?, List.getElem?_toArray, List.getElem?_cons_zero, List.getElem?_cons_succ, Option.getD_some]
            repeat (go_big_quiet_step (fail))
            refine wpQuiet_nil ?_
            clear x1 x2
            intro w2 hb2
            have hown2 := (hown.below hb2).alloc (.cells #[.int .i16 (l[k].1 - f), .int .i8 l[k].2] 40)
            have B2 := bstep hb hb2
            have B3 := balloc B2 (.cells #[.int .i16 (l[k].1 - f), .int .i8 l[k].2] 40)
            have hbs := B3.size
            have z1 := cell_new w2 #[.int .i16 (l[k].1 - f), .int .i8 l[k].2] 40 (i := 0) rfl
            have z2 := cell_new w2 #[.int .i16 (l[k].1 - f), .int .i8 l[k].2] 40 (i := 1) rfl
            go_wp2_with (at_builtin; refine append_pair rfl (.tmp 41) (.tmp 56) 25 rfl 40 .i16 .i8 4 Tryz.underlying25 info_Note (by decide) w.heap.size _ _ rfl hown2 _ _ (l[k].1 - f, l[k].2) rfl z1 z2 hlen2 hbs ?_; intro A2 c2 w3 ho3 hg3)
            have B4 := bgrown B3 hg3 (fun j hj => hown2.low hj)
            go_roundw
            case rel => exact ⟨k + 1, A2, c2, by go_num, by rw [HY.out, List.length_append]; rfl, by omega, by rw [HY.out]; rw [List.length_append] at ho3; exact ho3, B4⟩
            case measure => simp [intOf]; omega
        · obtain rfl : k = l.length := by omega
          go_wp2
          go_ret2
          rw [HR.out, HC.out]
          rw [List.take_length] at hown ⊢
          exact ⟨_, rfl, hown, hb⟩
    · have hr : rCut l f g = [] := by simp [rCut, hok, hrange]
      have hcc : cCut l f g = 2 := by simp [cCut, hok, hrange]
      have HR := Lib.hid hr; clear hr
      have HC := Lib.hid hcc; clear hcc
      rcases e1 : inB f 0 200 with _ | _
      · go_enter Tryz.func20, Tryz.ntmps20
        go_wp2_with fail
        refine (c_l01Ok A c l w h hw hn).mono ?_
        rintro e w1 ⟨rfl, b1⟩
        go_wp2_with (go_at_call 43; refine (c_l00In _ _ _ _).mono ?_; rintro e w' ⟨rfl, rfl⟩)
        go_ret2
        rw [HR.out, HC.out]
        exact ⟨_, rfl, Own2.lit0 b1.size, balloc b1 _⟩
      · have e2 : inB g f 200 = false := inB_not.2 (by have := inB_iff.1 e1; omega)
        go_enter Tryz.func20, Tryz.ntmps20
        go_wp2_with fail
        refine (c_l01Ok A c l w h hw hn).mono ?_
        rintro e w1 ⟨rfl, b1⟩
        go_wp2_with (go_at_call 43; refine (c_l00In _ _ _ _).mono ?_; rintro e w' ⟨rfl, rfl⟩)
        go_ret2
        rw [HR.out, HC.out]
        exact ⟨_, rfl, Own2.lit0 b1.size, balloc b1 _⟩

theorem c_implCutTune (A : Option Addr) (c : Nat) (l : List (Int × Int)) (f g : Int) (w : World) (h : At2 .i16 .i8 w A l) (hw : Wf l) (hn : l.length ≤ 1073741824) (hf : -9223372036854775808 ≤ f ∧ f ≤ 9223372036854775807) (hg : -9223372036854775808 ≤ g ∧ g ≤ 9223372036854775807) :
    Calls Tryz.prog 19 #[.slice A l.length c, .int .i64 f, .int .i64 g] w fun e w' => ∃ v, e = .returned (.tuple #[v, .int .i64 (cCut l f g)]) ∧ Own2 .i16 .i8 40 w' w.heap.size v (rCut l f g) ∧ Below w.heap.size w w' := by
  have hu := Tryz.underlying40
  by_cases hall : okT l = true ∧ 0 ≤ f ∧ f ≤ g ∧ g ≤ 200
  · obtain ⟨hok, q1, q2, q3⟩ := hall
    have hcc : cCut l f g = 0 := by simp [cCut, hok, q1, q2, q3]
    have hr : rCut l f g = cutL l f g := by simp [rCut, hok, q1, q2, q3]
    have HR := Lib.hid hr; clear hr
    have HC := Lib.hid hcc; clear hcc
    have e1 : inB f 0 g = true := inB_iff.2 (by omega)
    have e2 : inB g 0 200 = true := inB_iff.2 (by omega)
    go_enter Tryz.func19, Tryz.ntmps19
    go_wp2_with fail
    refine (c_tuneCode_one A c l w _ h hw hn).mono ?_
    rintro e w1 ⟨rfl, b1⟩
    go_wp2_with fail
    refine (c_within _ _ _ _).mono ?_
    rintro e w' ⟨rfl, rfl⟩
    go_wp2_with fail
    refine (c_within _ _ _ _).mono ?_
    rintro e w' ⟨rfl, rfl⟩
    go_wp2_with fail
    refine (c_unless _ _ _).mono ?_
    rintro e w' ⟨rfl, rfl⟩
    go_wp2_with fail
    refine (c_firstOf_two _ _ w1 _).mono ?_
    rintro e w2 ⟨rfl, b2⟩
    have B2 := bstep b1 b2
    go_wp2
    go_loopw [9, 31] (fun v i w' => ∃ (k : Nat) (A' : Option Addr) (c' : Nat), i = .int .i64 k ∧ v = .slice A' (cutL (l.take k) f g).length c' ∧ k ≤ l.length ∧ Own2 .i16 .i8 40 w' w.heap.size v (cutL (l.take k) f g) ∧ Below w.heap.size w w') (fun _ i _ => l.length - (intOf i).toNat)
    case atStart => exact ⟨0, _, _, rfl, rfl, by omega, Own2.lit0 B2.size, balloc B2 _⟩
    case round =>
      obtain ⟨k, A', c', rfl, rfl, hk, hown, hb⟩ := hrel
      by_cases hlt : k < l.length
      · obtain ⟨b, off, rfl, hbl, hc⟩ := (h.below hb).get (by omega)
        obtain ⟨n1, n2, n3, n4⟩ := okT_note hok hlt
        have y1 := (hc k hlt).1
        have y2 := (hc k hlt).2
        clear hc
        have hg1 : IntKind.i64.wrap (g - 1) = g - 1 := IntWalk.i64_in _ (by omega)
        rcases hin : inB l[k].1 f (g - 1) with _ | _
        · have hno := cutL_no l f g k hlt hin
          have HN := Lib.hid hno; clear hno
          go_wp2_with (go_at_call 39; refine (c_within _ _ _ _).mono ?_; rintro e w' ⟨rfl, rfl⟩)
          go_roundw
          case rel => exact ⟨k + 1, A', c', by go_num, by rw [HN.out], by omega, by rw [HN.out]; exact hown.alloc _, balloc hb _⟩
          case measure => simp [intOf]; omega
        · have hyes := cutL_yes l f g k hlt hin
          have HY := Lib.hid hyes; clear hyes
          have hin2 := inB_iff.1 hin
          have hlen2 : (cutL (l.take k) f g).length ≤ 1073741824 := Nat.le_trans (cutL_len _ _ _) (by simp; omega)
          have hf1 : IntKind.i16.wrap f = f := IntWalk.i16_in _ (by omega)
          have hf2 : IntKind.i16.wrap (l[k].1 - f) = l[k].1 - f := IntWalk.i16_in _ (by omega)
          have hown2 := (hown.alloc (.cells #[.int .i16 l[k].1, .int .i8 l[k].2] 40)).alloc (.cells #[.int .i16 (l[k].1 - f), .int .i8 l[k].2] 40)
          have B3 := balloc (balloc hb (.cells #[.int .i16 l[k].1, .int .i8 l[k].2] 40)) (.cells #[.int .i16 (l[k].1 - f), .int .i8 l[k].2] 40)
          have hbs := B3.size
          have z1 : ((wr.alloc (.cells #[.int .i16 l[k].1, .int .i8 l[k].2] 40)).alloc (.cells #[.int .i16 (l[k].1 - f), .int .i8 l[k].2] 40)).cell? ⟨wr.heap.size + 1, 0, none⟩ = some (.int .i16 (l[k].1 - f)) := by simp
          have z2 : ((wr.alloc (.cells #[.int .i16 l[k].1, .int .i8 l[k].2] 40)).alloc (.cells #[.int .i16 (l[k].1 - f), .int .i8 l[k].2] 40)).cell? ⟨wr.heap.size + 1, 1, none⟩ = some (.int .i8 l[k].2) := by simp
          go_wp2_with (first | (go_at_call 39; refine (c_within _ _ _ _).mono ?_; rintro e w' ⟨rfl, rfl⟩) | (at_builtin; refine append_pair rfl (.tmp 42) (.tmp 51) 25 rfl 40 .i16 .i8 4 Tryz.underlying25 info_Note (by decide) w.heap.size _ _ rfl hown2 _ _ (l[k].1 - f, l[k].2) rfl z1 z2 hlen2 hbs ?_; intro A2 c2 w3 ho3 hg3))
          have B4 := bgrown B3 hg3 (fun j hj => hown2.low hj)
          go_roundw
          case rel => exact ⟨k + 1, A2, c2, by go_num, by rw [HY.out, List.length_append]; rfl, by omega, by rw [HY.out]; rw [List.length_append] at ho3; exact ho3, B4⟩
          case measure => simp [intOf]; omega
      · obtain rfl : k = l.length := by omega
        go_wp2
        go_ret2
        rw [HR.out, HC.out]
        rw [List.take_length] at hown ⊢
        exact ⟨_, rfl, hown, hb⟩
  · have hr : rCut l f g = [] := by
      unfold rCut
      by_cases hok : okT l = true
      · rw [if_pos hok, if_neg (fun h => hall ⟨hok, h⟩)]
      · rw [if_neg hok]
    have HR := Lib.hid hr; clear hr
    rcases hok : okT l with _ | _
    · have hcc : cCut l f g = 1 := by simp [cCut, hok]
      have HC := Lib.hid hcc; clear hcc
      rcases e1 : inB f 0 g with _ | _
      all_goals
        go_enter Tryz.func19, Tryz.ntmps19
        go_wp2_with fail
        refine (c_tuneCode_one A c l w _ h hw hn).mono ?_
        rintro e w1 ⟨rfl, b1⟩
        go_wp2_with (first | (go_at_call 39; refine (c_within _ _ _ _).mono ?_; rintro e w' ⟨rfl, rfl⟩) | (go_at_call 38; refine (c_unless _ _ _).mono ?_; rintro e w' ⟨rfl, rfl⟩) | (go_at_call 36; refine (c_firstOf_two _ _ w1 _).mono ?_; rintro e w2 ⟨rfl, b2⟩))
        all_goals go_ret2
        all_goals rw [HR.out, HC.out]
        all_goals exact ⟨_, rfl, World.ownsRow_nil _ _ _ _, bstep b1 b2⟩
    · have hcc : cCut l f g = 2 := by
        unfold cCut
        rw [if_pos hok, if_neg (fun h => hall ⟨hok, h⟩)]
      have HC := Lib.hid hcc; clear hcc
      have hno : inB f 0 g = true → inB g 0 200 = false := fun h => by
        have h1 := inB_iff.1 h
        exact inB_not.2 (fun h2 => hall ⟨hok, by omega⟩)
      rcases e1 : inB f 0 g with _ | _
      · go_enter Tryz.func19, Tryz.ntmps19
        go_wp2_with fail
        refine (c_tuneCode_one A c l w _ h hw hn).mono ?_
        rintro e w1 ⟨rfl, b1⟩
        go_wp2_with (first | (go_at_call 39; refine (c_within _ _ _ _).mono ?_; rintro e w' ⟨rfl, rfl⟩) | (go_at_call 38; refine (c_unless _ _ _).mono ?_; rintro e w' ⟨rfl, rfl⟩) | (go_at_call 36; refine (c_firstOf_two _ _ w1 _).mono ?_; rintro e w2 ⟨rfl, b2⟩))
        go_ret2
        rw [HR.out, HC.out]
        exact ⟨_, rfl, World.ownsRow_nil _ _ _ _, bstep b1 b2⟩
      · have e2 := hno e1
        clear hno
        go_enter Tryz.func19, Tryz.ntmps19
        go_wp2_with fail
        refine (c_tuneCode_one A c l w _ h hw hn).mono ?_
        rintro e w1 ⟨rfl, b1⟩
        go_wp2_with (first | (go_at_call 39; refine (c_within _ _ _ _).mono ?_; rintro e w' ⟨rfl, rfl⟩) | (go_at_call 38; refine (c_unless _ _ _).mono ?_; rintro e w' ⟨rfl, rfl⟩) | (go_at_call 36; refine (c_firstOf_two _ _ w1 _).mono ?_; rintro e w2 ⟨rfl, b2⟩))
        go_ret2
        rw [HR.out, HC.out]
        exact ⟨_, rfl, World.ownsRow_nil _ _ _ _, bstep b1 b2⟩

end Go.Proofs.YtbdopmcjoncelaaGreatDoor
