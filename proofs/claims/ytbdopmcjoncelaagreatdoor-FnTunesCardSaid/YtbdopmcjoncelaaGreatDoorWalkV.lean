/-
  Backward and Inverted, in the reference and in the program.
-/
import Derived.Test.YtbdopmcjoncelaaGreatDoorWalkU
import Derived.Test.YtbdopmcjoncelaaGreatDoorWalkS
import Derived.Test.YtbdopmcjoncelaaGreatDoorPure
import Derived.Test.YtbdopmcjoncelaaGreatDoorWalkN
namespace Go.Proofs.YtbdopmcjoncelaaGreatDoor
open Go.RowKit
set_option linter.unusedVariables false
set_option linter.unusedSimpArgs false
set_option maxRecDepth 4000

theorem okN_and_inv {s : Int} {p : Int × Int} (h1 : 0 ≤ p.1) (h2 : p.1 ≤ 199) : okN (invG s p) = inB (2 * s - p.2) 0 47 := by
  have : inB p.1 0 199 = true := inB_iff.2 ⟨h1, h2⟩
  unfold okN invG; simp only [this, Bool.true_and]

set_option maxHeartbeats 400000 in
theorem c_specBackward (A : Option Addr) (c : Nat) (l : List (Int × Int)) (w : World) (h : At2 .i16 .i8 w A l) (hw : Wf l) (hn : l.length ≤ 1073741824) :
    Calls Tryz.prog 17 #[.slice A l.length c] w fun e w' => ∃ v, e = .returned (.tuple #[v, .int .i64 (cBack l)]) ∧ Own2 .i16 .i8 40 w' w.heap.size v (rBack l) ∧ Below w.heap.size w w' := by
  have hu := Tryz.underlying40
  rcases hok : okT l with _ | _
  · have HC := Lib.hid (show cBack l = 1 by unfold cBack; rw [hok]; rfl)
    have HR := Lib.hid (show rBack l = [] by unfold rBack; rw [hok]; rfl)
    go_enter Tryz.func17, Tryz.ntmps17
    go_wp2_with fail
    refine (c_l01Ok A c l w h hw hn).mono ?_
    rintro e w1 ⟨rfl, b1⟩
    rw [hok]
    go_wp2
    go_ret2
    rw [HR.out, HC.out]
    exact ⟨_, rfl, Own2.lit0 b1.size, balloc b1 _⟩
  · have HC := Lib.hid (show cBack l = 0 by unfold cBack; rw [hok]; rfl)
    have HR := Lib.hid (show rBack l = sortU (l.map (backG (lengthL l))) by unfold rBack; rw [hok]; rfl)
    have hbd := lengthL_bd hok
    have hll := okT_len hok
    have htop := Lib.hid (fun i (hi : i < l.length) => last_top hok hi)
    obtain ⟨L, hL⟩ : ∃ L, lengthL l = L := ⟨_, rfl⟩
    have HL := Lib.hid hL
    rw [hL] at HR hbd htop
    clear hL
    have hw1 : IntKind.i64.wrap (L - 1) = L - 1 := IntWalk.i64_in _ (by omega)
    have hw2 : IntKind.i16.wrap (L - 1) = L - 1 := IntWalk.i16_in _ (by omega)
    go_enter Tryz.func17, Tryz.ntmps17
    go_wp2_with fail
    refine (c_l01Ok A c l w h hw hn).mono ?_
    rintro e w1 ⟨rfl, b1⟩
    rw [hok]
    go_wp2_with fail
    refine (c_l01Length A c l _ (h.below b1) hw hn).mono ?_
    rintro e w' ⟨rfl, rfl⟩
    rw [HL.out]
    go_wp2
    go_loopw [5, 6] (fun v i w' => ∃ (k : Nat) (A' : Option Addr) (c' : Nat), i = .int .i64 (k : Int) ∧ v = .slice A' ((l.take k).map (backG L)).length c' ∧ k ≤ l.length ∧ Own2 .i16 .i8 40 w' w.heap.size v ((l.take k).map (backG L)) ∧ Below w.heap.size w w') (fun _ i _ => l.length - (intOf i).toNat)
    case atStart => exact ⟨0, _, _, rfl, rfl, by omega, Own2.lit0 b1.size, balloc b1 _⟩
    case round =>
      obtain ⟨k, A1, c1, rfl, rfl, hk, hown, hb⟩ := hrel
      have HO := Lib.hid hown
      clear hown
      by_cases hlt : k < l.length
      · obtain ⟨b, off, hAe, hbl, hc⟩ := (h.below hb).get (by omega)
        subst hAe
        obtain ⟨m1, m2, m3, m4⟩ := okT_note hok hlt
        have mt := htop.out k hlt
        have x1 : ∀ x : After wr, _ := fun x => (x.cell hbl).trans (hc k hlt).1
        have x2 : ∀ x : After wr, _ := fun x => (x.cell hbl).trans (hc k hlt).2
        clear hc
        have hw4 : IntKind.i16.wrap (L - 1 - l[k].1) = L - 1 - l[k].1 := IntWalk.i16_in _ (by omega)
        have HT := Lib.hid (show (l.take (k + 1)).map (backG L) = (l.take k).map (backG L) ++ [(L - 1 - l[k].1, l[k].2)] by rw [List.take_succ_eq_append_getElem hlt, List.map_append]; rfl)
        have hlen2 : ((l.take k).map (backG L)).length ≤ 1073741824 := by rw [List.length_map, List.length_take]; omega
        obtain ⟨M, hM⟩ : ∃ M, (l.take k).map (backG L) = M := ⟨_, rfl⟩
        rw [hM] at HT hlen2 HO ⊢
        clear hM
        go_wp2
        refine region_tail1 14 _ rfl rfl (fun _ _ _ _ h => h) (by kernel_rfl) (by kernel_rfl) ?_
        simp only [Nat.reduceSub, List.take_succ_cons, List.take_zero, List.drop_succ_cons, List.drop_zero, Act.put, Act.eval, List.setIfInBounds_toArray, List.set_cons_zero, List.set_cons_succ, List.getD_eq_getElem?_getD, Array.getD_eq_getD_getElem?, List.getElem?_toArray, List.getElem?_cons_zero, List.getElem?_cons_succ, Option.getD_some]
        repeat (go_big_quiet_step (fail))
        refine wpQuiet_nil ?_
        clear x1 x2
        intro w2 hb2
        have hown2 := (HO.out.below hb2).alloc (.cells #[.int .i16 (L - 1 - l[k].1), .int .i8 l[k].2] 40)
        have B2 := bstep hb hb2
        have B3 := balloc B2 (.cells #[.int .i16 (L - 1 - l[k].1), .int .i8 l[k].2] 40)
        have hbs := B3.size
        have z1 := cell_new w2 #[.int .i16 (L - 1 - l[k].1), .int .i8 l[k].2] 40 (i := 0) rfl
        have z2 := cell_new w2 #[.int .i16 (L - 1 - l[k].1), .int .i8 l[k].2] 40 (i := 1) rfl
        go_wp2_with (at_builtin; refine append_pair rfl (.tmp 22) (.tmp 36) 24 rfl 40 .i16 .i8 4 Tryz.underlying24 info_Note (by decide) w.heap.size _ _ rfl hown2 _ _ (L - 1 - l[k].1, l[k].2) rfl z1 z2 hlen2 hbs ?_; intro A2 c2 w3 ho3 hg3)
        have B4 := bgrown B3 hg3 (fun j hj => hown2.low hj)
        go_roundw
        case rel => exact ⟨k + 1, A2, c2, by go_num, by rw [HT.out, List.length_append]; rfl, by omega, by rw [HT.out]; rw [List.length_append] at ho3; exact ho3, B4⟩
        case measure => simp [intOf]; omega
      · obtain rfl : k = l.length := by omega
        rw [List.take_length] at HO ⊢
        have hML : (l.map (backG L)).length ≤ 536870912 := by rw [List.length_map]; omega
        obtain ⟨M, hM⟩ : ∃ M, l.map (backG L) = M := ⟨_, rfl⟩
        rw [hM] at HR hML HO ⊢
        go_wp2_with fail
        refine (c_l01Sorted A1 c1 M _ HO.out.at_ hML).mono ?_
        rintro e w5 ⟨g5, c5, rfl, o5, b5⟩
        have O5 := Lib.hid (o5.base_le hb.size)
        clear o5
        go_wp2
        go_ret2
        rw [HR.out, HC.out]
        exact ⟨_, rfl, O5.out, bstep hb b5⟩

set_option maxHeartbeats 400000 in
theorem c_implBackward (A : Option Addr) (c : Nat) (l : List (Int × Int)) (w : World) (h : At2 .i16 .i8 w A l) (hw : Wf l) (hn : l.length ≤ 1073741824) :
    Calls Tryz.prog 16 #[.slice A l.length c] w fun e w' => ∃ v, e = .returned (.tuple #[v, .int .i64 (cBack l)]) ∧ Own2 .i16 .i8 40 w' w.heap.size v (rBack l) ∧ Below w.heap.size w w' := by
  rcases hok : okT l with _ | _
  all_goals
    have HC := Lib.hid (show cBack l = (if okT l then 0 else 1) from rfl)
    have HR := Lib.hid (show rBack l = (if okT l then sortU (l.map (backG (lengthL l))) else []) from rfl)
    rw [hok] at HC HR
    have B1 := balloc (Below.refl _ w) (.cells #[.slice A l.length c] 25)
    have V1 := Lib.hid (Var.new w #[.slice A l.length c] 25)
    go_enter Tryz.func16, Tryz.ntmps16
    go_upto_region 1 with fail
    obtain ⟨b0, hb0⟩ : ∃ b, w.heap.size = b := ⟨_, rfl⟩
    have HB0 := Lib.hid hb0
    rw [hb0] at V1 ⊢
    clear hb0
    obtain ⟨w0, hw0⟩ : ∃ u, w.alloc (.cells #[.slice A l.length c] 25) = u := ⟨_, rfl⟩
    rw [hw0] at V1 B1 ⊢
    clear hw0
    have hcell0 := V1.out.cell (i := 0) rfl
    go_wp2_with fail
    refine (c_tuneCode_one A c l w0 _ (h.below B1) hw hn).mono ?_
    rintro e w1 ⟨rfl, b1⟩
    rw [hok]
    clear hcell0
    have B2 := bstep B1 b1
    have hcell := (V1.out.below b1).cell (i := 0) rfl
    have HCELL := Lib.hid hcell
  · go_wp2
    go_ret2
    rw [HR.out, HC.out]
    exact ⟨_, rfl, World.ownsRow_nil _ _ _ _, B2⟩
  · have hbd := lengthL_bd hok
    have HB := Lib.hid (movB_back hok)
    have HM := Lib.hid (movR_back hok)
    go_wp2_with fail
    refine (c_changedBack b0 A c l A c l _ (h.below B2) hok ⟨HCELL.out, h.below B2⟩ ⟨hbd, hw, hn⟩).mono ?_
    rintro e w4 ⟨A4, c4, rfl, o4, b4⟩
    rw [HM.out] at o4 ⊢
    rw [HB.out]
    have O4 := Lib.hid (o4.base_le B2.size)
    clear o4
    go_wp2
    go_ret2
    rw [HR.out, HC.out]
    exact ⟨_, rfl, O4.out, bstep B2 b4⟩
set_option maxHeartbeats 800000 in
theorem c_specInverted (A : Option Addr) (c : Nat) (l : List (Int × Int)) (s : Int) (w : World) (h : At2 .i16 .i8 w A l) (hw : Wf l) (hn : l.length ≤ 1073741824) (hs : -9223372036854775808 ≤ s ∧ s ≤ 9223372036854775807) :
    Calls Tryz.prog 23 #[.slice A l.length c, .int .i64 s] w fun e w' => ∃ v, e = .returned (.tuple #[v, .int .i64 (cMove l (inB s 0 47) 4 (invG s))]) ∧ Own2 .i16 .i8 40 w' w.heap.size v (rSort l (inB s 0 47) 4 (invG s)) ∧ Below w.heap.size w w' := by
  have hu := Tryz.underlying40
  rcases hok : okT l with _ | _
  · have HC := Lib.hid (cMove_no (b := (inB s 0 47)) (bad := 4) (g := (invG s)) hok)
    have HR := Lib.hid (show rSort l (inB s 0 47) 4 (invG s) = [] by unfold rSort; rw [rMove_no hok]; rfl)
    go_enter Tryz.func23, Tryz.ntmps23
    go_wp2_with fail
    refine (c_l01Ok A c l w h hw hn).mono ?_
    rintro e w1 ⟨rfl, b1⟩
    rw [hok]
    go_wp2
    go_ret2
    rw [HR.out, HC.out]
    exact ⟨_, rfl, Own2.lit0 b1.size, balloc b1 _⟩
  · rcases hin : inB s 0 47 with _ | _
    · have HC := Lib.hid (cMove_bad (bad := 4) (g := (invG s)) hok)
      have HR := Lib.hid (show rSort l false 4 (invG s) = [] by unfold rSort; rw [rMove_bad]; rfl)
      go_enter Tryz.func23, Tryz.ntmps23
      go_wp2_with fail
      refine (c_l01Ok A c l w h hw hn).mono ?_
      rintro e w1 ⟨rfl, b1⟩
      rw [hok]
      go_wp2_with (go_at_call 43; refine (c_l00In _ _ _ _).mono ?_; rintro e w' ⟨rfl, rfl⟩; rw [hin])
      go_ret2
      rw [HR.out, HC.out]
      exact ⟨_, rfl, Own2.lit0 b1.size, balloc b1 _⟩
    · have hsb := inB_iff.1 hin
      have hll := okT_len hok
      have HC0 := Lib.hid (cMove_ok (bad := 4) (g := (invG s)) hok)
      have HR0 := Lib.hid (show rSort l true 4 (invG s) = sortU (movR (invG s) l) by unfold rSort; rw [rMove_ok hok])
      go_enter Tryz.func23, Tryz.ntmps23
      go_wp2_with fail
      refine (c_l01Ok A c l w h hw hn).mono ?_
      rintro e w1 ⟨rfl, b1⟩
      rw [hok]
      go_wp2_with fail
      refine (c_l00In _ _ _ _).mono ?_
      rintro e w' ⟨rfl, rfl⟩
      rw [hin]
      go_wp2
      go_loopw [6, 7] (fun v i w' => ∃ (k : Nat) (A' : Option Addr) (c' : Nat), i = .int .i64 (k : Int) ∧ v = .slice A' ((l.take k).map (invG s)).length c' ∧ k ≤ l.length ∧ (∀ i (hi : i < l.length), i < k → okN ((invG s) l[i]) = true) ∧ Own2 .i16 .i8 40 w' w.heap.size v ((l.take k).map (invG s)) ∧ Below w.heap.size w w') (fun _ i _ => l.length - (intOf i).toNat)
      case atStart => exact ⟨0, _, _, rfl, rfl, by omega, fun _ _ h => absurd h (by omega), Own2.lit0 b1.size, balloc b1 _⟩
      case round =>
        obtain ⟨k, A1, c1, rfl, rfl, hk, hz, hown, hb⟩ := hrel
        have HZ := Lib.hid hz
        have HO := Lib.hid hown
        clear hown hz
        by_cases hlt : k < l.length
        · obtain ⟨b, off, hAe, hbl, hc⟩ := (h.below hb).get (by omega)
          subst hAe
          obtain ⟨m1, m2, m3, m4⟩ := okT_note hok hlt
          have y1 := (hc k hlt).1
          have y2 := (hc k hlt).2
          clear hc
          have hw0 : IntKind.i64.wrap (2 * s) = 2 * s := IntWalk.i64_in _ (by omega)
          have hw1 : IntKind.i64.wrap (2 * s - l[k].2) = 2 * s - l[k].2 := IntWalk.i64_in _ (by omega)
          have hon : okN ((invG s) l[k]) = inB (2 * s - l[k].2) 0 47 := by
            rw [okN_and_inv m1 m2]
          rcases hx : inB (2 * s - l[k].2) 0 47 with _ | _
          · rw [hx] at hon
            have HB := Lib.hid (movB_bad hlt hon)
            have HR := Lib.hid (show sortU (movR (invG s) l) = [] by unfold movR; rw [HB.out]; rfl)
            have HX := Lib.hid hx
            clear hon hx
            go_wp2_with fail
            refine (c_l00In _ _ _ _).mono ?_
            rintro e w' ⟨rfl, rfl⟩
            rw [HX.out]
            go_wp2
            go_ret2
            rw [HR0.out, HC0.out, HR.out, HB.out]
            have hsz := hb.size
            exact ⟨_, rfl, Own2.lit0 hsz, balloc hb _⟩
          · rw [hx] at hon
            have HON := Lib.hid hon
            have HX := Lib.hid hx
            have hxb := inB_iff.1 hx
            clear hon hx
            have hw4 : IntKind.i8.wrap (2 * s - l[k].2) = 2 * s - l[k].2 := IntWalk.i8_in _ (by omega)
            have HT := Lib.hid (show (l.take (k + 1)).map (invG s) = (l.take k).map (invG s) ++ [(l[k].1, 2 * s - l[k].2)] by rw [List.take_succ_eq_append_getElem hlt, List.map_append]; rfl)
            have hlen2 : ((l.take k).map (invG s)).length ≤ 1073741824 := by rw [List.length_map, List.length_take]; omega
            obtain ⟨M, hM⟩ : ∃ M, (l.take k).map (invG s) = M := ⟨_, rfl⟩
            rw [hM] at HT hlen2 HO ⊢
            clear hM
            have hown2 := HO.out.alloc (.cells #[.int .i16 l[k].1, .int .i8 (2 * s - l[k].2)] 40)
            have B3 := balloc hb (.cells #[.int .i16 l[k].1, .int .i8 (2 * s - l[k].2)] 40)
            have hbs := B3.size
            have z1 := cell_new wr #[.int .i16 l[k].1, .int .i8 (2 * s - l[k].2)] 40 (i := 0) rfl
            have z2 := cell_new wr #[.int .i16 l[k].1, .int .i8 (2 * s - l[k].2)] 40 (i := 1) rfl
            go_wp2_with fail
            refine (c_l00In _ _ _ _).mono ?_
            rintro e w' ⟨rfl, rfl⟩
            rw [HX.out]
            go_wp2_with (at_builtin; refine append_pair rfl (.tmp 37) (.tmp 46) 24 rfl 40 .i16 .i8 4 Tryz.underlying24 info_Note (by decide) w.heap.size _ _ rfl hown2 _ _ (l[k].1, 2 * s - l[k].2) rfl z1 z2 hlen2 hbs ?_; intro A2 c2 w3 ho3 hg3)
            have B4 := bgrown B3 hg3 (fun j hj => hown2.low hj)
            go_roundw
            case rel =>
              refine ⟨k + 1, A2, c2, by go_num, by rw [HT.out, List.length_append]; rfl, by omega, fun i hi hik => ?_, by rw [HT.out]; rw [List.length_append] at ho3; exact ho3, B4⟩
              by_cases e : i = k
              · subst e; exact HON.out
              · exact HZ.out i hi (by omega)
            case measure => simp [intOf]; omega
        · obtain rfl : k = l.length := by omega
          have HB := Lib.hid (movB_all (g := (invG s)) (fun i hi => HZ.out i hi hi))
          have HR := Lib.hid (show movR (invG s) l = l.map (invG s) by unfold movR; rw [HB.out]; rfl)
          rw [List.take_length] at HO ⊢
          have hML : (l.map (invG s)).length ≤ 536870912 := by rw [List.length_map]; omega
          obtain ⟨M, hM⟩ : ∃ M, l.map (invG s) = M := ⟨_, rfl⟩
          rw [hM] at HR hML HO ⊢
          go_wp2_with fail
          refine (c_l01Sorted A1 c1 M _ HO.out.at_ hML).mono ?_
          rintro e w5 ⟨g5, c5, rfl, o5, b5⟩
          have O5 := Lib.hid (o5.base_le hb.size)
          clear o5
          go_wp2
          go_ret2
          rw [HR0.out, HC0.out, HR.out, HB.out]
          exact ⟨_, rfl, O5.out, bstep hb b5⟩

set_option maxHeartbeats 800000 in
theorem c_implInverted (A : Option Addr) (c : Nat) (l : List (Int × Int)) (s : Int) (w : World) (h : At2 .i16 .i8 w A l) (hw : Wf l) (hn : l.length ≤ 1073741824) (hs : -9223372036854775808 ≤ s ∧ s ≤ 9223372036854775807) :
    Calls Tryz.prog 22 #[.slice A l.length c, .int .i64 s] w fun e w' => ∃ v, e = .returned (.tuple #[v, .int .i64 (cMove l (inB s 0 47) 4 (invG s))]) ∧ Own2 .i16 .i8 40 w' w.heap.size v (rSort l (inB s 0 47) 4 (invG s)) ∧ Below w.heap.size w w' := by
  rcases hok : okT l with _ | _
  · have HC := Lib.hid (cMove_no (b := (inB s 0 47)) (bad := 4) (g := (invG s)) hok)
    have HR := Lib.hid (show rSort l (inB s 0 47) 4 (invG s) = [] by unfold rSort; rw [rMove_no hok]; rfl)
    rcases hz : (inB s 0 47) with _ | _
    all_goals
      rw [hz] at HC HR
      go_enter Tryz.func22, Tryz.ntmps22
      go_upto_region 1 with fail
      have H1 := Lib.hid (Var.new w #[.int .i64 s] 2)
      have B1 := balloc (Below.refl _ w) (.cells #[.int .i64 s] 2)
      obtain ⟨b0, hb0⟩ : ∃ b, w.heap.size = b := ⟨_, rfl⟩
      have HB0 := Lib.hid hb0
      rw [hb0] at H1 ⊢
      clear hb0
      obtain ⟨w1, hw1⟩ : ∃ w1, w.alloc (.cells #[.int .i64 s] 2) = w1 := ⟨_, rfl⟩
      rw [hw1] at H1 B1 ⊢
      clear hw1
      refine wp_region_held_drew (S := (Below w1.heap.size w1)) (by kernel_rfl) (bdrew (Below.refl _ _)) (fun hHeld => ?_)
      refine takeL (i := 0) (v := .slice A l.length c) rfl (by kernel_rfl) (by kernel_rfl) (by kernel_rfl) (fun _ _ _ h => h) (Or.inl ⟨by rfl, by intro w' hS; clear hS; go_simp⟩) hHeld ?_
      simp only [Act.put, List.setIfInBounds_toArray, List.set_cons_zero, List.set_cons_succ]
      refine takeL (i := 3) (v := .int .i64 s) rfl (by kernel_rfl) (by kernel_rfl) (by kernel_rfl) (fun _ _ _ h => h) (Or.inl ⟨by rfl, by intro w' hS; have y1 := (H1.out.below hS).cell (i := 0) rfl; clear hS; go_simp⟩) hHeld ?_
      simp only [Act.put, List.setIfInBounds_toArray, List.set_cons_zero, List.set_cons_succ]
      refine wpAnyH_ready (rs := [1]) (by kernel_rfl) (by simp) ?_
      refine readyL rfl (fun K hK => ?_) AllReadyH.nil
      go_simp
      have hOld := hHeld
      refine hK.out _ _ (balloc hHeld _) (fun hHeld => ?_)
      clear hK K
      try simp only [Act.put, List.setIfInBounds_toArray, List.set_cons_zero, List.set_cons_succ]
      refine wpAnyH_ready (rs := [2]) (by kernel_rfl) (by simp) ?_
      refine readyL rfl (fun K hK => ?_) AllReadyH.nil
      go_simp
      refine (c_tuneCode_one A c l _ _ (h.below (bstep B1 hOld)) hw hn).mono ?_
      rintro e w2 ⟨rfl, hbk⟩
      rw [hok]
      go_wp2_with fail
      refine hK.out _ _ (bstep hOld hbk) (fun hHeld => ?_)
      clear hK K
      try simp only [Act.put, List.setIfInBounds_toArray, List.set_cons_zero, List.set_cons_succ]
      clear hOld hbk
      refine wpAnyH_ready (rs := [4]) (by kernel_rfl) (by simp) ?_
      refine readyL rfl (fun K hK => ?_) AllReadyH.nil
      go_simp
      refine (c_isPitch _ _).mono ?_
      rintro e w' ⟨rfl, rfl⟩
      rw [hz]
      go_wp2_with fail
      refine hK.out _ _ (hHeld) (fun hHeld => ?_)
      clear hK K
      try simp only [Act.put, List.setIfInBounds_toArray, List.set_cons_zero, List.set_cons_succ]
      refine wpAnyH_ready (rs := [5]) (by kernel_rfl) (by simp) ?_
      refine readyL rfl (fun K hK => ?_) AllReadyH.nil
      go_simp
      refine (c_unless _ _ _).mono ?_
      rintro e w' ⟨rfl, rfl⟩
      go_wp2_with fail
      refine hK.out _ _ (hHeld) (fun hHeld => ?_)
      clear hK K
      try simp only [Act.put, List.setIfInBounds_toArray, List.set_cons_zero, List.set_cons_succ]
      refine wpAnyH_ready (rs := [6]) (by kernel_rfl) (by simp) ?_
      refine readyL rfl (fun K hK => ?_) AllReadyH.nil
      go_simp
      have hOld := hHeld
      refine hK.out _ _ (balloc hHeld _) (fun hHeld => ?_)
      clear hK K
      try simp only [Act.put, List.setIfInBounds_toArray, List.set_cons_zero, List.set_cons_succ]
      refine wpAnyH_ready (rs := [7]) (by kernel_rfl) (by simp) ?_
      refine readyL rfl (fun K hK => ?_) AllReadyH.nil
      go_simp
      refine (c_firstOf_two _ _ _ _).mono ?_
      rintro e w3 ⟨rfl, hbk⟩
      go_wp2_with fail
      refine hK.out _ _ (bstep hOld hbk) (fun hHeld => ?_)
      clear hK K
      try simp only [Act.put, List.setIfInBounds_toArray, List.set_cons_zero, List.set_cons_succ]
      clear hOld hbk
      refine wpAnyH_ready (rs := [8]) (by kernel_rfl) (by simp) ?_
      refine readyL rfl (fun K hK => ?_) AllReadyH.nil
      go_simp
      refine hK.out _ _ (hHeld) (fun hHeld => ?_)
      clear hK K
      try simp only [Act.put, List.setIfInBounds_toArray, List.set_cons_zero, List.set_cons_succ]
      refine wpAnyH_done (by kernel_rfl) ?_ _
      have B3 := bstep B1 hHeld
      have hcell := (H1.out.below hHeld).cell (i := 0) rfl
      clear hHeld
      clear hcell
      go_wp2
      go_ret2
      rw [HR.out, HC.out]
      exact ⟨_, rfl, World.ownsRow_nil _ _ _ _, B3⟩
  · rcases hin : inB s 0 47 with _ | _
    · have HC := Lib.hid (cMove_bad (bad := 4) (g := (invG s)) hok)
      have HR := Lib.hid (show rSort l false 4 (invG s) = [] by unfold rSort; rw [rMove_bad]; rfl)
      go_enter Tryz.func22, Tryz.ntmps22
      go_upto_region 1 with fail
      have H1 := Lib.hid (Var.new w #[.int .i64 s] 2)
      have B1 := balloc (Below.refl _ w) (.cells #[.int .i64 s] 2)
      obtain ⟨b0, hb0⟩ : ∃ b, w.heap.size = b := ⟨_, rfl⟩
      have HB0 := Lib.hid hb0
      rw [hb0] at H1 ⊢
      clear hb0
      obtain ⟨w1, hw1⟩ : ∃ w1, w.alloc (.cells #[.int .i64 s] 2) = w1 := ⟨_, rfl⟩
      rw [hw1] at H1 B1 ⊢
      clear hw1
      refine wp_region_held_drew (S := (Below w1.heap.size w1)) (by kernel_rfl) (bdrew (Below.refl _ _)) (fun hHeld => ?_)
      refine takeL (i := 0) (v := .slice A l.length c) rfl (by kernel_rfl) (by kernel_rfl) (by kernel_rfl) (fun _ _ _ h => h) (Or.inl ⟨by rfl, by intro w' hS; clear hS; go_simp⟩) hHeld ?_
      simp only [Act.put, List.setIfInBounds_toArray, List.set_cons_zero, List.set_cons_succ]
      refine takeL (i := 3) (v := .int .i64 s) rfl (by kernel_rfl) (by kernel_rfl) (by kernel_rfl) (fun _ _ _ h => h) (Or.inl ⟨by rfl, by intro w' hS; have y1 := (H1.out.below hS).cell (i := 0) rfl; clear hS; go_simp⟩) hHeld ?_
      simp only [Act.put, List.setIfInBounds_toArray, List.set_cons_zero, List.set_cons_succ]
      refine wpAnyH_ready (rs := [1]) (by kernel_rfl) (by simp) ?_
      refine readyL rfl (fun K hK => ?_) AllReadyH.nil
      go_simp
      have hOld := hHeld
      refine hK.out _ _ (balloc hHeld _) (fun hHeld => ?_)
      clear hK K
      try simp only [Act.put, List.setIfInBounds_toArray, List.set_cons_zero, List.set_cons_succ]
      refine wpAnyH_ready (rs := [2]) (by kernel_rfl) (by simp) ?_
      refine readyL rfl (fun K hK => ?_) AllReadyH.nil
      go_simp
      refine (c_tuneCode_one A c l _ _ (h.below (bstep B1 hOld)) hw hn).mono ?_
      rintro e w2 ⟨rfl, hbk⟩
      rw [hok]
      go_wp2_with fail
      refine hK.out _ _ (bstep hOld hbk) (fun hHeld => ?_)
      clear hK K
      try simp only [Act.put, List.setIfInBounds_toArray, List.set_cons_zero, List.set_cons_succ]
      clear hOld hbk
      refine wpAnyH_ready (rs := [4]) (by kernel_rfl) (by simp) ?_
      refine readyL rfl (fun K hK => ?_) AllReadyH.nil
      go_simp
      refine (c_isPitch _ _).mono ?_
      rintro e w' ⟨rfl, rfl⟩
      rw [hin]
      go_wp2_with fail
      refine hK.out _ _ (hHeld) (fun hHeld => ?_)
      clear hK K
      try simp only [Act.put, List.setIfInBounds_toArray, List.set_cons_zero, List.set_cons_succ]
      refine wpAnyH_ready (rs := [5]) (by kernel_rfl) (by simp) ?_
      refine readyL rfl (fun K hK => ?_) AllReadyH.nil
      go_simp
      refine (c_unless _ _ _).mono ?_
      rintro e w' ⟨rfl, rfl⟩
      go_wp2_with fail
      refine hK.out _ _ (hHeld) (fun hHeld => ?_)
      clear hK K
      try simp only [Act.put, List.setIfInBounds_toArray, List.set_cons_zero, List.set_cons_succ]
      refine wpAnyH_ready (rs := [6]) (by kernel_rfl) (by simp) ?_
      refine readyL rfl (fun K hK => ?_) AllReadyH.nil
      go_simp
      have hOld := hHeld
      refine hK.out _ _ (balloc hHeld _) (fun hHeld => ?_)
      clear hK K
      try simp only [Act.put, List.setIfInBounds_toArray, List.set_cons_zero, List.set_cons_succ]
      refine wpAnyH_ready (rs := [7]) (by kernel_rfl) (by simp) ?_
      refine readyL rfl (fun K hK => ?_) AllReadyH.nil
      go_simp
      refine (c_firstOf_two _ _ _ _).mono ?_
      rintro e w3 ⟨rfl, hbk⟩
      go_wp2_with fail
      refine hK.out _ _ (bstep hOld hbk) (fun hHeld => ?_)
      clear hK K
      try simp only [Act.put, List.setIfInBounds_toArray, List.set_cons_zero, List.set_cons_succ]
      clear hOld hbk
      refine wpAnyH_ready (rs := [8]) (by kernel_rfl) (by simp) ?_
      refine readyL rfl (fun K hK => ?_) AllReadyH.nil
      go_simp
      refine hK.out _ _ (hHeld) (fun hHeld => ?_)
      clear hK K
      try simp only [Act.put, List.setIfInBounds_toArray, List.set_cons_zero, List.set_cons_succ]
      refine wpAnyH_done (by kernel_rfl) ?_ _
      have B3 := bstep B1 hHeld
      have hcell := (H1.out.below hHeld).cell (i := 0) rfl
      clear hHeld
      clear hcell
      go_wp2
      go_ret2
      rw [HR.out, HC.out]
      exact ⟨_, rfl, World.ownsRow_nil _ _ _ _, B3⟩
    · have HR := Lib.hid (show rSort l true 4 (invG s) = sortU (movR (invG s) l) by unfold rSort; rw [rMove_ok hok])
      have hsb := inB_iff.1 hin
      have HC0 := Lib.hid (cMove_ok (bad := 4) (g := (invG s)) hok)
      obtain ⟨z, hz⟩ : ∃ z : Int, (if movB (invG s) l then 0 else 4) = z := ⟨_, rfl⟩
      have HZ := Lib.hid hz
      clear hz
      rw [HZ.out] at HC0
      have HC := HC0
      go_enter Tryz.func22, Tryz.ntmps22
      go_upto_region 1 with fail
      have H1 := Lib.hid (Var.new w #[.int .i64 s] 2)
      have B1 := balloc (Below.refl _ w) (.cells #[.int .i64 s] 2)
      obtain ⟨b0, hb0⟩ : ∃ b, w.heap.size = b := ⟨_, rfl⟩
      have HB0 := Lib.hid hb0
      rw [hb0] at H1 ⊢
      clear hb0
      obtain ⟨w1, hw1⟩ : ∃ w1, w.alloc (.cells #[.int .i64 s] 2) = w1 := ⟨_, rfl⟩
      rw [hw1] at H1 B1 ⊢
      clear hw1
      refine wp_region_held_drew (S := (Below w1.heap.size w1)) (by kernel_rfl) (bdrew (Below.refl _ _)) (fun hHeld => ?_)
      refine takeL (i := 0) (v := .slice A l.length c) rfl (by kernel_rfl) (by kernel_rfl) (by kernel_rfl) (fun _ _ _ h => h) (Or.inl ⟨by rfl, by intro w' hS; clear hS; go_simp⟩) hHeld ?_
      simp only [Act.put, List.setIfInBounds_toArray, List.set_cons_zero, List.set_cons_succ]
      refine takeL (i := 3) (v := .int .i64 s) rfl (by kernel_rfl) (by kernel_rfl) (by kernel_rfl) (fun _ _ _ h => h) (Or.inl ⟨by rfl, by intro w' hS; have y1 := (H1.out.below hS).cell (i := 0) rfl; clear hS; go_simp⟩) hHeld ?_
      simp only [Act.put, List.setIfInBounds_toArray, List.set_cons_zero, List.set_cons_succ]
      refine wpAnyH_ready (rs := [1]) (by kernel_rfl) (by simp) ?_
      refine readyL rfl (fun K hK => ?_) AllReadyH.nil
      go_simp
      have hOld := hHeld
      refine hK.out _ _ (balloc hHeld _) (fun hHeld => ?_)
      clear hK K
      try simp only [Act.put, List.setIfInBounds_toArray, List.set_cons_zero, List.set_cons_succ]
      refine wpAnyH_ready (rs := [2]) (by kernel_rfl) (by simp) ?_
      refine readyL rfl (fun K hK => ?_) AllReadyH.nil
      go_simp
      refine (c_tuneCode_one A c l _ _ (h.below (bstep B1 hOld)) hw hn).mono ?_
      rintro e w2 ⟨rfl, hbk⟩
      rw [hok]
      go_wp2_with fail
      refine hK.out _ _ (bstep hOld hbk) (fun hHeld => ?_)
      clear hK K
      try simp only [Act.put, List.setIfInBounds_toArray, List.set_cons_zero, List.set_cons_succ]
      clear hOld hbk
      refine wpAnyH_ready (rs := [4]) (by kernel_rfl) (by simp) ?_
      refine readyL rfl (fun K hK => ?_) AllReadyH.nil
      go_simp
      refine (c_isPitch _ _).mono ?_
      rintro e w' ⟨rfl, rfl⟩
      rw [hin]
      go_wp2_with fail
      refine hK.out _ _ (hHeld) (fun hHeld => ?_)
      clear hK K
      try simp only [Act.put, List.setIfInBounds_toArray, List.set_cons_zero, List.set_cons_succ]
      refine wpAnyH_ready (rs := [5]) (by kernel_rfl) (by simp) ?_
      refine readyL rfl (fun K hK => ?_) AllReadyH.nil
      go_simp
      refine (c_unless _ _ _).mono ?_
      rintro e w' ⟨rfl, rfl⟩
      go_wp2_with fail
      refine hK.out _ _ (hHeld) (fun hHeld => ?_)
      clear hK K
      try simp only [Act.put, List.setIfInBounds_toArray, List.set_cons_zero, List.set_cons_succ]
      refine wpAnyH_ready (rs := [6]) (by kernel_rfl) (by simp) ?_
      refine readyL rfl (fun K hK => ?_) AllReadyH.nil
      go_simp
      have hOld := hHeld
      refine hK.out _ _ (balloc hHeld _) (fun hHeld => ?_)
      clear hK K
      try simp only [Act.put, List.setIfInBounds_toArray, List.set_cons_zero, List.set_cons_succ]
      refine wpAnyH_ready (rs := [7]) (by kernel_rfl) (by simp) ?_
      refine readyL rfl (fun K hK => ?_) AllReadyH.nil
      go_simp
      refine (c_firstOf_two _ _ _ _).mono ?_
      rintro e w3 ⟨rfl, hbk⟩
      go_wp2_with fail
      refine hK.out _ _ (bstep hOld hbk) (fun hHeld => ?_)
      clear hK K
      try simp only [Act.put, List.setIfInBounds_toArray, List.set_cons_zero, List.set_cons_succ]
      clear hOld hbk
      refine wpAnyH_ready (rs := [8]) (by kernel_rfl) (by simp) ?_
      refine readyL rfl (fun K hK => ?_) AllReadyH.nil
      go_simp
      refine hK.out _ _ (hHeld) (fun hHeld => ?_)
      clear hK K
      try simp only [Act.put, List.setIfInBounds_toArray, List.set_cons_zero, List.set_cons_succ]
      refine wpAnyH_done (by kernel_rfl) ?_ _
      have B3 := bstep B1 hHeld
      have hcell := (H1.out.below hHeld).cell (i := 0) rfl
      clear hHeld
      have HCELL := Lib.hid hcell
      clear hcell
      go_wp2_with fail
      refine (c_changedInv b0 s A c l _ (h.below B3) hok HCELL.out (by omega)).mono ?_
      rintro e w4 ⟨A4, c4, rfl, o4, b4⟩
      rw [HZ.out]
      have O4 := Lib.hid (o4.base_le B3.size)
      clear o4
      go_wp2
      go_ret2
      rw [HR.out, HC.out]
      exact ⟨_, rfl, O4.out, bstep B3 b4⟩

end Go.Proofs.YtbdopmcjoncelaaGreatDoor
