/-
  Stretched, in the reference and in the program.
-/
import Derived.Test.YtdjooookfldamaaWalkO
import Derived.Test.YtdjooookfldamaaWalkN
import Derived.Test.YtdjooookfldamaaWalkF
namespace Go.Proofs.Ytdjooookfldamaa
open Go.RowKit
set_option linter.unusedVariables false
set_option linter.unusedSimpArgs false
set_option maxRecDepth 4000

theorem okN_str_no {n d : Int} {p : Int × Int} (h : ¬ (p.1 * n) % d = 0) : okN (strG n d p) = false := by rw [okN_inB, strG_no h]; rfl
theorem okN_str_big {n d : Int} {p : Int × Int} (h : (p.1 * n) % d = 0) (hb : 200 ≤ p.1 * n / d) : okN (strG n d p) = false := by rw [okN_inB, strG_yes h, inB_not.2 (by omega)]; rfl
theorem okN_str_yes {n d : Int} {p : Int × Int} (h : (p.1 * n) % d = 0) (h0 : 0 ≤ p.1 * n / d) (hb : p.1 * n / d < 200) (hp : 0 ≤ p.2 ∧ p.2 ≤ 47) : okN (strG n d p) = true := by
  rw [okN_inB, strG_yes h, strG_2, inB_iff.2 (by omega), inB_iff.2 (by omega)]; rfl
theorem strG_at {n d : Int} {p : Int × Int} (h : (p.1 * n) % d = 0) : strG n d p = (p.1 * n / d, p.2) := by unfold strG; rw [if_pos h]

set_option maxHeartbeats 800000 in
theorem c_specStretched (A : Option Addr) (c : Nat) (l : List (Int × Int)) (n d : Int) (w : World) (h : At2 .i16 .i8 w A l) (hw : Wf l) (hn : l.length ≤ 1073741824) (hbn : -9223372036854775808 ≤ n ∧ n ≤ 9223372036854775807) (hbd : -9223372036854775808 ≤ d ∧ d ≤ 9223372036854775807) :
    Calls Try.prog 16 #[.slice A l.length c, .int .i64 n, .int .i64 d] w fun e w' => ∃ v, e = .returned (.tuple #[v, .int .i64 (cMove l (inB n 1 100 && inB d 1 100) 2 (strG n d))]) ∧ Own2 .i16 .i8 45 w' w.heap.size v (rMove l (inB n 1 100 && inB d 1 100) 2 (strG n d)) ∧ Below w.heap.size w w' := by
  have hu := Try.underlying45
  rcases hok : okT l with _ | _
  · have HC := Lib.hid (cMove_no (b := (inB n 1 100 && inB d 1 100)) (bad := 2) (g := (strG n d)) hok)
    have HR := Lib.hid (rMove_no (b := (inB n 1 100 && inB d 1 100)) (bad := 2) (g := (strG n d)) hok)
    go_enter Try.func16, Try.ntmps16
    go_wp2_with fail
    refine (c_l01Ok A c l w h hw hn).mono ?_
    rintro e w1 ⟨rfl, b1⟩
    rw [hok]
    go_wp2
    go_ret2
    rw [HR.out, HC.out]
    exact ⟨_, rfl, Own2.lit0 b1.size, balloc b1 _⟩
  · rcases e1 : inB n 1 100 with _ | _
    · have HC := Lib.hid (show cMove l (false && inB d 1 100) 2 (strG n d) = 2 from cMove_bad (bad := 2) (g := (strG n d)) hok)
      have HR := Lib.hid (show rMove l (false && inB d 1 100) 2 (strG n d) = [] from rMove_bad (l := l) (bad := 2) (g := (strG n d)))
      go_enter Try.func16, Try.ntmps16
      go_wp2_with fail
      refine (c_l01Ok A c l w h hw hn).mono ?_
      rintro e w1 ⟨rfl, b1⟩
      rw [hok]
      go_wp2_with fail
      refine (c_l00In _ _ _ _).mono ?_
      rintro e w' ⟨rfl, rfl⟩
      rw [e1]
      go_wp2
      go_ret2
      rw [HR.out, HC.out]
      exact ⟨_, rfl, Own2.lit0 b1.size, balloc b1 _⟩
    · rcases e2 : inB d 1 100 with _ | _
      · have HC := Lib.hid (show cMove l (true && false) 2 (strG n d) = 2 from cMove_bad (bad := 2) (g := (strG n d)) hok)
        have HR := Lib.hid (show rMove l (true && false) 2 (strG n d) = [] from rMove_bad (l := l) (bad := 2) (g := (strG n d)))
        go_enter Try.func16, Try.ntmps16
        go_wp2_with fail
        refine (c_l01Ok A c l w h hw hn).mono ?_
        rintro e w1 ⟨rfl, b1⟩
        rw [hok]
        go_wp2_with fail
        refine (c_l00In _ _ _ _).mono ?_
        rintro e w' ⟨rfl, rfl⟩
        rw [e1]
        go_wp2_with fail
        refine (c_l00In _ _ _ _).mono ?_
        rintro e w' ⟨rfl, rfl⟩
        rw [e2]
        go_wp2
        go_ret2
        rw [HR.out, HC.out]
        exact ⟨_, rfl, Own2.lit0 b1.size, balloc b1 _⟩
      · have HC0 := Lib.hid (show cMove l (true && true) 2 (strG n d) = (if movB (strG n d) l then 0 else 4) from cMove_ok (bad := 2) (g := (strG n d)) hok)
        have HR0 := Lib.hid (show rMove l (true && true) 2 (strG n d) = movR (strG n d) l from rMove_ok (l := l) (bad := 2) (g := (strG n d)) hok)
        obtain ⟨n1, n2⟩ := inB_iff.1 e1
        obtain ⟨d1, d2⟩ := inB_iff.1 e2
        have hlen := okT_len hok
        have hd0 : ¬ d = 0 := by omega
        go_enter Try.func16, Try.ntmps16
        go_wp2_with fail
        refine (c_l01Ok A c l w h hw hn).mono ?_
        rintro e w1 ⟨rfl, b1⟩
        rw [hok]
        go_wp2_with fail
        refine (c_l00In _ _ _ _).mono ?_
        rintro e w' ⟨rfl, rfl⟩
        rw [e1]
        go_wp2_with fail
        refine (c_l00In _ _ _ _).mono ?_
        rintro e w' ⟨rfl, rfl⟩
        rw [e2]
        go_wp2
        go_loopw [8, 9] (fun v i w' => ∃ (k : Nat) (A' : Option Addr) (c' : Nat), i = .int .i64 (k : Int) ∧ v = .slice A' ((l.take k).map (strG n d)).length c' ∧ k ≤ l.length ∧ (∀ i (hi : i < l.length), i < k → okN ((strG n d) l[i]) = true) ∧ Own2 .i16 .i8 45 w' w.heap.size v ((l.take k).map (strG n d)) ∧ Below w.heap.size w w') (fun _ i _ => l.length - (intOf i).toNat)
        case atStart => exact ⟨0, _, _, rfl, rfl, by omega, fun _ _ h => absurd h (by omega), Own2.lit0 b1.size, balloc b1 _⟩
        case round =>
          obtain ⟨k, A1, c1, rfl, rfl, hk, hz, hown, hb⟩ := hrel
          have HZ := Lib.hid hz
          have HO := Lib.hid hown
          clear hz hown
          by_cases hlt : k < l.length
          · obtain ⟨b, off, hAe, hbl, hc⟩ := (h.below hb).get (by omega)
            subst hAe
            obtain ⟨m1, m2, m3, m4⟩ := okT_note hok hlt
            have y1 := (hc k hlt).1
            have x1 : ∀ x : After wr, _ := fun x => (x.cell hbl).trans (hc k hlt).1
            have x2 : ∀ x : After wr, _ := fun x => (x.cell hbl).trans (hc k hlt).2
            clear hc
            obtain ⟨q, hq⟩ : ∃ q, l[k].1 * n = q := ⟨_, rfl⟩
            have hm := mul_bd ⟨m1, m2⟩ ⟨n1, n2⟩
            have hw1 : IntKind.i64.wrap (l[k].1 * n) = q := by rw [← hq]; exact IntWalk.i64_in _ (by omega)
            rw [hq] at hm
            by_cases hz : q % d = 0
            · have ht : Int.tmod q d = 0 := by rw [Int.tmod_eq_emod_of_nonneg hm.1]; exact hz
              obtain ⟨r, hr⟩ : ∃ r, q / d = r := ⟨_, rfl⟩
              have hv : Int.tdiv q d = r := by rw [← hr]; exact Int.tdiv_eq_ediv_of_nonneg hm.1
              have hle : r ≤ q := by rw [← hr]; exact Int.ediv_le_self _ hm.1
              have hge : 0 ≤ r := by rw [← hr]; exact Int.ediv_nonneg hm.1 (by omega)
              have hw2 : IntKind.i64.wrap r = r := IntWalk.i64_in _ (by omega)
              have hw3 : IntKind.i64.wrap 0 = 0 := IntWalk.i64_in _ (by omega)
              have hzz : (l[k].1 * n) % d = 0 := by rw [hq]; exact hz
              by_cases hbig : 200 ≤ r
              · have HB := Lib.hid (movB_bad hlt (okN_str_big hzz (by rw [hq, hr]; exact hbig)))
                have HR := Lib.hid (show movR (strG n d) l = [] by unfold movR; rw [HB.out]; rfl)
                have hdb : decide (200 ≤ r) = true := decide_eq_true hbig
                clear hzz hq hr hz
                go_wp2
                go_ret2
                rw [HR0.out, HC0.out, HR.out, HB.out]
                have hsz := hb.size
                exact ⟨_, rfl, Own2.lit0 hsz, balloc hb _⟩
              · have HON := Lib.hid (okN_str_yes hzz (by rw [hq, hr]; exact hge) (by rw [hq, hr]; omega) ⟨m3, m4⟩)
                have hdb : decide (200 ≤ r) = false := decide_eq_false hbig
                have hst : strG n d l[k] = (r, l[k].2) := by rw [strG_at hzz, hq, hr]
                have HT := Lib.hid (show (l.take (k + 1)).map (strG n d) = (l.take k).map (strG n d) ++ [(r, l[k].2)] by rw [List.take_succ_eq_append_getElem hlt, List.map_append, List.map_cons, List.map_nil, hst])
                have hlen2 : ((l.take k).map (strG n d)).length ≤ 1073741824 := by rw [List.length_map, List.length_take]; omega
                have hw4 : IntKind.i16.wrap r = r := IntWalk.i16_in _ (by omega)
                obtain ⟨L, hL⟩ : ∃ L, (l.take k).map (strG n d) = L := ⟨_, rfl⟩
                rw [hL] at HT hlen2 HO ⊢
                clear hzz hq hr hz hL hst
                go_wp2
                refine region_tail1 11 _ rfl rfl (fun _ _ _ _ h => h) (by kernel_rfl) (by kernel_rfl) ?_
                simp only [Nat.reduceSub, List.take_succ_cons, List.take_zero, List.drop_succ_cons, List.drop_zero, Act.put, Act.eval, List.setIfInBounds_toArray, List.set_cons_zero, List.set_cons_succ, List.getD_eq_getElem?_getD, Array.getD_eq_getD_getElem?, List.getElem?_toArray, List.getElem?_cons_zero, List.getElem?_cons_succ, Option.getD_some]
                repeat (go_big_quiet_step (fail))
                refine wpQuiet_nil ?_
                clear x1 x2
                intro w2 hb2
                have hown2 := (HO.out.below hb2).alloc (.cells #[.int .i16 r, .int .i8 l[k].2] 45)
                have B2 := bstep hb hb2
                have B3 := balloc B2 (.cells #[.int .i16 r, .int .i8 l[k].2] 45)
                have hbs := B3.size
                have z1 := cell_new w2 #[.int .i16 r, .int .i8 l[k].2] 45 (i := 0) rfl
                have z2 := cell_new w2 #[.int .i16 r, .int .i8 l[k].2] 45 (i := 1) rfl
                go_wp2_with (at_builtin; refine append_pair rfl (.tmp 50) (.tmp 61) 25 rfl 45 .i16 .i8 4 Try.underlying25 info_Note (by decide) w.heap.size _ _ rfl hown2 _ _ (r, l[k].2) rfl z1 z2 hlen2 hbs ?_; intro A2 c2 w3 ho3 hg3)
                have B4 := bgrown B3 hg3 (fun j hj => hown2.low hj)
                go_roundw
                case rel =>
                  refine ⟨k + 1, A2, c2, by go_num, by rw [HT.out, List.length_append]; rfl, by omega, fun i hi hik => ?_, by rw [HT.out]; rw [List.length_append] at ho3; exact ho3, B4⟩
                  by_cases e : i = k
                  · subst e; exact HON.out
                  · exact HZ.out i hi (by omega)
                case measure => simp [intOf]; omega
            · have hzz : ¬ (l[k].1 * n) % d = 0 := by rw [hq]; exact hz
              have HB := Lib.hid (movB_bad hlt (okN_str_no hzz))
              have HR := Lib.hid (show movR (strG n d) l = [] by unfold movR; rw [HB.out]; rfl)
              have ht : Int.tmod q d = q % d := by rw [Int.tmod_eq_emod_of_nonneg hm.1]
              have hle : q % d < d := Int.emod_lt_of_pos _ (by omega)
              have hge : 0 ≤ q % d := Int.emod_nonneg _ hd0
              have hw3 : IntKind.i64.wrap (q % d) = q % d := IntWalk.i64_in _ (by omega)
              clear hzz hq
              go_wp2
              go_ret2
              rw [HR0.out, HC0.out, HR.out, HB.out]
              have hsz := hb.size
              exact ⟨_, rfl, Own2.lit0 hsz, balloc hb _⟩
          · obtain rfl : k = l.length := by omega
            have HB := Lib.hid (movB_all (g := (strG n d)) (fun i hi => HZ.out i hi hi))
            have HR := Lib.hid (show movR (strG n d) l = (l.take l.length).map (strG n d) by unfold movR; rw [HB.out, List.take_length]; rfl)
            go_wp2
            go_ret2
            rw [HR0.out, HC0.out, HR.out, HB.out]
            exact ⟨_, rfl, HO.out, hb⟩

set_option maxHeartbeats 800000 in
theorem c_implStretched (A : Option Addr) (c : Nat) (l : List (Int × Int)) (n d : Int) (w : World) (h : At2 .i16 .i8 w A l) (hw : Wf l) (hn : l.length ≤ 1073741824) (hbn : -9223372036854775808 ≤ n ∧ n ≤ 9223372036854775807) (hbd : -9223372036854775808 ≤ d ∧ d ≤ 9223372036854775807) :
    Calls Try.prog 17 #[.slice A l.length c, .int .i64 n, .int .i64 d] w fun e w' => ∃ v, e = .returned (.tuple #[v, .int .i64 (cMove l (inB n 1 100 && inB d 1 100) 2 (strG n d))]) ∧ Own2 .i16 .i8 45 w' w.heap.size v (rMove l (inB n 1 100 && inB d 1 100) 2 (strG n d)) ∧ Below w.heap.size w w' := by
  rcases hok : okT l with _ | _
  · have HC := Lib.hid (cMove_no (b := (inB n 1 100 && inB d 1 100)) (bad := 2) (g := (strG n d)) hok)
    have HR := Lib.hid (rMove_no (b := (inB n 1 100 && inB d 1 100)) (bad := 2) (g := (strG n d)) hok)
    rcases e1 : inB n 1 100 with _ | _
    · rw [e1] at HC HR
      go_enter Try.func17, Try.ntmps17
      go_upto_region 1 with fail
      have H1 := Lib.hid ((Var.new w #[.int .i64 n] 2).below (balloc (Below.refl _ _) (.cells #[.int .i64 d] 2)))
      have H2 := Lib.hid (Var.new (w.alloc (.cells #[.int .i64 n] 2)) #[.int .i64 d] 2)
      have B1 := balloc (balloc (Below.refl _ w) (.cells #[.int .i64 n] 2)) (.cells #[.int .i64 d] 2)
      have hsz : (w.alloc (.cells #[.int .i64 n] 2)).heap.size = w.heap.size + 1 := by simp
      rw [hsz] at H2
      clear hsz
      obtain ⟨b0, hb0⟩ : ∃ b, w.heap.size = b := ⟨_, rfl⟩
      have HB0 := Lib.hid hb0
      rw [hb0] at H1 H2 ⊢
      clear hb0
      obtain ⟨b5, hb5⟩ : ∃ b, b0 + 1 = b := ⟨_, rfl⟩
      rw [hb5] at H2 ⊢
      clear hb5
      obtain ⟨w1, hw1⟩ : ∃ w1, (w.alloc (.cells #[.int .i64 n] 2)).alloc (.cells #[.int .i64 d] 2) = w1 := ⟨_, rfl⟩
      rw [hw1] at H1 H2 B1 ⊢
      clear hw1
      refine wp_region_held_drew (S := (Below w1.heap.size w1)) (by kernel_rfl) (bdrew (Below.refl _ _)) (fun hHeld => ?_)
      refine takeL (i := 0) (v := .slice A l.length c) rfl (by kernel_rfl) (by kernel_rfl) (by kernel_rfl) (fun _ _ _ h => h) (Or.inl ⟨by rfl, by intro w' hS; clear hS; go_simp⟩) hHeld ?_
      simp only [Act.put, List.setIfInBounds_toArray, List.set_cons_zero, List.set_cons_succ]
      refine takeL (i := 3) (v := .int .i64 n) rfl (by kernel_rfl) (by kernel_rfl) (by kernel_rfl) (fun _ _ _ h => h) (Or.inl ⟨by rfl, by intro w' hS; have y1 := (H1.out.below hS).cell (i := 0) rfl; clear hS; go_simp⟩) hHeld ?_
      simp only [Act.put, List.setIfInBounds_toArray, List.set_cons_zero, List.set_cons_succ]
      refine wpAnyH_ready (rs := [1]) (by kernel_rfl) (by simp) ?_
      refine readyL rfl (fun K hK => ?_) AllReadyH.nil
      go_simp
      have hOld := hHeld
      refine hK.out _ _ (balloc hHeld _) (fun hHeld => ?_)
      clear hK K
      try simp only [Act.put, List.setIfInBounds_toArray, List.set_cons_zero, List.set_cons_succ]
      refine wpAnyH_ready (rs := [2]) (by kernel_rfl) (by simp) ?_
      refine readyL rfl (fun K hK => ?_) AllReadyH.nil
      go_simp
      refine (c_tuneCode_one A c l _ _ (h.below (bstep B1 hOld)) hw hn).mono ?_
      rintro e w2 ⟨rfl, hbk⟩
      rw [hok]
      go_wp2_with fail
      refine hK.out _ _ (bstep hOld hbk) (fun hHeld => ?_)
      clear hK K
      try simp only [Act.put, List.setIfInBounds_toArray, List.set_cons_zero, List.set_cons_succ]
      clear hOld hbk
      refine wpAnyH_ready (rs := [4]) (by kernel_rfl) (by simp) ?_
      refine readyL rfl (fun K hK => ?_) AllReadyH.nil
      go_simp
      refine (c_within _ _ _ _).mono ?_
      rintro e w' ⟨rfl, rfl⟩
      rw [e1]
      go_wp2_with fail
      refine hK.out _ _ (hHeld) (fun hHeld => ?_)
      clear hK K
      try simp only [Act.put, List.setIfInBounds_toArray, List.set_cons_zero, List.set_cons_succ]
      refine wpAnyH_ready (rs := [5]) (by kernel_rfl) (by simp) ?_
      refine readyL rfl (fun K hK => ?_) AllReadyH.nil
      go_simp
      refine hK.out _ _ (hHeld) (fun hHeld => ?_)
      clear hK K
      try simp only [Act.put, List.setIfInBounds_toArray, List.set_cons_zero, List.set_cons_succ]
      refine wpAnyH_ready (rs := [6]) (by kernel_rfl) (by simp) ?_
      refine readyL rfl (fun K hK => ?_) AllReadyH.nil
      go_simp
      refine hK.out _ _ (hHeld) (fun hHeld => ?_)
      clear hK K
      try simp only [Act.put, List.setIfInBounds_toArray, List.set_cons_zero, List.set_cons_succ]
      refine wpAnyH_ready (rs := [7]) (by kernel_rfl) (by simp) ?_
      refine readyL rfl (fun K hK => ?_) AllReadyH.nil
      go_simp
      refine hK.out _ _ (hHeld) (fun hHeld => ?_)
      clear hK K
      try simp only [Act.put, List.setIfInBounds_toArray, List.set_cons_zero, List.set_cons_succ]
      refine wpAnyH_ready (rs := [8]) (by kernel_rfl) (by simp) ?_
      refine readyL rfl (fun K hK => ?_) AllReadyH.nil
      go_simp
      refine hK.out _ _ (hHeld) (fun hHeld => ?_)
      clear hK K
      try simp only [Act.put, List.setIfInBounds_toArray, List.set_cons_zero, List.set_cons_succ]
      refine wpAnyH_ready (rs := [9]) (by kernel_rfl) (by simp) ?_
      refine readyL rfl (fun K hK => ?_) AllReadyH.nil
      go_simp
      refine (c_unless _ _ _).mono ?_
      rintro e w' ⟨rfl, rfl⟩
      go_wp2_with fail
      refine hK.out _ _ (hHeld) (fun hHeld => ?_)
      clear hK K
      try simp only [Act.put, List.setIfInBounds_toArray, List.set_cons_zero, List.set_cons_succ]
      refine wpAnyH_ready (rs := [10]) (by kernel_rfl) (by simp) ?_
      refine readyL rfl (fun K hK => ?_) AllReadyH.nil
      go_simp
      have hOld := hHeld
      refine hK.out _ _ (balloc hHeld _) (fun hHeld => ?_)
      clear hK K
      try simp only [Act.put, List.setIfInBounds_toArray, List.set_cons_zero, List.set_cons_succ]
      refine wpAnyH_ready (rs := [11]) (by kernel_rfl) (by simp) ?_
      refine readyL rfl (fun K hK => ?_) AllReadyH.nil
      go_simp
      refine (c_firstOf_two _ _ _ _).mono ?_
      rintro e w3 ⟨rfl, hbk⟩
      go_wp2_with fail
      refine hK.out _ _ (bstep hOld hbk) (fun hHeld => ?_)
      clear hK K
      try simp only [Act.put, List.setIfInBounds_toArray, List.set_cons_zero, List.set_cons_succ]
      clear hOld hbk
      refine wpAnyH_ready (rs := [12]) (by kernel_rfl) (by simp) ?_
      refine readyL rfl (fun K hK => ?_) AllReadyH.nil
      go_simp
      refine hK.out _ _ (hHeld) (fun hHeld => ?_)
      clear hK K
      try simp only [Act.put, List.setIfInBounds_toArray, List.set_cons_zero, List.set_cons_succ]
      refine wpAnyH_done (by kernel_rfl) ?_ _
      have B3 := bstep B1 hHeld
      have hcell1 := (H1.out.below hHeld).cell (i := 0) rfl
      have hcell2 := (H2.out.below hHeld).cell (i := 0) rfl
      clear hHeld
      clear hcell1 hcell2
      go_wp2
      go_ret2
      rw [HR.out, HC.out]
      exact ⟨_, rfl, World.ownsRow_nil _ _ _ _, B3⟩
    · rcases e2 : inB d 1 100 with _ | _
      all_goals
        rw [e1, e2] at HC HR
        go_enter Try.func17, Try.ntmps17
        go_upto_region 1 with fail
        have H1 := Lib.hid ((Var.new w #[.int .i64 n] 2).below (balloc (Below.refl _ _) (.cells #[.int .i64 d] 2)))
        have H2 := Lib.hid (Var.new (w.alloc (.cells #[.int .i64 n] 2)) #[.int .i64 d] 2)
        have B1 := balloc (balloc (Below.refl _ w) (.cells #[.int .i64 n] 2)) (.cells #[.int .i64 d] 2)
        have hsz : (w.alloc (.cells #[.int .i64 n] 2)).heap.size = w.heap.size + 1 := by simp
        rw [hsz] at H2
        clear hsz
        obtain ⟨b0, hb0⟩ : ∃ b, w.heap.size = b := ⟨_, rfl⟩
        have HB0 := Lib.hid hb0
        rw [hb0] at H1 H2 ⊢
        clear hb0
        obtain ⟨b5, hb5⟩ : ∃ b, b0 + 1 = b := ⟨_, rfl⟩
        rw [hb5] at H2 ⊢
        clear hb5
        obtain ⟨w1, hw1⟩ : ∃ w1, (w.alloc (.cells #[.int .i64 n] 2)).alloc (.cells #[.int .i64 d] 2) = w1 := ⟨_, rfl⟩
        rw [hw1] at H1 H2 B1 ⊢
        clear hw1
        refine wp_region_held_drew (S := (Below w1.heap.size w1)) (by kernel_rfl) (bdrew (Below.refl _ _)) (fun hHeld => ?_)
        refine takeL (i := 0) (v := .slice A l.length c) rfl (by kernel_rfl) (by kernel_rfl) (by kernel_rfl) (fun _ _ _ h => h) (Or.inl ⟨by rfl, by intro w' hS; clear hS; go_simp⟩) hHeld ?_
        simp only [Act.put, List.setIfInBounds_toArray, List.set_cons_zero, List.set_cons_succ]
        refine takeL (i := 3) (v := .int .i64 n) rfl (by kernel_rfl) (by kernel_rfl) (by kernel_rfl) (fun _ _ _ h => h) (Or.inl ⟨by rfl, by intro w' hS; have y1 := (H1.out.below hS).cell (i := 0) rfl; clear hS; go_simp⟩) hHeld ?_
        simp only [Act.put, List.setIfInBounds_toArray, List.set_cons_zero, List.set_cons_succ]
        refine wpAnyH_ready (rs := [1]) (by kernel_rfl) (by simp) ?_
        refine readyL rfl (fun K hK => ?_) AllReadyH.nil
        go_simp
        have hOld := hHeld
        refine hK.out _ _ (balloc hHeld _) (fun hHeld => ?_)
        clear hK K
        try simp only [Act.put, List.setIfInBounds_toArray, List.set_cons_zero, List.set_cons_succ]
        refine wpAnyH_ready (rs := [2]) (by kernel_rfl) (by simp) ?_
        refine readyL rfl (fun K hK => ?_) AllReadyH.nil
        go_simp
        refine (c_tuneCode_one A c l _ _ (h.below (bstep B1 hOld)) hw hn).mono ?_
        rintro e w2 ⟨rfl, hbk⟩
        rw [hok]
        go_wp2_with fail
        refine hK.out _ _ (bstep hOld hbk) (fun hHeld => ?_)
        clear hK K
        try simp only [Act.put, List.setIfInBounds_toArray, List.set_cons_zero, List.set_cons_succ]
        clear hOld hbk
        refine wpAnyH_ready (rs := [4]) (by kernel_rfl) (by simp) ?_
        refine readyL rfl (fun K hK => ?_) AllReadyH.nil
        go_simp
        refine (c_within _ _ _ _).mono ?_
        rintro e w' ⟨rfl, rfl⟩
        rw [e1]
        go_wp2_with fail
        refine hK.out _ _ (hHeld) (fun hHeld => ?_)
        clear hK K
        try simp only [Act.put, List.setIfInBounds_toArray, List.set_cons_zero, List.set_cons_succ]
        refine wpAnyH_ready (rs := [5]) (by kernel_rfl) (by simp) ?_
        refine readyL rfl (fun K hK => ?_) AllReadyH.nil
        go_simp
        refine hK.out _ _ (hHeld) (fun hHeld => ?_)
        clear hK K
        try simp only [Act.put, List.setIfInBounds_toArray, List.set_cons_zero, List.set_cons_succ]
        have y2 := (H2.out.below hHeld).cell (i := 0) rfl
        refine wpAnyH_ready (rs := [6]) (by kernel_rfl) (by simp) ?_
        refine readyL rfl (fun K hK => ?_) AllReadyH.nil
        go_simp
        clear y2
        refine hK.out _ _ (hHeld) (fun hHeld => ?_)
        clear hK K
        try simp only [Act.put, List.setIfInBounds_toArray, List.set_cons_zero, List.set_cons_succ]
        refine wpAnyH_ready (rs := [7]) (by kernel_rfl) (by simp) ?_
        refine readyL rfl (fun K hK => ?_) AllReadyH.nil
        go_simp
        refine (c_within _ _ _ _).mono ?_
        rintro e w' ⟨rfl, rfl⟩
        rw [e2]
        go_wp2_with fail
        refine hK.out _ _ (hHeld) (fun hHeld => ?_)
        clear hK K
        try simp only [Act.put, List.setIfInBounds_toArray, List.set_cons_zero, List.set_cons_succ]
        refine wpAnyH_ready (rs := [8]) (by kernel_rfl) (by simp) ?_
        refine readyL rfl (fun K hK => ?_) AllReadyH.nil
        go_simp
        refine hK.out _ _ (hHeld) (fun hHeld => ?_)
        clear hK K
        try simp only [Act.put, List.setIfInBounds_toArray, List.set_cons_zero, List.set_cons_succ]
        refine wpAnyH_ready (rs := [9]) (by kernel_rfl) (by simp) ?_
        refine readyL rfl (fun K hK => ?_) AllReadyH.nil
        go_simp
        refine (c_unless _ _ _).mono ?_
        rintro e w' ⟨rfl, rfl⟩
        go_wp2_with fail
        refine hK.out _ _ (hHeld) (fun hHeld => ?_)
        clear hK K
        try simp only [Act.put, List.setIfInBounds_toArray, List.set_cons_zero, List.set_cons_succ]
        refine wpAnyH_ready (rs := [10]) (by kernel_rfl) (by simp) ?_
        refine readyL rfl (fun K hK => ?_) AllReadyH.nil
        go_simp
        have hOld := hHeld
        refine hK.out _ _ (balloc hHeld _) (fun hHeld => ?_)
        clear hK K
        try simp only [Act.put, List.setIfInBounds_toArray, List.set_cons_zero, List.set_cons_succ]
        refine wpAnyH_ready (rs := [11]) (by kernel_rfl) (by simp) ?_
        refine readyL rfl (fun K hK => ?_) AllReadyH.nil
        go_simp
        refine (c_firstOf_two _ _ _ _).mono ?_
        rintro e w3 ⟨rfl, hbk⟩
        go_wp2_with fail
        refine hK.out _ _ (bstep hOld hbk) (fun hHeld => ?_)
        clear hK K
        try simp only [Act.put, List.setIfInBounds_toArray, List.set_cons_zero, List.set_cons_succ]
        clear hOld hbk
        refine wpAnyH_ready (rs := [12]) (by kernel_rfl) (by simp) ?_
        refine readyL rfl (fun K hK => ?_) AllReadyH.nil
        go_simp
        refine hK.out _ _ (hHeld) (fun hHeld => ?_)
        clear hK K
        try simp only [Act.put, List.setIfInBounds_toArray, List.set_cons_zero, List.set_cons_succ]
        refine wpAnyH_done (by kernel_rfl) ?_ _
        have B3 := bstep B1 hHeld
        have hcell1 := (H1.out.below hHeld).cell (i := 0) rfl
        have hcell2 := (H2.out.below hHeld).cell (i := 0) rfl
        clear hHeld
        clear hcell1 hcell2
        go_wp2
        go_ret2
        rw [HR.out, HC.out]
        exact ⟨_, rfl, World.ownsRow_nil _ _ _ _, B3⟩
  · rcases e1 : inB n 1 100 with _ | _
    · have HC := Lib.hid (show cMove l (false && inB d 1 100) 2 (strG n d) = 2 from cMove_bad (bad := 2) (g := (strG n d)) hok)
      have HR := Lib.hid (show rMove l (false && inB d 1 100) 2 (strG n d) = [] from rMove_bad (l := l) (bad := 2) (g := (strG n d)))
      go_enter Try.func17, Try.ntmps17
      go_upto_region 1 with fail
      have H1 := Lib.hid ((Var.new w #[.int .i64 n] 2).below (balloc (Below.refl _ _) (.cells #[.int .i64 d] 2)))
      have H2 := Lib.hid (Var.new (w.alloc (.cells #[.int .i64 n] 2)) #[.int .i64 d] 2)
      have B1 := balloc (balloc (Below.refl _ w) (.cells #[.int .i64 n] 2)) (.cells #[.int .i64 d] 2)
      have hsz : (w.alloc (.cells #[.int .i64 n] 2)).heap.size = w.heap.size + 1 := by simp
      rw [hsz] at H2
      clear hsz
      obtain ⟨b0, hb0⟩ : ∃ b, w.heap.size = b := ⟨_, rfl⟩
      have HB0 := Lib.hid hb0
      rw [hb0] at H1 H2 ⊢
      clear hb0
      obtain ⟨b5, hb5⟩ : ∃ b, b0 + 1 = b := ⟨_, rfl⟩
      rw [hb5] at H2 ⊢
      clear hb5
      obtain ⟨w1, hw1⟩ : ∃ w1, (w.alloc (.cells #[.int .i64 n] 2)).alloc (.cells #[.int .i64 d] 2) = w1 := ⟨_, rfl⟩
      rw [hw1] at H1 H2 B1 ⊢
      clear hw1
      refine wp_region_held_drew (S := (Below w1.heap.size w1)) (by kernel_rfl) (bdrew (Below.refl _ _)) (fun hHeld => ?_)
      refine takeL (i := 0) (v := .slice A l.length c) rfl (by kernel_rfl) (by kernel_rfl) (by kernel_rfl) (fun _ _ _ h => h) (Or.inl ⟨by rfl, by intro w' hS; clear hS; go_simp⟩) hHeld ?_
      simp only [Act.put, List.setIfInBounds_toArray, List.set_cons_zero, List.set_cons_succ]
      refine takeL (i := 3) (v := .int .i64 n) rfl (by kernel_rfl) (by kernel_rfl) (by kernel_rfl) (fun _ _ _ h => h) (Or.inl ⟨by rfl, by intro w' hS; have y1 := (H1.out.below hS).cell (i := 0) rfl; clear hS; go_simp⟩) hHeld ?_
      simp only [Act.put, List.setIfInBounds_toArray, List.set_cons_zero, List.set_cons_succ]
      refine wpAnyH_ready (rs := [1]) (by kernel_rfl) (by simp) ?_
      refine readyL rfl (fun K hK => ?_) AllReadyH.nil
      go_simp
      have hOld := hHeld
      refine hK.out _ _ (balloc hHeld _) (fun hHeld => ?_)
      clear hK K
      try simp only [Act.put, List.setIfInBounds_toArray, List.set_cons_zero, List.set_cons_succ]
      refine wpAnyH_ready (rs := [2]) (by kernel_rfl) (by simp) ?_
      refine readyL rfl (fun K hK => ?_) AllReadyH.nil
      go_simp
      refine (c_tuneCode_one A c l _ _ (h.below (bstep B1 hOld)) hw hn).mono ?_
      rintro e w2 ⟨rfl, hbk⟩
      rw [hok]
      go_wp2_with fail
      refine hK.out _ _ (bstep hOld hbk) (fun hHeld => ?_)
      clear hK K
      try simp only [Act.put, List.setIfInBounds_toArray, List.set_cons_zero, List.set_cons_succ]
      clear hOld hbk
      refine wpAnyH_ready (rs := [4]) (by kernel_rfl) (by simp) ?_
      refine readyL rfl (fun K hK => ?_) AllReadyH.nil
      go_simp
      refine (c_within _ _ _ _).mono ?_
      rintro e w' ⟨rfl, rfl⟩
      rw [e1]
      go_wp2_with fail
      refine hK.out _ _ (hHeld) (fun hHeld => ?_)
      clear hK K
      try simp only [Act.put, List.setIfInBounds_toArray, List.set_cons_zero, List.set_cons_succ]
      refine wpAnyH_ready (rs := [5]) (by kernel_rfl) (by simp) ?_
      refine readyL rfl (fun K hK => ?_) AllReadyH.nil
      go_simp
      refine hK.out _ _ (hHeld) (fun hHeld => ?_)
      clear hK K
      try simp only [Act.put, List.setIfInBounds_toArray, List.set_cons_zero, List.set_cons_succ]
      refine wpAnyH_ready (rs := [6]) (by kernel_rfl) (by simp) ?_
      refine readyL rfl (fun K hK => ?_) AllReadyH.nil
      go_simp
      refine hK.out _ _ (hHeld) (fun hHeld => ?_)
      clear hK K
      try simp only [Act.put, List.setIfInBounds_toArray, List.set_cons_zero, List.set_cons_succ]
      refine wpAnyH_ready (rs := [7]) (by kernel_rfl) (by simp) ?_
      refine readyL rfl (fun K hK => ?_) AllReadyH.nil
      go_simp
      refine hK.out _ _ (hHeld) (fun hHeld => ?_)
      clear hK K
      try simp only [Act.put, List.setIfInBounds_toArray, List.set_cons_zero, List.set_cons_succ]
      refine wpAnyH_ready (rs := [8]) (by kernel_rfl) (by simp) ?_
      refine readyL rfl (fun K hK => ?_) AllReadyH.nil
      go_simp
      refine hK.out _ _ (hHeld) (fun hHeld => ?_)
      clear hK K
      try simp only [Act.put, List.setIfInBounds_toArray, List.set_cons_zero, List.set_cons_succ]
      refine wpAnyH_ready (rs := [9]) (by kernel_rfl) (by simp) ?_
      refine readyL rfl (fun K hK => ?_) AllReadyH.nil
      go_simp
      refine (c_unless _ _ _).mono ?_
      rintro e w' ⟨rfl, rfl⟩
      go_wp2_with fail
      refine hK.out _ _ (hHeld) (fun hHeld => ?_)
      clear hK K
      try simp only [Act.put, List.setIfInBounds_toArray, List.set_cons_zero, List.set_cons_succ]
      refine wpAnyH_ready (rs := [10]) (by kernel_rfl) (by simp) ?_
      refine readyL rfl (fun K hK => ?_) AllReadyH.nil
      go_simp
      have hOld := hHeld
      refine hK.out _ _ (balloc hHeld _) (fun hHeld => ?_)
      clear hK K
      try simp only [Act.put, List.setIfInBounds_toArray, List.set_cons_zero, List.set_cons_succ]
      refine wpAnyH_ready (rs := [11]) (by kernel_rfl) (by simp) ?_
      refine readyL rfl (fun K hK => ?_) AllReadyH.nil
      go_simp
      refine (c_firstOf_two _ _ _ _).mono ?_
      rintro e w3 ⟨rfl, hbk⟩
      go_wp2_with fail
      refine hK.out _ _ (bstep hOld hbk) (fun hHeld => ?_)
      clear hK K
      try simp only [Act.put, List.setIfInBounds_toArray, List.set_cons_zero, List.set_cons_succ]
      clear hOld hbk
      refine wpAnyH_ready (rs := [12]) (by kernel_rfl) (by simp) ?_
      refine readyL rfl (fun K hK => ?_) AllReadyH.nil
      go_simp
      refine hK.out _ _ (hHeld) (fun hHeld => ?_)
      clear hK K
      try simp only [Act.put, List.setIfInBounds_toArray, List.set_cons_zero, List.set_cons_succ]
      refine wpAnyH_done (by kernel_rfl) ?_ _
      have B3 := bstep B1 hHeld
      have hcell1 := (H1.out.below hHeld).cell (i := 0) rfl
      have hcell2 := (H2.out.below hHeld).cell (i := 0) rfl
      clear hHeld
      clear hcell1 hcell2
      go_wp2
      go_ret2
      rw [HR.out, HC.out]
      exact ⟨_, rfl, World.ownsRow_nil _ _ _ _, B3⟩
    · rcases e2 : inB d 1 100 with _ | _
      · have HC := Lib.hid (show cMove l (true && false) 2 (strG n d) = 2 from cMove_bad (bad := 2) (g := (strG n d)) hok)
        have HR := Lib.hid (show rMove l (true && false) 2 (strG n d) = [] from rMove_bad (l := l) (bad := 2) (g := (strG n d)))
        go_enter Try.func17, Try.ntmps17
        go_upto_region 1 with fail
        have H1 := Lib.hid ((Var.new w #[.int .i64 n] 2).below (balloc (Below.refl _ _) (.cells #[.int .i64 d] 2)))
        have H2 := Lib.hid (Var.new (w.alloc (.cells #[.int .i64 n] 2)) #[.int .i64 d] 2)
        have B1 := balloc (balloc (Below.refl _ w) (.cells #[.int .i64 n] 2)) (.cells #[.int .i64 d] 2)
        have hsz : (w.alloc (.cells #[.int .i64 n] 2)).heap.size = w.heap.size + 1 := by simp
        rw [hsz] at H2
        clear hsz
        obtain ⟨b0, hb0⟩ : ∃ b, w.heap.size = b := ⟨_, rfl⟩
        have HB0 := Lib.hid hb0
        rw [hb0] at H1 H2 ⊢
        clear hb0
        obtain ⟨b5, hb5⟩ : ∃ b, b0 + 1 = b := ⟨_, rfl⟩
        rw [hb5] at H2 ⊢
        clear hb5
        obtain ⟨w1, hw1⟩ : ∃ w1, (w.alloc (.cells #[.int .i64 n] 2)).alloc (.cells #[.int .i64 d] 2) = w1 := ⟨_, rfl⟩
        rw [hw1] at H1 H2 B1 ⊢
        clear hw1
        refine wp_region_held_drew (S := (Below w1.heap.size w1)) (by kernel_rfl) (bdrew (Below.refl _ _)) (fun hHeld => ?_)
        refine takeL (i := 0) (v := .slice A l.length c) rfl (by kernel_rfl) (by kernel_rfl) (by kernel_rfl) (fun _ _ _ h => h) (Or.inl ⟨by rfl, by intro w' hS; clear hS; go_simp⟩) hHeld ?_
        simp only [Act.put, List.setIfInBounds_toArray, List.set_cons_zero, List.set_cons_succ]
        refine takeL (i := 3) (v := .int .i64 n) rfl (by kernel_rfl) (by kernel_rfl) (by kernel_rfl) (fun _ _ _ h => h) (Or.inl ⟨by rfl, by intro w' hS; have y1 := (H1.out.below hS).cell (i := 0) rfl; clear hS; go_simp⟩) hHeld ?_
        simp only [Act.put, List.setIfInBounds_toArray, List.set_cons_zero, List.set_cons_succ]
        refine wpAnyH_ready (rs := [1]) (by kernel_rfl) (by simp) ?_
        refine readyL rfl (fun K hK => ?_) AllReadyH.nil
        go_simp
        have hOld := hHeld
        refine hK.out _ _ (balloc hHeld _) (fun hHeld => ?_)
        clear hK K
        try simp only [Act.put, List.setIfInBounds_toArray, List.set_cons_zero, List.set_cons_succ]
        refine wpAnyH_ready (rs := [2]) (by kernel_rfl) (by simp) ?_
        refine readyL rfl (fun K hK => ?_) AllReadyH.nil
        go_simp
        refine (c_tuneCode_one A c l _ _ (h.below (bstep B1 hOld)) hw hn).mono ?_
        rintro e w2 ⟨rfl, hbk⟩
        rw [hok]
        go_wp2_with fail
        refine hK.out _ _ (bstep hOld hbk) (fun hHeld => ?_)
        clear hK K
        try simp only [Act.put, List.setIfInBounds_toArray, List.set_cons_zero, List.set_cons_succ]
        clear hOld hbk
        refine wpAnyH_ready (rs := [4]) (by kernel_rfl) (by simp) ?_
        refine readyL rfl (fun K hK => ?_) AllReadyH.nil
        go_simp
        refine (c_within _ _ _ _).mono ?_
        rintro e w' ⟨rfl, rfl⟩
        rw [e1]
        go_wp2_with fail
        refine hK.out _ _ (hHeld) (fun hHeld => ?_)
        clear hK K
        try simp only [Act.put, List.setIfInBounds_toArray, List.set_cons_zero, List.set_cons_succ]
        refine wpAnyH_ready (rs := [5]) (by kernel_rfl) (by simp) ?_
        refine readyL rfl (fun K hK => ?_) AllReadyH.nil
        go_simp
        refine hK.out _ _ (hHeld) (fun hHeld => ?_)
        clear hK K
        try simp only [Act.put, List.setIfInBounds_toArray, List.set_cons_zero, List.set_cons_succ]
        have y2 := (H2.out.below hHeld).cell (i := 0) rfl
        refine wpAnyH_ready (rs := [6]) (by kernel_rfl) (by simp) ?_
        refine readyL rfl (fun K hK => ?_) AllReadyH.nil
        go_simp
        clear y2
        refine hK.out _ _ (hHeld) (fun hHeld => ?_)
        clear hK K
        try simp only [Act.put, List.setIfInBounds_toArray, List.set_cons_zero, List.set_cons_succ]
        refine wpAnyH_ready (rs := [7]) (by kernel_rfl) (by simp) ?_
        refine readyL rfl (fun K hK => ?_) AllReadyH.nil
        go_simp
        refine (c_within _ _ _ _).mono ?_
        rintro e w' ⟨rfl, rfl⟩
        rw [e2]
        go_wp2_with fail
        refine hK.out _ _ (hHeld) (fun hHeld => ?_)
        clear hK K
        try simp only [Act.put, List.setIfInBounds_toArray, List.set_cons_zero, List.set_cons_succ]
        refine wpAnyH_ready (rs := [8]) (by kernel_rfl) (by simp) ?_
        refine readyL rfl (fun K hK => ?_) AllReadyH.nil
        go_simp
        refine hK.out _ _ (hHeld) (fun hHeld => ?_)
        clear hK K
        try simp only [Act.put, List.setIfInBounds_toArray, List.set_cons_zero, List.set_cons_succ]
        refine wpAnyH_ready (rs := [9]) (by kernel_rfl) (by simp) ?_
        refine readyL rfl (fun K hK => ?_) AllReadyH.nil
        go_simp
        refine (c_unless _ _ _).mono ?_
        rintro e w' ⟨rfl, rfl⟩
        go_wp2_with fail
        refine hK.out _ _ (hHeld) (fun hHeld => ?_)
        clear hK K
        try simp only [Act.put, List.setIfInBounds_toArray, List.set_cons_zero, List.set_cons_succ]
        refine wpAnyH_ready (rs := [10]) (by kernel_rfl) (by simp) ?_
        refine readyL rfl (fun K hK => ?_) AllReadyH.nil
        go_simp
        have hOld := hHeld
        refine hK.out _ _ (balloc hHeld _) (fun hHeld => ?_)
        clear hK K
        try simp only [Act.put, List.setIfInBounds_toArray, List.set_cons_zero, List.set_cons_succ]
        refine wpAnyH_ready (rs := [11]) (by kernel_rfl) (by simp) ?_
        refine readyL rfl (fun K hK => ?_) AllReadyH.nil
        go_simp
        refine (c_firstOf_two _ _ _ _).mono ?_
        rintro e w3 ⟨rfl, hbk⟩
        go_wp2_with fail
        refine hK.out _ _ (bstep hOld hbk) (fun hHeld => ?_)
        clear hK K
        try simp only [Act.put, List.setIfInBounds_toArray, List.set_cons_zero, List.set_cons_succ]
        clear hOld hbk
        refine wpAnyH_ready (rs := [12]) (by kernel_rfl) (by simp) ?_
        refine readyL rfl (fun K hK => ?_) AllReadyH.nil
        go_simp
        refine hK.out _ _ (hHeld) (fun hHeld => ?_)
        clear hK K
        try simp only [Act.put, List.setIfInBounds_toArray, List.set_cons_zero, List.set_cons_succ]
        refine wpAnyH_done (by kernel_rfl) ?_ _
        have B3 := bstep B1 hHeld
        have hcell1 := (H1.out.below hHeld).cell (i := 0) rfl
        have hcell2 := (H2.out.below hHeld).cell (i := 0) rfl
        clear hHeld
        clear hcell1 hcell2
        go_wp2
        go_ret2
        rw [HR.out, HC.out]
        exact ⟨_, rfl, World.ownsRow_nil _ _ _ _, B3⟩
      · have HR := Lib.hid (show rMove l (true && true) 2 (strG n d) = movR (strG n d) l from rMove_ok (l := l) (bad := 2) (g := (strG n d)) hok)
        have hnb := inB_iff.1 e1
        have hdb := inB_iff.1 e2
        have HC0 := Lib.hid (show cMove l (true && true) 2 (strG n d) = (if movB (strG n d) l then 0 else 4) from cMove_ok (bad := 2) (g := (strG n d)) hok)
        obtain ⟨z, hz⟩ : ∃ z : Int, (if movB (strG n d) l then 0 else 4) = z := ⟨_, rfl⟩
        have HZ := Lib.hid hz
        clear hz
        rw [HZ.out] at HC0
        have HC := HC0
        go_enter Try.func17, Try.ntmps17
        go_upto_region 1 with fail
        have H1 := Lib.hid ((Var.new w #[.int .i64 n] 2).below (balloc (Below.refl _ _) (.cells #[.int .i64 d] 2)))
        have H2 := Lib.hid (Var.new (w.alloc (.cells #[.int .i64 n] 2)) #[.int .i64 d] 2)
        have B1 := balloc (balloc (Below.refl _ w) (.cells #[.int .i64 n] 2)) (.cells #[.int .i64 d] 2)
        have hsz : (w.alloc (.cells #[.int .i64 n] 2)).heap.size = w.heap.size + 1 := by simp
        rw [hsz] at H2
        clear hsz
        obtain ⟨b0, hb0⟩ : ∃ b, w.heap.size = b := ⟨_, rfl⟩
        have HB0 := Lib.hid hb0
        rw [hb0] at H1 H2 ⊢
        clear hb0
        obtain ⟨b5, hb5⟩ : ∃ b, b0 + 1 = b := ⟨_, rfl⟩
        rw [hb5] at H2 ⊢
        clear hb5
        obtain ⟨w1, hw1⟩ : ∃ w1, (w.alloc (.cells #[.int .i64 n] 2)).alloc (.cells #[.int .i64 d] 2) = w1 := ⟨_, rfl⟩
        rw [hw1] at H1 H2 B1 ⊢
        clear hw1
        refine wp_region_held_drew (S := (Below w1.heap.size w1)) (by kernel_rfl) (bdrew (Below.refl _ _)) (fun hHeld => ?_)
        refine takeL (i := 0) (v := .slice A l.length c) rfl (by kernel_rfl) (by kernel_rfl) (by kernel_rfl) (fun _ _ _ h => h) (Or.inl ⟨by rfl, by intro w' hS; clear hS; go_simp⟩) hHeld ?_
        simp only [Act.put, List.setIfInBounds_toArray, List.set_cons_zero, List.set_cons_succ]
        refine takeL (i := 3) (v := .int .i64 n) rfl (by kernel_rfl) (by kernel_rfl) (by kernel_rfl) (fun _ _ _ h => h) (Or.inl ⟨by rfl, by intro w' hS; have y1 := (H1.out.below hS).cell (i := 0) rfl; clear hS; go_simp⟩) hHeld ?_
        simp only [Act.put, List.setIfInBounds_toArray, List.set_cons_zero, List.set_cons_succ]
        refine wpAnyH_ready (rs := [1]) (by kernel_rfl) (by simp) ?_
        refine readyL rfl (fun K hK => ?_) AllReadyH.nil
        go_simp
        have hOld := hHeld
        refine hK.out _ _ (balloc hHeld _) (fun hHeld => ?_)
        clear hK K
        try simp only [Act.put, List.setIfInBounds_toArray, List.set_cons_zero, List.set_cons_succ]
        refine wpAnyH_ready (rs := [2]) (by kernel_rfl) (by simp) ?_
        refine readyL rfl (fun K hK => ?_) AllReadyH.nil
        go_simp
        refine (c_tuneCode_one A c l _ _ (h.below (bstep B1 hOld)) hw hn).mono ?_
        rintro e w2 ⟨rfl, hbk⟩
        rw [hok]
        go_wp2_with fail
        refine hK.out _ _ (bstep hOld hbk) (fun hHeld => ?_)
        clear hK K
        try simp only [Act.put, List.setIfInBounds_toArray, List.set_cons_zero, List.set_cons_succ]
        clear hOld hbk
        refine wpAnyH_ready (rs := [4]) (by kernel_rfl) (by simp) ?_
        refine readyL rfl (fun K hK => ?_) AllReadyH.nil
        go_simp
        refine (c_within _ _ _ _).mono ?_
        rintro e w' ⟨rfl, rfl⟩
        rw [e1]
        go_wp2_with fail
        refine hK.out _ _ (hHeld) (fun hHeld => ?_)
        clear hK K
        try simp only [Act.put, List.setIfInBounds_toArray, List.set_cons_zero, List.set_cons_succ]
        refine wpAnyH_ready (rs := [5]) (by kernel_rfl) (by simp) ?_
        refine readyL rfl (fun K hK => ?_) AllReadyH.nil
        go_simp
        refine hK.out _ _ (hHeld) (fun hHeld => ?_)
        clear hK K
        try simp only [Act.put, List.setIfInBounds_toArray, List.set_cons_zero, List.set_cons_succ]
        have y2 := (H2.out.below hHeld).cell (i := 0) rfl
        refine wpAnyH_ready (rs := [6]) (by kernel_rfl) (by simp) ?_
        refine readyL rfl (fun K hK => ?_) AllReadyH.nil
        go_simp
        clear y2
        refine hK.out _ _ (hHeld) (fun hHeld => ?_)
        clear hK K
        try simp only [Act.put, List.setIfInBounds_toArray, List.set_cons_zero, List.set_cons_succ]
        refine wpAnyH_ready (rs := [7]) (by kernel_rfl) (by simp) ?_
        refine readyL rfl (fun K hK => ?_) AllReadyH.nil
        go_simp
        refine (c_within _ _ _ _).mono ?_
        rintro e w' ⟨rfl, rfl⟩
        rw [e2]
        go_wp2_with fail
        refine hK.out _ _ (hHeld) (fun hHeld => ?_)
        clear hK K
        try simp only [Act.put, List.setIfInBounds_toArray, List.set_cons_zero, List.set_cons_succ]
        refine wpAnyH_ready (rs := [8]) (by kernel_rfl) (by simp) ?_
        refine readyL rfl (fun K hK => ?_) AllReadyH.nil
        go_simp
        refine hK.out _ _ (hHeld) (fun hHeld => ?_)
        clear hK K
        try simp only [Act.put, List.setIfInBounds_toArray, List.set_cons_zero, List.set_cons_succ]
        refine wpAnyH_ready (rs := [9]) (by kernel_rfl) (by simp) ?_
        refine readyL rfl (fun K hK => ?_) AllReadyH.nil
        go_simp
        refine (c_unless _ _ _).mono ?_
        rintro e w' ⟨rfl, rfl⟩
        go_wp2_with fail
        refine hK.out _ _ (hHeld) (fun hHeld => ?_)
        clear hK K
        try simp only [Act.put, List.setIfInBounds_toArray, List.set_cons_zero, List.set_cons_succ]
        refine wpAnyH_ready (rs := [10]) (by kernel_rfl) (by simp) ?_
        refine readyL rfl (fun K hK => ?_) AllReadyH.nil
        go_simp
        have hOld := hHeld
        refine hK.out _ _ (balloc hHeld _) (fun hHeld => ?_)
        clear hK K
        try simp only [Act.put, List.setIfInBounds_toArray, List.set_cons_zero, List.set_cons_succ]
        refine wpAnyH_ready (rs := [11]) (by kernel_rfl) (by simp) ?_
        refine readyL rfl (fun K hK => ?_) AllReadyH.nil
        go_simp
        refine (c_firstOf_two _ _ _ _).mono ?_
        rintro e w3 ⟨rfl, hbk⟩
        go_wp2_with fail
        refine hK.out _ _ (bstep hOld hbk) (fun hHeld => ?_)
        clear hK K
        try simp only [Act.put, List.setIfInBounds_toArray, List.set_cons_zero, List.set_cons_succ]
        clear hOld hbk
        refine wpAnyH_ready (rs := [12]) (by kernel_rfl) (by simp) ?_
        refine readyL rfl (fun K hK => ?_) AllReadyH.nil
        go_simp
        refine hK.out _ _ (hHeld) (fun hHeld => ?_)
        clear hK K
        try simp only [Act.put, List.setIfInBounds_toArray, List.set_cons_zero, List.set_cons_succ]
        refine wpAnyH_done (by kernel_rfl) ?_ _
        have B3 := bstep B1 hHeld
        have hcell1 := (H1.out.below hHeld).cell (i := 0) rfl
        have hcell2 := (H2.out.below hHeld).cell (i := 0) rfl
        clear hHeld
        have HCELL := Lib.hid (And.intro hcell1 hcell2)
        clear hcell1 hcell2
        go_wp2_with fail
        refine (c_changedStr b0 b5 n d A c l _ (h.below B3) hok HCELL.out (by omega)).mono ?_
        rintro e w4 ⟨A4, c4, rfl, o4, b4⟩
        rw [HZ.out]
        have O4 := Lib.hid (o4.base_le B3.size)
        clear o4
        go_wp2
        go_ret2
        rw [HR.out, HC.out]
        exact ⟨_, rfl, O4.out, bstep B3 b4⟩

end Go.Proofs.Ytdjooookfldamaa
