/-
  MoveTune and Transpose, in the reference and in the program.
-/
import Derived.Test.YtbdopmcjoncelaaGreatDoorWalkM
import Derived.Test.YtbdopmcjoncelaaGreatDoorWalkF
namespace Go.Proofs.YtbdopmcjoncelaaGreatDoor
open Go.RowKit
set_option linter.unusedVariables false
set_option linter.unusedSimpArgs false
set_option maxRecDepth 4000

theorem cMove_ok {l : List (Int × Int)} {bad : Int} {g : Int × Int → Int × Int} (h : okT l = true) : cMove l true bad g = (if movB g l then 0 else 4) := by simp [cMove, h]
theorem cMove_bad {l : List (Int × Int)} {bad : Int} {g : Int × Int → Int × Int} (h : okT l = true) : cMove l false bad g = bad := by simp [cMove, h]
theorem cMove_no {l : List (Int × Int)} {b : Bool} {bad : Int} {g : Int × Int → Int × Int} (h : okT l = false) : cMove l b bad g = 1 := by simp [cMove, h]
theorem rMove_ok {bad : Int} {l : List (Int × Int)} {g : Int × Int → Int × Int} (h : okT l = true) : rMove l true bad g = movR g l := by simp [rMove, h]
theorem rMove_bad {bad : Int} {l : List (Int × Int)} {g : Int × Int → Int × Int} : rMove l false bad g = [] := by simp [rMove]
theorem rMove_no {bad : Int} {l : List (Int × Int)} {b : Bool} {g : Int × Int → Int × Int} (h : okT l = false) : rMove l b bad g = [] := by simp [rMove, h]

set_option maxHeartbeats 400000 in
theorem c_specMoveTune (A : Option Addr) (c : Nat) (l : List (Int × Int)) (s : Int) (w : World) (h : At2 .i16 .i8 w A l) (hw : Wf l) (hn : l.length ≤ 1073741824) (hs : -9223372036854775808 ≤ s ∧ s ≤ 9223372036854775807) :
    Calls Tryz.prog 10 #[.slice A l.length c, .int .i64 s] w fun e w' => ∃ v, e = .returned (.tuple #[v, .int .i64 (cMove l (inB s (-200) 200) 4 (addG s 0))]) ∧ Own2 .i16 .i8 40 w' w.heap.size v (rMove l (inB s (-200) 200) 4 (addG s 0)) ∧ Below w.heap.size w w' := by
  rcases hok : okT l with _ | _
  · have HC := Lib.hid (cMove_no (b := (inB s (-200) 200)) (bad := 4) (g := (addG s 0)) hok)
    have HR := Lib.hid (rMove_no (b := (inB s (-200) 200)) (bad := 4) (g := (addG s 0)) hok)
    go_enter Tryz.func10, Tryz.ntmps10
    go_wp2_with fail
    refine (c_l01Ok A c l w h hw hn).mono ?_
    rintro e w1 ⟨rfl, b1⟩
    rw [hok]
    go_wp2
    go_ret2
    rw [HR.out, HC.out]
    exact ⟨_, rfl, Own2.lit0 b1.size, balloc b1 _⟩
  · rcases hin : inB s (-200) 200 with _ | _
    · have HC := Lib.hid (cMove_bad (bad := 4) (g := (addG s 0)) hok)
      have HR := Lib.hid (rMove_bad (l := l) (bad := 4) (g := (addG s 0)))
      go_enter Tryz.func10, Tryz.ntmps10
      go_wp2_with fail
      refine (c_l01Ok A c l w h hw hn).mono ?_
      rintro e w1 ⟨rfl, b1⟩
      rw [hok]
      go_wp2_with (go_at_call 43; refine (c_l00In _ _ _ _).mono ?_; rintro e w' ⟨rfl, rfl⟩; rw [hin])
      go_ret2
      rw [HR.out, HC.out]
      exact ⟨_, rfl, Own2.lit0 b1.size, balloc b1 _⟩
    · have hsb := inB_iff.1 hin
      rcases hB : movB (addG s 0) l with _ | _
      · have HC := Lib.hid (show cMove l true 4 (addG s 0) = 4 by rw [cMove_ok hok, hB]; rfl)
        have HR := Lib.hid (show rMove l true 4 (addG s 0) = [] by rw [rMove_ok hok]; unfold movR; rw [hB]; rfl)
        have HB := Lib.hid hB
        clear hB
        go_enter Tryz.func10, Tryz.ntmps10
        go_wp2_with fail
        refine (c_l01Ok A c l w h hw hn).mono ?_
        rintro e w1 ⟨rfl, b1⟩
        rw [hok]
        go_wp2_with fail
        refine (c_l00In _ _ _ _).mono ?_
        rintro e w' ⟨rfl, rfl⟩
        rw [hin]
        go_wp2_with fail
        refine (c_l01Changed A c l s 0 _ (h.below b1) hok (by omega) (by omega)).mono ?_
        rintro e w2 ⟨A2, c2, rfl, o2, b2⟩
        rw [HB.out]
        go_wp2
        go_ret2
        rw [HR.out, HC.out]
        exact ⟨_, rfl, Own2.lit0 (bstep b1 b2).size, balloc (bstep b1 b2) _⟩
      · have HC := Lib.hid (show cMove l true 4 (addG s 0) = 0 by rw [cMove_ok hok, hB]; rfl)
        have HR := Lib.hid (show rMove l true 4 (addG s 0) = movR (addG s 0) l by rw [rMove_ok hok])
        have HB := Lib.hid hB
        clear hB
        go_enter Tryz.func10, Tryz.ntmps10
        go_wp2_with fail
        refine (c_l01Ok A c l w h hw hn).mono ?_
        rintro e w1 ⟨rfl, b1⟩
        rw [hok]
        go_wp2_with fail
        refine (c_l00In _ _ _ _).mono ?_
        rintro e w' ⟨rfl, rfl⟩
        rw [hin]
        go_wp2_with fail
        refine (c_l01Changed A c l s 0 _ (h.below b1) hok (by omega) (by omega)).mono ?_
        rintro e w2 ⟨A2, c2, rfl, o2, b2⟩
        have O2 := Lib.hid (o2.base_le b1.size)
        clear o2
        rw [HB.out]
        go_wp2
        go_ret2
        rw [HR.out, HC.out]
        exact ⟨_, rfl, O2.out, bstep b1 b2⟩

set_option maxHeartbeats 800000 in
theorem c_implMoveTune (A : Option Addr) (c : Nat) (l : List (Int × Int)) (s : Int) (w : World) (h : At2 .i16 .i8 w A l) (hw : Wf l) (hn : l.length ≤ 1073741824) (hs : -9223372036854775808 ≤ s ∧ s ≤ 9223372036854775807) :
    Calls Tryz.prog 9 #[.slice A l.length c, .int .i64 s] w fun e w' => ∃ v, e = .returned (.tuple #[v, .int .i64 (cMove l (inB s (-200) 200) 4 (addG s 0))]) ∧ Own2 .i16 .i8 40 w' w.heap.size v (rMove l (inB s (-200) 200) 4 (addG s 0)) ∧ Below w.heap.size w w' := by
  rcases hok : okT l with _ | _
  · have HC := Lib.hid (cMove_no (b := (inB s (-200) 200)) (bad := 4) (g := (addG s 0)) hok)
    have HR := Lib.hid (rMove_no (b := (inB s (-200) 200)) (bad := 4) (g := (addG s 0)) hok)
    rcases hz : (inB s (-200) 200) with _ | _
    all_goals
      rw [hz] at HC HR
      go_enter Tryz.func9, Tryz.ntmps9
      go_upto_region 1 with fail
      have H1 := Lib.hid (Var.new w #[.int .i64 s] 2)
      have B1 := balloc (Below.refl _ w) (.cells #[.int .i64 s] 2)
      obtain ⟨b0, hb0⟩ : ∃ b, w.heap.size = b := ⟨_, rfl⟩
      have HB0 := Lib.hid hb0
      rw [hb0] at H1 ⊢
      clear hb0
      obtain ⟨w1, hw1⟩ : ∃ w1, w.alloc (.cells #[.int .i64 s] 2) = w1 := ⟨_, rfl⟩
      rw [hw1] at H1 B1 ⊢
      clear hw1
      refine wp_region_held_drew (S := (Below w1.heap.size w1)) (by kernel_rfl) (bdrew (Below.refl _ _)) (fun hHeld => ?_)
      refine takeL (i := 0) (v := .slice A l.length c) rfl (by kernel_rfl) (by kernel_rfl) (by kernel_rfl) (fun _ _ _ h => h) (Or.inl ⟨by rfl, by intro w' hS; clear hS; go_simp⟩) hHeld ?_
      simp only [Act.put, List.setIfInBounds_toArray, List.set_cons_zero, List.set_cons_succ]
      refine takeL (i := 3) (v := .int .i64 s) rfl (by kernel_rfl) (by kernel_rfl) (by kernel_rfl) (fun _ _ _ h => h) (Or.inl ⟨by rfl, by intro w' hS; have y1 := (H1.out.below hS).cell (i := 0) rfl; clear hS; go_simp⟩) hHeld ?_
      simp only [Act.put, List.setIfInBounds_toArray, List.set_cons_zero, List.set_cons_succ]
      refine wpAnyH_ready (rs := [1]) (by kernel_rfl) (by simp) ?_
      refine readyL rfl (fun K hK => ?_) AllReadyH.nil
      go_simp
      have hOld := hHeld
      refine hK.out _ _ (balloc hHeld _) (fun hHeld => ?_)
      clear hK K
      try simp only [Act.put, List.setIfInBounds_toArray, List.set_cons_zero, List.set_cons_succ]
      refine wpAnyH_ready (rs := [2]) (by kernel_rfl) (by simp) ?_
      refine readyL rfl (fun K hK => ?_) AllReadyH.nil
      go_simp
      refine (c_tuneCode_one A c l _ _ (h.below (bstep B1 hOld)) hw hn).mono ?_
      rintro e w2 ⟨rfl, hbk⟩
      rw [hok]
      go_wp2_with fail
      refine hK.out _ _ (bstep hOld hbk) (fun hHeld => ?_)
      clear hK K
      try simp only [Act.put, List.setIfInBounds_toArray, List.set_cons_zero, List.set_cons_succ]
      clear hOld hbk
      refine wpAnyH_ready (rs := [4]) (by kernel_rfl) (by simp) ?_
      refine readyL rfl (fun K hK => ?_) AllReadyH.nil
      go_simp
      refine (c_within _ _ _ _).mono ?_
      rintro e w' ⟨rfl, rfl⟩
      rw [hz]
      go_wp2_with fail
      refine hK.out _ _ (hHeld) (fun hHeld => ?_)
      clear hK K
      try simp only [Act.put, List.setIfInBounds_toArray, List.set_cons_zero, List.set_cons_succ]
      refine wpAnyH_ready (rs := [5]) (by kernel_rfl) (by simp) ?_
      refine readyL rfl (fun K hK => ?_) AllReadyH.nil
      go_simp
      refine (c_unless _ _ _).mono ?_
      rintro e w' ⟨rfl, rfl⟩
      go_wp2_with fail
      refine hK.out _ _ (hHeld) (fun hHeld => ?_)
      clear hK K
      try simp only [Act.put, List.setIfInBounds_toArray, List.set_cons_zero, List.set_cons_succ]
      refine wpAnyH_ready (rs := [6]) (by kernel_rfl) (by simp) ?_
      refine readyL rfl (fun K hK => ?_) AllReadyH.nil
      go_simp
      have hOld := hHeld
      refine hK.out _ _ (balloc hHeld _) (fun hHeld => ?_)
      clear hK K
      try simp only [Act.put, List.setIfInBounds_toArray, List.set_cons_zero, List.set_cons_succ]
      refine wpAnyH_ready (rs := [7]) (by kernel_rfl) (by simp) ?_
      refine readyL rfl (fun K hK => ?_) AllReadyH.nil
      go_simp
      refine (c_firstOf_two _ _ _ _).mono ?_
      rintro e w3 ⟨rfl, hbk⟩
      go_wp2_with fail
      refine hK.out _ _ (bstep hOld hbk) (fun hHeld => ?_)
      clear hK K
      try simp only [Act.put, List.setIfInBounds_toArray, List.set_cons_zero, List.set_cons_succ]
      clear hOld hbk
      refine wpAnyH_ready (rs := [8]) (by kernel_rfl) (by simp) ?_
      refine readyL rfl (fun K hK => ?_) AllReadyH.nil
      go_simp
      refine hK.out _ _ (hHeld) (fun hHeld => ?_)
      clear hK K
      try simp only [Act.put, List.setIfInBounds_toArray, List.set_cons_zero, List.set_cons_succ]
      refine wpAnyH_done (by kernel_rfl) ?_ _
      have B3 := bstep B1 hHeld
      have hcell := (H1.out.below hHeld).cell (i := 0) rfl
      clear hHeld
      clear hcell
      go_wp2
      go_ret2
      rw [HR.out, HC.out]
      exact ⟨_, rfl, World.ownsRow_nil _ _ _ _, B3⟩
  · rcases hin : inB s (-200) 200 with _ | _
    · have HC := Lib.hid (cMove_bad (bad := 4) (g := (addG s 0)) hok)
      have HR := Lib.hid (rMove_bad (l := l) (bad := 4) (g := (addG s 0)))
      go_enter Tryz.func9, Tryz.ntmps9
      go_upto_region 1 with fail
      have H1 := Lib.hid (Var.new w #[.int .i64 s] 2)
      have B1 := balloc (Below.refl _ w) (.cells #[.int .i64 s] 2)
      obtain ⟨b0, hb0⟩ : ∃ b, w.heap.size = b := ⟨_, rfl⟩
      have HB0 := Lib.hid hb0
      rw [hb0] at H1 ⊢
      clear hb0
      obtain ⟨w1, hw1⟩ : ∃ w1, w.alloc (.cells #[.int .i64 s] 2) = w1 := ⟨_, rfl⟩
      rw [hw1] at H1 B1 ⊢
      clear hw1
      refine wp_region_held_drew (S := (Below w1.heap.size w1)) (by kernel_rfl) (bdrew (Below.refl _ _)) (fun hHeld => ?_)
      refine takeL (i := 0) (v := .slice A l.length c) rfl (by kernel_rfl) (by kernel_rfl) (by kernel_rfl) (fun _ _ _ h => h) (Or.inl ⟨by rfl, by intro w' hS; clear hS; go_simp⟩) hHeld ?_
      simp only [Act.put, List.setIfInBounds_toArray, List.set_cons_zero, List.set_cons_succ]
      refine takeL (i := 3) (v := .int .i64 s) rfl (by kernel_rfl) (by kernel_rfl) (by kernel_rfl) (fun _ _ _ h => h) (Or.inl ⟨by rfl, by intro w' hS; have y1 := (H1.out.below hS).cell (i := 0) rfl; clear hS; go_simp⟩) hHeld ?_
      simp only [Act.put, List.setIfInBounds_toArray, List.set_cons_zero, List.set_cons_succ]
      refine wpAnyH_ready (rs := [1]) (by kernel_rfl) (by simp) ?_
      refine readyL rfl (fun K hK => ?_) AllReadyH.nil
      go_simp
      have hOld := hHeld
      refine hK.out _ _ (balloc hHeld _) (fun hHeld => ?_)
      clear hK K
      try simp only [Act.put, List.setIfInBounds_toArray, List.set_cons_zero, List.set_cons_succ]
      refine wpAnyH_ready (rs := [2]) (by kernel_rfl) (by simp) ?_
      refine readyL rfl (fun K hK => ?_) AllReadyH.nil
      go_simp
      refine (c_tuneCode_one A c l _ _ (h.below (bstep B1 hOld)) hw hn).mono ?_
      rintro e w2 ⟨rfl, hbk⟩
      rw [hok]
      go_wp2_with fail
      refine hK.out _ _ (bstep hOld hbk) (fun hHeld => ?_)
      clear hK K
      try simp only [Act.put, List.setIfInBounds_toArray, List.set_cons_zero, List.set_cons_succ]
      clear hOld hbk
      refine wpAnyH_ready (rs := [4]) (by kernel_rfl) (by simp) ?_
      refine readyL rfl (fun K hK => ?_) AllReadyH.nil
      go_simp
      refine (c_within _ _ _ _).mono ?_
      rintro e w' ⟨rfl, rfl⟩
      rw [hin]
      go_wp2_with fail
      refine hK.out _ _ (hHeld) (fun hHeld => ?_)
      clear hK K
      try simp only [Act.put, List.setIfInBounds_toArray, List.set_cons_zero, List.set_cons_succ]
      refine wpAnyH_ready (rs := [5]) (by kernel_rfl) (by simp) ?_
      refine readyL rfl (fun K hK => ?_) AllReadyH.nil
      go_simp
      refine (c_unless _ _ _).mono ?_
      rintro e w' ⟨rfl, rfl⟩
      go_wp2_with fail
      refine hK.out _ _ (hHeld) (fun hHeld => ?_)
      clear hK K
      try simp only [Act.put, List.setIfInBounds_toArray, List.set_cons_zero, List.set_cons_succ]
      refine wpAnyH_ready (rs := [6]) (by kernel_rfl) (by simp) ?_
      refine readyL rfl (fun K hK => ?_) AllReadyH.nil
      go_simp
      have hOld := hHeld
      refine hK.out _ _ (balloc hHeld _) (fun hHeld => ?_)
      clear hK K
      try simp only [Act.put, List.setIfInBounds_toArray, List.set_cons_zero, List.set_cons_succ]
      refine wpAnyH_ready (rs := [7]) (by kernel_rfl) (by simp) ?_
      refine readyL rfl (fun K hK => ?_) AllReadyH.nil
      go_simp
      refine (c_firstOf_two _ _ _ _).mono ?_
      rintro e w3 ⟨rfl, hbk⟩
      go_wp2_with fail
      refine hK.out _ _ (bstep hOld hbk) (fun hHeld => ?_)
      clear hK K
      try simp only [Act.put, List.setIfInBounds_toArray, List.set_cons_zero, List.set_cons_succ]
      clear hOld hbk
      refine wpAnyH_ready (rs := [8]) (by kernel_rfl) (by simp) ?_
      refine readyL rfl (fun K hK => ?_) AllReadyH.nil
      go_simp
      refine hK.out _ _ (hHeld) (fun hHeld => ?_)
      clear hK K
      try simp only [Act.put, List.setIfInBounds_toArray, List.set_cons_zero, List.set_cons_succ]
      refine wpAnyH_done (by kernel_rfl) ?_ _
      have B3 := bstep B1 hHeld
      have hcell := (H1.out.below hHeld).cell (i := 0) rfl
      clear hHeld
      clear hcell
      go_wp2
      go_ret2
      rw [HR.out, HC.out]
      exact ⟨_, rfl, World.ownsRow_nil _ _ _ _, B3⟩
    · have HR := Lib.hid (rMove_ok (l := l) (bad := 4) (g := (addG s 0)) hok)
      have hsb := inB_iff.1 hin
      have HC0 := Lib.hid (cMove_ok (bad := 4) (g := (addG s 0)) hok)
      obtain ⟨z, hz⟩ : ∃ z : Int, (if movB (addG s 0) l then 0 else 4) = z := ⟨_, rfl⟩
      have HZ := Lib.hid hz
      clear hz
      rw [HZ.out] at HC0
      have HC := HC0
      go_enter Tryz.func9, Tryz.ntmps9
      go_upto_region 1 with fail
      have H1 := Lib.hid (Var.new w #[.int .i64 s] 2)
      have B1 := balloc (Below.refl _ w) (.cells #[.int .i64 s] 2)
      obtain ⟨b0, hb0⟩ : ∃ b, w.heap.size = b := ⟨_, rfl⟩
      have HB0 := Lib.hid hb0
      rw [hb0] at H1 ⊢
      clear hb0
      obtain ⟨w1, hw1⟩ : ∃ w1, w.alloc (.cells #[.int .i64 s] 2) = w1 := ⟨_, rfl⟩
      rw [hw1] at H1 B1 ⊢
      clear hw1
      refine wp_region_held_drew (S := (Below w1.heap.size w1)) (by kernel_rfl) (bdrew (Below.refl _ _)) (fun hHeld => ?_)
      refine takeL (i := 0) (v := .slice A l.length c) rfl (by kernel_rfl) (by kernel_rfl) (by kernel_rfl) (fun _ _ _ h => h) (Or.inl ⟨by rfl, by intro w' hS; clear hS; go_simp⟩) hHeld ?_
      simp only [Act.put, List.setIfInBounds_toArray, List.set_cons_zero, List.set_cons_succ]
      refine takeL (i := 3) (v := .int .i64 s) rfl (by kernel_rfl) (by kernel_rfl) (by kernel_rfl) (fun _ _ _ h => h) (Or.inl ⟨by rfl, by intro w' hS; have y1 := (H1.out.below hS).cell (i := 0) rfl; clear hS; go_simp⟩) hHeld ?_
      simp only [Act.put, List.setIfInBounds_toArray, List.set_cons_zero, List.set_cons_succ]
      refine wpAnyH_ready (rs := [1]) (by kernel_rfl) (by simp) ?_
      refine readyL rfl (fun K hK => ?_) AllReadyH.nil
      go_simp
      have hOld := hHeld
      refine hK.out _ _ (balloc hHeld _) (fun hHeld => ?_)
      clear hK K
      try simp only [Act.put, List.setIfInBounds_toArray, List.set_cons_zero, List.set_cons_succ]
      refine wpAnyH_ready (rs := [2]) (by kernel_rfl) (by simp) ?_
      refine readyL rfl (fun K hK => ?_) AllReadyH.nil
      go_simp
      refine (c_tuneCode_one A c l _ _ (h.below (bstep B1 hOld)) hw hn).mono ?_
      rintro e w2 ⟨rfl, hbk⟩
      rw [hok]
      go_wp2_with fail
      refine hK.out _ _ (bstep hOld hbk) (fun hHeld => ?_)
      clear hK K
      try simp only [Act.put, List.setIfInBounds_toArray, List.set_cons_zero, List.set_cons_succ]
      clear hOld hbk
      refine wpAnyH_ready (rs := [4]) (by kernel_rfl) (by simp) ?_
      refine readyL rfl (fun K hK => ?_) AllReadyH.nil
      go_simp
      refine (c_within _ _ _ _).mono ?_
      rintro e w' ⟨rfl, rfl⟩
      rw [hin]
      go_wp2_with fail
      refine hK.out _ _ (hHeld) (fun hHeld => ?_)
      clear hK K
      try simp only [Act.put, List.setIfInBounds_toArray, List.set_cons_zero, List.set_cons_succ]
      refine wpAnyH_ready (rs := [5]) (by kernel_rfl) (by simp) ?_
      refine readyL rfl (fun K hK => ?_) AllReadyH.nil
      go_simp
      refine (c_unless _ _ _).mono ?_
      rintro e w' ⟨rfl, rfl⟩
      go_wp2_with fail
      refine hK.out _ _ (hHeld) (fun hHeld => ?_)
      clear hK K
      try simp only [Act.put, List.setIfInBounds_toArray, List.set_cons_zero, List.set_cons_succ]
      refine wpAnyH_ready (rs := [6]) (by kernel_rfl) (by simp) ?_
      refine readyL rfl (fun K hK => ?_) AllReadyH.nil
      go_simp
      have hOld := hHeld
      refine hK.out _ _ (balloc hHeld _) (fun hHeld => ?_)
      clear hK K
      try simp only [Act.put, List.setIfInBounds_toArray, List.set_cons_zero, List.set_cons_succ]
      refine wpAnyH_ready (rs := [7]) (by kernel_rfl) (by simp) ?_
      refine readyL rfl (fun K hK => ?_) AllReadyH.nil
      go_simp
      refine (c_firstOf_two _ _ _ _).mono ?_
      rintro e w3 ⟨rfl, hbk⟩
      go_wp2_with fail
      refine hK.out _ _ (bstep hOld hbk) (fun hHeld => ?_)
      clear hK K
      try simp only [Act.put, List.setIfInBounds_toArray, List.set_cons_zero, List.set_cons_succ]
      clear hOld hbk
      refine wpAnyH_ready (rs := [8]) (by kernel_rfl) (by simp) ?_
      refine readyL rfl (fun K hK => ?_) AllReadyH.nil
      go_simp
      refine hK.out _ _ (hHeld) (fun hHeld => ?_)
      clear hK K
      try simp only [Act.put, List.setIfInBounds_toArray, List.set_cons_zero, List.set_cons_succ]
      refine wpAnyH_done (by kernel_rfl) ?_ _
      have B3 := bstep B1 hHeld
      have hcell := (H1.out.below hHeld).cell (i := 0) rfl
      clear hHeld
      have HCELL := Lib.hid hcell
      clear hcell
      go_wp2_with fail
      refine (c_changedMove b0 s A c l _ (h.below B3) hok HCELL.out (by omega)).mono ?_
      rintro e w4 ⟨A4, c4, rfl, o4, b4⟩
      rw [HZ.out]
      have O4 := Lib.hid (o4.base_le B3.size)
      clear o4
      go_wp2
      go_ret2
      rw [HR.out, HC.out]
      exact ⟨_, rfl, O4.out, bstep B3 b4⟩

set_option maxHeartbeats 400000 in
theorem c_specTranspose (A : Option Addr) (c : Nat) (l : List (Int × Int)) (s : Int) (w : World) (h : At2 .i16 .i8 w A l) (hw : Wf l) (hn : l.length ≤ 1073741824) (hs : -9223372036854775808 ≤ s ∧ s ≤ 9223372036854775807) :
    Calls Tryz.prog 12 #[.slice A l.length c, .int .i64 s] w fun e w' => ∃ v, e = .returned (.tuple #[v, .int .i64 (cMove l (inB s (-48) 48) 4 (addG 0 s))]) ∧ Own2 .i16 .i8 40 w' w.heap.size v (rMove l (inB s (-48) 48) 4 (addG 0 s)) ∧ Below w.heap.size w w' := by
  rcases hok : okT l with _ | _
  · have HC := Lib.hid (cMove_no (b := (inB s (-48) 48)) (bad := 4) (g := (addG 0 s)) hok)
    have HR := Lib.hid (rMove_no (b := (inB s (-48) 48)) (bad := 4) (g := (addG 0 s)) hok)
    go_enter Tryz.func12, Tryz.ntmps12
    go_wp2_with fail
    refine (c_l01Ok A c l w h hw hn).mono ?_
    rintro e w1 ⟨rfl, b1⟩
    rw [hok]
    go_wp2
    go_ret2
    rw [HR.out, HC.out]
    exact ⟨_, rfl, Own2.lit0 b1.size, balloc b1 _⟩
  · rcases hin : inB s (-48) 48 with _ | _
    · have HC := Lib.hid (cMove_bad (bad := 4) (g := (addG 0 s)) hok)
      have HR := Lib.hid (rMove_bad (l := l) (bad := 4) (g := (addG 0 s)))
      go_enter Tryz.func12, Tryz.ntmps12
      go_wp2_with fail
      refine (c_l01Ok A c l w h hw hn).mono ?_
      rintro e w1 ⟨rfl, b1⟩
      rw [hok]
      go_wp2_with (go_at_call 43; refine (c_l00In _ _ _ _).mono ?_; rintro e w' ⟨rfl, rfl⟩; rw [hin])
      go_ret2
      rw [HR.out, HC.out]
      exact ⟨_, rfl, Own2.lit0 b1.size, balloc b1 _⟩
    · have hsb := inB_iff.1 hin
      rcases hB : movB (addG 0 s) l with _ | _
      · have HC := Lib.hid (show cMove l true 4 (addG 0 s) = 4 by rw [cMove_ok hok, hB]; rfl)
        have HR := Lib.hid (show rMove l true 4 (addG 0 s) = [] by rw [rMove_ok hok]; unfold movR; rw [hB]; rfl)
        have HB := Lib.hid hB
        clear hB
        go_enter Tryz.func12, Tryz.ntmps12
        go_wp2_with fail
        refine (c_l01Ok A c l w h hw hn).mono ?_
        rintro e w1 ⟨rfl, b1⟩
        rw [hok]
        go_wp2_with fail
        refine (c_l00In _ _ _ _).mono ?_
        rintro e w' ⟨rfl, rfl⟩
        rw [hin]
        go_wp2_with fail
        refine (c_l01Changed A c l 0 s _ (h.below b1) hok (by omega) (by omega)).mono ?_
        rintro e w2 ⟨A2, c2, rfl, o2, b2⟩
        rw [HB.out]
        go_wp2
        go_ret2
        rw [HR.out, HC.out]
        exact ⟨_, rfl, Own2.lit0 (bstep b1 b2).size, balloc (bstep b1 b2) _⟩
      · have HC := Lib.hid (show cMove l true 4 (addG 0 s) = 0 by rw [cMove_ok hok, hB]; rfl)
        have HR := Lib.hid (show rMove l true 4 (addG 0 s) = movR (addG 0 s) l by rw [rMove_ok hok])
        have HB := Lib.hid hB
        clear hB
        go_enter Tryz.func12, Tryz.ntmps12
        go_wp2_with fail
        refine (c_l01Ok A c l w h hw hn).mono ?_
        rintro e w1 ⟨rfl, b1⟩
        rw [hok]
        go_wp2_with fail
        refine (c_l00In _ _ _ _).mono ?_
        rintro e w' ⟨rfl, rfl⟩
        rw [hin]
        go_wp2_with fail
        refine (c_l01Changed A c l 0 s _ (h.below b1) hok (by omega) (by omega)).mono ?_
        rintro e w2 ⟨A2, c2, rfl, o2, b2⟩
        have O2 := Lib.hid (o2.base_le b1.size)
        clear o2
        rw [HB.out]
        go_wp2
        go_ret2
        rw [HR.out, HC.out]
        exact ⟨_, rfl, O2.out, bstep b1 b2⟩

set_option maxHeartbeats 800000 in
theorem c_implTranspose (A : Option Addr) (c : Nat) (l : List (Int × Int)) (s : Int) (w : World) (h : At2 .i16 .i8 w A l) (hw : Wf l) (hn : l.length ≤ 1073741824) (hs : -9223372036854775808 ≤ s ∧ s ≤ 9223372036854775807) :
    Calls Tryz.prog 11 #[.slice A l.length c, .int .i64 s] w fun e w' => ∃ v, e = .returned (.tuple #[v, .int .i64 (cMove l (inB s (-48) 48) 4 (addG 0 s))]) ∧ Own2 .i16 .i8 40 w' w.heap.size v (rMove l (inB s (-48) 48) 4 (addG 0 s)) ∧ Below w.heap.size w w' := by
  rcases hok : okT l with _ | _
  · have HC := Lib.hid (cMove_no (b := (inB s (-48) 48)) (bad := 4) (g := (addG 0 s)) hok)
    have HR := Lib.hid (rMove_no (b := (inB s (-48) 48)) (bad := 4) (g := (addG 0 s)) hok)
    rcases hz : (inB s (-48) 48) with _ | _
    all_goals
      rw [hz] at HC HR
      go_enter Tryz.func11, Tryz.ntmps11
      go_upto_region 1 with fail
      have H1 := Lib.hid (Var.new w #[.int .i64 s] 2)
      have B1 := balloc (Below.refl _ w) (.cells #[.int .i64 s] 2)
      obtain ⟨b0, hb0⟩ : ∃ b, w.heap.size = b := ⟨_, rfl⟩
      have HB0 := Lib.hid hb0
      rw [hb0] at H1 ⊢
      clear hb0
      obtain ⟨w1, hw1⟩ : ∃ w1, w.alloc (.cells #[.int .i64 s] 2) = w1 := ⟨_, rfl⟩
      rw [hw1] at H1 B1 ⊢
      clear hw1
      refine wp_region_held_drew (S := (Below w1.heap.size w1)) (by kernel_rfl) (bdrew (Below.refl _ _)) (fun hHeld => ?_)
      refine takeL (i := 0) (v := .slice A l.length c) rfl (by kernel_rfl) (by kernel_rfl) (by kernel_rfl) (fun _ _ _ h => h) (Or.inl ⟨by rfl, by intro w' hS; clear hS; go_simp⟩) hHeld ?_
      simp only [Act.put, List.setIfInBounds_toArray, List.set_cons_zero, List.set_cons_succ]
      refine takeL (i := 3) (v := .int .i64 s) rfl (by kernel_rfl) (by kernel_rfl) (by kernel_rfl) (fun _ _ _ h => h) (Or.inl ⟨by rfl, by intro w' hS; have y1 := (H1.out.below hS).cell (i := 0) rfl; clear hS; go_simp⟩) hHeld ?_
      simp only [Act.put, List.setIfInBounds_toArray, List.set_cons_zero, List.set_cons_succ]
      refine wpAnyH_ready (rs := [1]) (by kernel_rfl) (by simp) ?_
      refine readyL rfl (fun K hK => ?_) AllReadyH.nil
      go_simp
      have hOld := hHeld
      refine hK.out _ _ (balloc hHeld _) (fun hHeld => ?_)
      clear hK K
      try simp only [Act.put, List.setIfInBounds_toArray, List.set_cons_zero, List.set_cons_succ]
      refine wpAnyH_ready (rs := [2]) (by kernel_rfl) (by simp) ?_
      refine readyL rfl (fun K hK => ?_) AllReadyH.nil
      go_simp
      refine (c_tuneCode_one A c l _ _ (h.below (bstep B1 hOld)) hw hn).mono ?_
      rintro e w2 ⟨rfl, hbk⟩
      rw [hok]
      go_wp2_with fail
      refine hK.out _ _ (bstep hOld hbk) (fun hHeld => ?_)
      clear hK K
      try simp only [Act.put, List.setIfInBounds_toArray, List.set_cons_zero, List.set_cons_succ]
      clear hOld hbk
      refine wpAnyH_ready (rs := [4]) (by kernel_rfl) (by simp) ?_
      refine readyL rfl (fun K hK => ?_) AllReadyH.nil
      go_simp
      refine (c_within _ _ _ _).mono ?_
      rintro e w' ⟨rfl, rfl⟩
      rw [hz]
      go_wp2_with fail
      refine hK.out _ _ (hHeld) (fun hHeld => ?_)
      clear hK K
      try simp only [Act.put, List.setIfInBounds_toArray, List.set_cons_zero, List.set_cons_succ]
      refine wpAnyH_ready (rs := [5]) (by kernel_rfl) (by simp) ?_
      refine readyL rfl (fun K hK => ?_) AllReadyH.nil
      go_simp
      refine (c_unless _ _ _).mono ?_
      rintro e w' ⟨rfl, rfl⟩
      go_wp2_with fail
      refine hK.out _ _ (hHeld) (fun hHeld => ?_)
      clear hK K
      try simp only [Act.put, List.setIfInBounds_toArray, List.set_cons_zero, List.set_cons_succ]
      refine wpAnyH_ready (rs := [6]) (by kernel_rfl) (by simp) ?_
      refine readyL rfl (fun K hK => ?_) AllReadyH.nil
      go_simp
      have hOld := hHeld
      refine hK.out _ _ (balloc hHeld _) (fun hHeld => ?_)
      clear hK K
      try simp only [Act.put, List.setIfInBounds_toArray, List.set_cons_zero, List.set_cons_succ]
      refine wpAnyH_ready (rs := [7]) (by kernel_rfl) (by simp) ?_
      refine readyL rfl (fun K hK => ?_) AllReadyH.nil
      go_simp
      refine (c_firstOf_two _ _ _ _).mono ?_
      rintro e w3 ⟨rfl, hbk⟩
      go_wp2_with fail
      refine hK.out _ _ (bstep hOld hbk) (fun hHeld => ?_)
      clear hK K
      try simp only [Act.put, List.setIfInBounds_toArray, List.set_cons_zero, List.set_cons_succ]
      clear hOld hbk
      refine wpAnyH_ready (rs := [8]) (by kernel_rfl) (by simp) ?_
      refine readyL rfl (fun K hK => ?_) AllReadyH.nil
      go_simp
      refine hK.out _ _ (hHeld) (fun hHeld => ?_)
      clear hK K
      try simp only [Act.put, List.setIfInBounds_toArray, List.set_cons_zero, List.set_cons_succ]
      refine wpAnyH_done (by kernel_rfl) ?_ _
      have B3 := bstep B1 hHeld
      have hcell := (H1.out.below hHeld).cell (i := 0) rfl
      clear hHeld
      clear hcell
      go_wp2
      go_ret2
      rw [HR.out, HC.out]
      exact ⟨_, rfl, World.ownsRow_nil _ _ _ _, B3⟩
  · rcases hin : inB s (-48) 48 with _ | _
    · have HC := Lib.hid (cMove_bad (bad := 4) (g := (addG 0 s)) hok)
      have HR := Lib.hid (rMove_bad (l := l) (bad := 4) (g := (addG 0 s)))
      go_enter Tryz.func11, Tryz.ntmps11
      go_upto_region 1 with fail
      have H1 := Lib.hid (Var.new w #[.int .i64 s] 2)
      have B1 := balloc (Below.refl _ w) (.cells #[.int .i64 s] 2)
      obtain ⟨b0, hb0⟩ : ∃ b, w.heap.size = b := ⟨_, rfl⟩
      have HB0 := Lib.hid hb0
      rw [hb0] at H1 ⊢
      clear hb0
      obtain ⟨w1, hw1⟩ : ∃ w1, w.alloc (.cells #[.int .i64 s] 2) = w1 := ⟨_, rfl⟩
      rw [hw1] at H1 B1 ⊢
      clear hw1
      refine wp_region_held_drew (S := (Below w1.heap.size w1)) (by kernel_rfl) (bdrew (Below.refl _ _)) (fun hHeld => ?_)
      refine takeL (i := 0) (v := .slice A l.length c) rfl (by kernel_rfl) (by kernel_rfl) (by kernel_rfl) (fun _ _ _ h => h) (Or.inl ⟨by rfl, by intro w' hS; clear hS; go_simp⟩) hHeld ?_
      simp only [Act.put, List.setIfInBounds_toArray, List.set_cons_zero, List.set_cons_succ]
      refine takeL (i := 3) (v := .int .i64 s) rfl (by kernel_rfl) (by kernel_rfl) (by kernel_rfl) (fun _ _ _ h => h) (Or.inl ⟨by rfl, by intro w' hS; have y1 := (H1.out.below hS).cell (i := 0) rfl; clear hS; go_simp⟩) hHeld ?_
      simp only [Act.put, List.setIfInBounds_toArray, List.set_cons_zero, List.set_cons_succ]
      refine wpAnyH_ready (rs := [1]) (by kernel_rfl) (by simp) ?_
      refine readyL rfl (fun K hK => ?_) AllReadyH.nil
      go_simp
      have hOld := hHeld
      refine hK.out _ _ (balloc hHeld _) (fun hHeld => ?_)
      clear hK K
      try simp only [Act.put, List.setIfInBounds_toArray, List.set_cons_zero, List.set_cons_succ]
      refine wpAnyH_ready (rs := [2]) (by kernel_rfl) (by simp) ?_
      refine readyL rfl (fun K hK => ?_) AllReadyH.nil
      go_simp
      refine (c_tuneCode_one A c l _ _ (h.below (bstep B1 hOld)) hw hn).mono ?_
      rintro e w2 ⟨rfl, hbk⟩
      rw [hok]
      go_wp2_with fail
      refine hK.out _ _ (bstep hOld hbk) (fun hHeld => ?_)
      clear hK K
      try simp only [Act.put, List.setIfInBounds_toArray, List.set_cons_zero, List.set_cons_succ]
      clear hOld hbk
      refine wpAnyH_ready (rs := [4]) (by kernel_rfl) (by simp) ?_
      refine readyL rfl (fun K hK => ?_) AllReadyH.nil
      go_simp
      refine (c_within _ _ _ _).mono ?_
      rintro e w' ⟨rfl, rfl⟩
      rw [hin]
      go_wp2_with fail
      refine hK.out _ _ (hHeld) (fun hHeld => ?_)
      clear hK K
      try simp only [Act.put, List.setIfInBounds_toArray, List.set_cons_zero, List.set_cons_succ]
      refine wpAnyH_ready (rs := [5]) (by kernel_rfl) (by simp) ?_
      refine readyL rfl (fun K hK => ?_) AllReadyH.nil
      go_simp
      refine (c_unless _ _ _).mono ?_
      rintro e w' ⟨rfl, rfl⟩
      go_wp2_with fail
      refine hK.out _ _ (hHeld) (fun hHeld => ?_)
      clear hK K
      try simp only [Act.put, List.setIfInBounds_toArray, List.set_cons_zero, List.set_cons_succ]
      refine wpAnyH_ready (rs := [6]) (by kernel_rfl) (by simp) ?_
      refine readyL rfl (fun K hK => ?_) AllReadyH.nil
      go_simp
      have hOld := hHeld
      refine hK.out _ _ (balloc hHeld _) (fun hHeld => ?_)
      clear hK K
      try simp only [Act.put, List.setIfInBounds_toArray, List.set_cons_zero, List.set_cons_succ]
      refine wpAnyH_ready (rs := [7]) (by kernel_rfl) (by simp) ?_
      refine readyL rfl (fun K hK => ?_) AllReadyH.nil
      go_simp
      refine (c_firstOf_two _ _ _ _).mono ?_
      rintro e w3 ⟨rfl, hbk⟩
      go_wp2_with fail
      refine hK.out _ _ (bstep hOld hbk) (fun hHeld => ?_)
      clear hK K
      try simp only [Act.put, List.setIfInBounds_toArray, List.set_cons_zero, List.set_cons_succ]
      clear hOld hbk
      refine wpAnyH_ready (rs := [8]) (by kernel_rfl) (by simp) ?_
      refine readyL rfl (fun K hK => ?_) AllReadyH.nil
      go_simp
      refine hK.out _ _ (hHeld) (fun hHeld => ?_)
      clear hK K
      try simp only [Act.put, List.setIfInBounds_toArray, List.set_cons_zero, List.set_cons_succ]
      refine wpAnyH_done (by kernel_rfl) ?_ _
      have B3 := bstep B1 hHeld
      have hcell := (H1.out.below hHeld).cell (i := 0) rfl
      clear hHeld
      clear hcell
      go_wp2
      go_ret2
      rw [HR.out, HC.out]
      exact ⟨_, rfl, World.ownsRow_nil _ _ _ _, B3⟩
    · have HR := Lib.hid (rMove_ok (l := l) (bad := 4) (g := (addG 0 s)) hok)
      have hsb := inB_iff.1 hin
      have HC0 := Lib.hid (cMove_ok (bad := 4) (g := (addG 0 s)) hok)
      obtain ⟨z, hz⟩ : ∃ z : Int, (if movB (addG 0 s) l then 0 else 4) = z := ⟨_, rfl⟩
      have HZ := Lib.hid hz
      clear hz
      rw [HZ.out] at HC0
      have HC := HC0
      go_enter Tryz.func11, Tryz.ntmps11
      go_upto_region 1 with fail
      have H1 := Lib.hid (Var.new w #[.int .i64 s] 2)
      have B1 := balloc (Below.refl _ w) (.cells #[.int .i64 s] 2)
      obtain ⟨b0, hb0⟩ : ∃ b, w.heap.size = b := ⟨_, rfl⟩
      have HB0 := Lib.hid hb0
      rw [hb0] at H1 ⊢
      clear hb0
      obtain ⟨w1, hw1⟩ : ∃ w1, w.alloc (.cells #[.int .i64 s] 2) = w1 := ⟨_, rfl⟩
      rw [hw1] at H1 B1 ⊢
      clear hw1
      refine wp_region_held_drew (S := (Below w1.heap.size w1)) (by kernel_rfl) (bdrew (Below.refl _ _)) (fun hHeld => ?_)
      refine takeL (i := 0) (v := .slice A l.length c) rfl (by kernel_rfl) (by kernel_rfl) (by kernel_rfl) (fun _ _ _ h => h) (Or.inl ⟨by rfl, by intro w' hS; clear hS; go_simp⟩) hHeld ?_
      simp only [Act.put, List.setIfInBounds_toArray, List.set_cons_zero, List.set_cons_succ]
      refine takeL (i := 3) (v := .int .i64 s) rfl (by kernel_rfl) (by kernel_rfl) (by kernel_rfl) (fun _ _ _ h => h) (Or.inl ⟨by rfl, by intro w' hS; have y1 := (H1.out.below hS).cell (i := 0) rfl; clear hS; go_simp⟩) hHeld ?_
      simp only [Act.put, List.setIfInBounds_toArray, List.set_cons_zero, List.set_cons_succ]
      refine wpAnyH_ready (rs := [1]) (by kernel_rfl) (by simp) ?_
      refine readyL rfl (fun K hK => ?_) AllReadyH.nil
      go_simp
      have hOld := hHeld
      refine hK.out _ _ (balloc hHeld _) (fun hHeld => ?_)
      clear hK K
      try simp only [Act.put, List.setIfInBounds_toArray, List.set_cons_zero, List.set_cons_succ]
      refine wpAnyH_ready (rs := [2]) (by kernel_rfl) (by simp) ?_
      refine readyL rfl (fun K hK => ?_) AllReadyH.nil
      go_simp
      refine (c_tuneCode_one A c l _ _ (h.below (bstep B1 hOld)) hw hn).mono ?_
      rintro e w2 ⟨rfl, hbk⟩
      rw [hok]
      go_wp2_with fail
      refine hK.out _ _ (bstep hOld hbk) (fun hHeld => ?_)
      clear hK K
      try simp only [Act.put, List.setIfInBounds_toArray, List.set_cons_zero, List.set_cons_succ]
      clear hOld hbk
      refine wpAnyH_ready (rs := [4]) (by kernel_rfl) (by simp) ?_
      refine readyL rfl (fun K hK => ?_) AllReadyH.nil
      go_simp
      refine (c_within _ _ _ _).mono ?_
      rintro e w' ⟨rfl, rfl⟩
      rw [hin]
      go_wp2_with fail
      refine hK.out _ _ (hHeld) (fun hHeld => ?_)
      clear hK K
      try simp only [Act.put, List.setIfInBounds_toArray, List.set_cons_zero, List.set_cons_succ]
      refine wpAnyH_ready (rs := [5]) (by kernel_rfl) (by simp) ?_
      refine readyL rfl (fun K hK => ?_) AllReadyH.nil
      go_simp
      refine (c_unless _ _ _).mono ?_
      rintro e w' ⟨rfl, rfl⟩
      go_wp2_with fail
      refine hK.out _ _ (hHeld) (fun hHeld => ?_)
      clear hK K
      try simp only [Act.put, List.setIfInBounds_toArray, List.set_cons_zero, List.set_cons_succ]
      refine wpAnyH_ready (rs := [6]) (by kernel_rfl) (by simp) ?_
      refine readyL rfl (fun K hK => ?_) AllReadyH.nil
      go_simp
      have hOld := hHeld
      refine hK.out _ _ (balloc hHeld _) (fun hHeld => ?_)
      clear hK K
      try simp only [Act.put, List.setIfInBounds_toArray, List.set_cons_zero, List.set_cons_succ]
      refine wpAnyH_ready (rs := [7]) (by kernel_rfl) (by simp) ?_
      refine readyL rfl (fun K hK => ?_) AllReadyH.nil
      go_simp
      refine (c_firstOf_two _ _ _ _).mono ?_
      rintro e w3 ⟨rfl, hbk⟩
      go_wp2_with fail
      refine hK.out _ _ (bstep hOld hbk) (fun hHeld => ?_)
      clear hK K
      try simp only [Act.put, List.setIfInBounds_toArray, List.set_cons_zero, List.set_cons_succ]
      clear hOld hbk
      refine wpAnyH_ready (rs := [8]) (by kernel_rfl) (by simp) ?_
      refine readyL rfl (fun K hK => ?_) AllReadyH.nil
      go_simp
      refine hK.out _ _ (hHeld) (fun hHeld => ?_)
      clear hK K
      try simp only [Act.put, List.setIfInBounds_toArray, List.set_cons_zero, List.set_cons_succ]
      refine wpAnyH_done (by kernel_rfl) ?_ _
      have B3 := bstep B1 hHeld
      have hcell := (H1.out.below hHeld).cell (i := 0) rfl
      clear hHeld
      have HCELL := Lib.hid hcell
      clear hcell
      go_wp2_with fail
      refine (c_changedTrans b0 s A c l _ (h.below B3) hok HCELL.out (by omega)).mono ?_
      rintro e w4 ⟨A4, c4, rfl, o4, b4⟩
      rw [HZ.out]
      have O4 := Lib.hid (o4.base_le B3.size)
      clear o4
      go_wp2
      go_ret2
      rw [HR.out, HC.out]
      exact ⟨_, rfl, O4.out, bstep B3 b4⟩

end Go.Proofs.YtbdopmcjoncelaaGreatDoor
