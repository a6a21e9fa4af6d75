/-
  Stretched, in the reference and in the program.
-/
import Derived.Test.YtbdopmcjoncelaaGreatDoorWalkO
import Derived.Test.YtbdopmcjoncelaaGreatDoorWalkN
import Derived.Test.YtbdopmcjoncelaaGreatDoorWalkF
namespace Go.Proofs.YtbdopmcjoncelaaGreatDoor
open Go.RowKit
set_option linter.unusedVariables false
set_option linter.unusedSimpArgs false
set_option maxRecDepth 4000

theorem okN_str_no {n d : Int} {p : Int × Int} (h : ¬ (p.1 * n) % d = 0) : okN (strG n d p) = false := by rw [okN_inB, strG_no h]; rfl
theorem okN_str_big {n d : Int} {p : Int × Int} (h : (p.1 * n) % d = 0) (hb : 200 ≤ p.1 * n / d) : okN (strG n d p) = false := by rw [okN_inB, strG_yes h, inB_not.2 (by omega)]; rfl
theorem okN_str_yes {n d : Int} {p : Int × Int} (h : (p.1 * n) % d = 0) (h0 : 0 ≤ p.1 * n / d) (hb : p.1 * n / d < 200) (hp : 0 ≤ p.2 ∧ p.2 ≤ 47) : okN (strG n d p) = true := by
  rw [okN_inB, strG_yes h, strG_2, inB_iff.2 (by omega), inB_iff.2 (by omega)]; rfl
theorem strG_at {n d : Int} {p : Int × Int} (h : (p.1 * n) % d = 0) : strG n d p = (p.1 * n / d, p.2) := by unfold strG; rw [if_pos h]


set_option maxHeartbeats 800000 in
theorem c_implStretched (A : Option Addr) (c : Nat) (l : List (Int × Int)) (n d : Int) (w : World) (h : At2 .i16 .i8 w A l) (hw : Wf l) (hn : l.length ≤ 1073741824) (hbn : -9223372036854775808 ≤ n ∧ n ≤ 9223372036854775807) (hbd : -9223372036854775808 ≤ d ∧ d ≤ 9223372036854775807) :
    Calls Tryz.prog 24 #[.slice A l.length c, .int .i64 n, .int .i64 d] w fun e w' => ∃ v, e = .returned (.tuple #[v, .int .i64 (cMove l (inB n 1 100 && inB d 1 100) 2 (strG n d))]) ∧ Own2 .i16 .i8 40 w' w.heap.size v (rMove l (inB n 1 100 && inB d 1 100) 2 (strG n d)) ∧ Below w.heap.size w w' := by
  rcases hok : okT l with _ | _
  · have HC := Lib.hid (cMove_no (b := (inB n 1 100 && inB d 1 100)) (bad := 2) (g := (strG n d)) hok)
    have HR := Lib.hid (rMove_no (b := (inB n 1 100 && inB d 1 100)) (bad := 2) (g := (strG n d)) hok)
    rcases e1 : inB n 1 100 with _ | _
    · rw [e1] at HC HR
      go_enter Tryz.func24, Tryz.ntmps24
      go_upto_region 1 with fail
      have H1 := Lib.hid ((Var.new w #[.int .i64 n] 2).below (balloc (Below.refl _ _) (.cells #[.int .i64 d] 2)))
      have H2 := Lib.hid (Var.new (w.alloc (.cells #[.int .i64 n] 2)) #[.int .i64 d] 2)
      have B1 := balloc (balloc (Below.refl _ w) (.cells #[.int .i64 n] 2)) (.cells #[.int .i64 d] 2)
      have hsz : (w.alloc (.cells #[.int .i64 n] 2)).heap.size = w.heap.size + 1 := by simp
      rw [hsz] at H2
      clear hsz
      obtain ⟨b0, hb0⟩ : ∃ b, w.heap.size = b := ⟨_, rfl⟩
      have HB0 := Lib.hid hb0
      rw [hb0] at H1 H2 ⊢
      clear hb0
      obtain ⟨b5, hb5⟩ : ∃ b, b0 + 1 = b := ⟨_, rfl⟩
      rw [hb5] at H2 ⊢
      clear hb5
      obtain ⟨w1, hw1⟩ : ∃ w1, (w.alloc (.cells #[.int .i64 n] 2)).alloc (.cells #[.int .i64 d] 2) = w1 := ⟨_, rfl⟩
      rw [hw1] at H1 H2 B1 ⊢
      clear hw1
      refine wp_region_held_drew (S := (Below w1.heap.size w1)) (by kernel_rfl) (bdrew (Below.refl _ _)) (fun hHeld => ?_)
      refine takeL (i := 0) (v := .slice A l.length c) rfl (by kernel_rfl) (by kernel_rfl) (by kernel_rfl) (fun _ _ _ h => h) (Or.inl ⟨by rfl, by intro w' hS; clear hS; go_simp⟩) hHeld ?_
      simp only [Act.put, List.setIfInBounds_toArray, List.set_cons_zero, List.set_cons_succ]
      refine takeL (i := 3) (v := .int .i64 n) rfl (by kernel_rfl) (by kernel_rfl) (by kernel_rfl) (fun _ _ _ h => h) (Or.inl ⟨by rfl, by intro w' hS; have y1 := (H1.out.below hS).cell (i := 0) rfl; clear hS; go_simp⟩) hHeld ?_
      simp only [Act.put, List.setIfInBounds_toArray, List.set_cons_zero, List.set_cons_succ]
      refine wpAnyH_ready (rs := [1]) (by kernel_rfl) (by simp) ?_
      refine readyL rfl (fun K hK => ?_) AllReadyH.nil
      go_simp
      have hOld := hHeld
      refine hK.out _ _ (balloc hHeld _) (fun hHeld => ?_)
      clear hK K
      try simp only [Act.put, List.setIfInBounds_toArray, List.set_cons_zero, List.set_cons_succ]
      refine wpAnyH_ready (rs := [2]) (by kernel_rfl) (by simp) ?_
      refine readyL rfl (fun K hK => ?_) AllReadyH.nil
      go_simp
      refine (c_tuneCode_one A c l _ _ (h.below (bstep B1 hOld)) hw hn).mono ?_
      rintro e w2 ⟨rfl, hbk⟩
      rw [hok]
      go_wp2_with fail
      refine hK.out _ _ (bstep hOld hbk) (fun hHeld => ?_)
      clear hK K
      try simp only [Act.put, List.setIfInBounds_toArray, List.set_cons_zero, List.set_cons_succ]
      clear hOld hbk
      refine wpAnyH_ready (rs := [4]) (by kernel_rfl) (by simp) ?_
      refine readyL rfl (fun K hK => ?_) AllReadyH.nil
      go_simp
      refine (c_within _ _ _ _).mono ?_
      rintro e w' ⟨rfl, rfl⟩
      rw [e1]
      go_wp2_with fail
      refine hK.out _ _ (hHeld) (fun hHeld => ?_)
      clear hK K
      try simp only [Act.put, List.setIfInBounds_toArray, List.set_cons_zero, List.set_cons_succ]
      refine wpAnyH_ready (rs := [5]) (by kernel_rfl) (by simp) ?_
      refine readyL rfl (fun K hK => ?_) AllReadyH.nil
      go_simp
      refine hK.out _ _ (hHeld) (fun hHeld => ?_)
      clear hK K
      try simp only [Act.put, List.setIfInBounds_toArray, List.set_cons_zero, List.set_cons_succ]
      refine wpAnyH_ready (rs := [6]) (by kernel_rfl) (by simp) ?_
      refine readyL rfl (fun K hK => ?_) AllReadyH.nil
      go_simp
      refine hK.out _ _ (hHeld) (fun hHeld => ?_)
      clear hK K
      try simp only [Act.put, List.setIfInBounds_toArray, List.set_cons_zero, List.set_cons_succ]
      refine wpAnyH_ready (rs := [7]) (by kernel_rfl) (by simp) ?_
      refine readyL rfl (fun K hK => ?_) AllReadyH.nil
      go_simp
      refine hK.out _ _ (hHeld) (fun hHeld => ?_)
      clear hK K
      try simp only [Act.put, List.setIfInBounds_toArray, List.set_cons_zero, List.set_cons_succ]
      refine wpAnyH_ready (rs := [8]) (by kernel_rfl) (by simp) ?_
      refine readyL rfl (fun K hK => ?_) AllReadyH.nil
      go_simp
      refine hK.out _ _ (hHeld) (fun hHeld => ?_)
      clear hK K
      try simp only [Act.put, List.setIfInBounds_toArray, List.set_cons_zero, List.set_cons_succ]
      refine wpAnyH_ready (rs := [9]) (by kernel_rfl) (by simp) ?_
      refine readyL rfl (fun K hK => ?_) AllReadyH.nil
      go_simp
      refine (c_unless _ _ _).mono ?_
      rintro e w' ⟨rfl, rfl⟩
      go_wp2_with fail
      refine hK.out _ _ (hHeld) (fun hHeld => ?_)
      clear hK K
      try simp only [Act.put, List.setIfInBounds_toArray, List.set_cons_zero, List.set_cons_succ]
      refine wpAnyH_ready (rs := [10]) (by kernel_rfl) (by simp) ?_
      refine readyL rfl (fun K hK => ?_) AllReadyH.nil
      go_simp
      have hOld := hHeld
      refine hK.out _ _ (balloc hHeld _) (fun hHeld => ?_)
      clear hK K
      try simp only [Act.put, List.setIfInBounds_toArray, List.set_cons_zero, List.set_cons_succ]
      refine wpAnyH_ready (rs := [11]) (by kernel_rfl) (by simp) ?_
      refine readyL rfl (fun K hK => ?_) AllReadyH.nil
      go_simp
      refine (c_firstOf_two _ _ _ _).mono ?_
      rintro e w3 ⟨rfl, hbk⟩
      go_wp2_with fail
      refine hK.out _ _ (bstep hOld hbk) (fun hHeld => ?_)
      clear hK K
      try simp only [Act.put, List.setIfInBounds_toArray, List.set_cons_zero, List.set_cons_succ]
      clear hOld hbk
      refine wpAnyH_ready (rs := [12]) (by kernel_rfl) (by simp) ?_
      refine readyL rfl (fun K hK => ?_) AllReadyH.nil
      go_simp
      refine hK.out _ _ (hHeld) (fun hHeld => ?_)
      clear hK K
      try simp only [Act.put, List.setIfInBounds_toArray, List.set_cons_zero, List.set_cons_succ]
      refine wpAnyH_done (by kernel_rfl) ?_ _
      have B3 := bstep B1 hHeld
      have hcell1 := (H1.out.below hHeld).cell (i := 0) rfl
      have hcell2 := (H2.out.below hHeld).cell (i := 0) rfl
      clear hHeld
      clear hcell1 hcell2
      go_wp2
      go_ret2
      rw [HR.out, HC.out]
      exact ⟨_, rfl, World.ownsRow_nil _ _ _ _, B3⟩
    · rcases e2 : inB d 1 100 with _ | _
      all_goals
        rw [e1, e2] at HC HR
        go_enter Tryz.func24, Tryz.ntmps24
        go_upto_region 1 with fail
        have H1 := Lib.hid ((Var.new w #[.int .i64 n] 2).below (balloc (Below.refl _ _) (.cells #[.int .i64 d] 2)))
        have H2 := Lib.hid (Var.new (w.alloc (.cells #[.int .i64 n] 2)) #[.int .i64 d] 2)
        have B1 := balloc (balloc (Below.refl _ w) (.cells #[.int .i64 n] 2)) (.cells #[.int .i64 d] 2)
        have hsz : (w.alloc (.cells #[.int .i64 n] 2)).heap.size = w.heap.size + 1 := by simp
        rw [hsz] at H2
        clear hsz
        obtain ⟨b0, hb0⟩ : ∃ b, w.heap.size = b := ⟨_, rfl⟩
        have HB0 := Lib.hid hb0
        rw [hb0] at H1 H2 ⊢
        clear hb0
        obtain ⟨b5, hb5⟩ : ∃ b, b0 + 1 = b := ⟨_, rfl⟩
        rw [hb5] at H2 ⊢
        clear hb5
        obtain ⟨w1, hw1⟩ : ∃ w1, (w.alloc (.cells #[.int .i64 n] 2)).alloc (.cells #[.int .i64 d] 2) = w1 := ⟨_, rfl⟩
        rw [hw1] at H1 H2 B1 ⊢
        clear hw1
        refine wp_region_held_drew (S := (Below w1.heap.size w1)) (by kernel_rfl) (bdrew (Below.refl _ _)) (fun hHeld => ?_)
        refine takeL (i := 0) (v := .slice A l.length c) rfl (by kernel_rfl) (by kernel_rfl) (by kernel_rfl) (fun _ _ _ h => h) (Or.inl ⟨by rfl, by intro w' hS; clear hS; go_simp⟩) hHeld ?_
        simp only [Act.put, List.setIfInBounds_toArray, List.set_cons_zero, List.set_cons_succ]
        refine takeL (i := 3) (v := .int .i64 n) rfl (by kernel_rfl) (by kernel_rfl) (by kernel_rfl) (fun _ _ _ h => h) (Or.inl ⟨by rfl, by intro w' hS; have y1 := (H1.out.below hS).cell (i := 0) rfl; clear hS; go_simp⟩) hHeld ?_
        simp only [Act.put, List.setIfInBounds_toArray, List.set_cons_zero, List.set_cons_succ]
        refine wpAnyH_ready (rs := [1]) (by kernel_rfl) (by simp) ?_
        refine readyL rfl (fun K hK => ?_) AllReadyH.nil
        go_simp
        have hOld := hHeld
        refine hK.out _ _ (balloc hHeld _) (fun hHeld => ?_)
        clear hK K
        try simp only [Act.put, List.setIfInBounds_toArray, List.set_cons_zero, List.set_cons_succ]
        refine wpAnyH_ready (rs := [2]) (by kernel_rfl) (by simp) ?_
        refine readyL rfl (fun K hK => ?_) AllReadyH.nil
        go_simp
        refine (c_tuneCode_one A c l _ _ (h.below (bstep B1 hOld)) hw hn).mono ?_
        rintro e w2 ⟨rfl, hbk⟩
        rw [hok]
        go_wp2_with fail
        refine hK.out _ _ (bstep hOld hbk) (fun hHeld => ?_)
        clear hK K
        try simp only [Act.put, List.setIfInBounds_toArray, List.set_cons_zero, List.set_cons_succ]
        clear hOld hbk
        refine wpAnyH_ready (rs := [4]) (by kernel_rfl) (by simp) ?_
        refine readyL rfl (fun K hK => ?_) AllReadyH.nil
        go_simp
        refine (c_within _ _ _ _).mono ?_
        rintro e w' ⟨rfl, rfl⟩
        rw [e1]
        go_wp2_with fail
        refine hK.out _ _ (hHeld) (fun hHeld => ?_)
        clear hK K
        try simp only [Act.put, List.setIfInBounds_toArray, List.set_cons_zero, List.set_cons_succ]
        refine wpAnyH_ready (rs := [5]) (by kernel_rfl) (by simp) ?_
        refine readyL rfl (fun K hK => ?_) AllReadyH.nil
        go_simp
        refine hK.out _ _ (hHeld) (fun hHeld => ?_)
        clear hK K
        try simp only [Act.put, List.setIfInBounds_toArray, List.set_cons_zero, List.set_cons_succ]
        have y2 := (H2.out.below hHeld).cell (i := 0) rfl
        refine wpAnyH_ready (rs := [6]) (by kernel_rfl) (by simp) ?_
        refine readyL rfl (fun K hK => ?_) AllReadyH.nil
        go_simp
        clear y2
        refine hK.out _ _ (hHeld) (fun hHeld => ?_)
        clear hK K
        try simp only [Act.put, List.setIfInBounds_toArray, List.set_cons_zero, List.set_cons_succ]
        refine wpAnyH_ready (rs := [7]) (by kernel_rfl) (by simp) ?_
        refine readyL rfl (fun K hK => ?_) AllReadyH.nil
        go_simp
        refine (c_within _ _ _ _).mono ?_
        rintro e w' ⟨rfl, rfl⟩
        rw [e2]
        go_wp2_with fail
        refine hK.out _ _ (hHeld) (fun hHeld => ?_)
        clear hK K
        try simp only [Act.put, List.setIfInBounds_toArray, List.set_cons_zero, List.set_cons_succ]
        refine wpAnyH_ready (rs := [8]) (by kernel_rfl) (by simp) ?_
        refine readyL rfl (fun K hK => ?_) AllReadyH.nil
        go_simp
        refine hK.out _ _ (hHeld) (fun hHeld => ?_)
        clear hK K
        try simp only [Act.put, List.setIfInBounds_toArray, List.set_cons_zero, List.set_cons_succ]
        refine wpAnyH_ready (rs := [9]) (by kernel_rfl) (by simp) ?_
        refine readyL rfl (fun K hK => ?_) AllReadyH.nil
        go_simp
        refine (c_unless _ _ _).mono ?_
        rintro e w' ⟨rfl, rfl⟩
        go_wp2_with fail
        refine hK.out _ _ (hHeld) (fun hHeld => ?_)
        clear hK K
        try simp only [Act.put, List.setIfInBounds_toArray, List.set_cons_zero, List.set_cons_succ]
        refine wpAnyH_ready (rs := [10]) (by kernel_rfl) (by simp) ?_
        refine readyL rfl (fun K hK => ?_) AllReadyH.nil
        go_simp
        have hOld := hHeld
        refine hK.out _ _ (balloc hHeld _) (fun hHeld => ?_)
        clear hK K
        try simp only [Act.put, List.setIfInBounds_toArray, List.set_cons_zero, List.set_cons_succ]
        refine wpAnyH_ready (rs := [11]) (by kernel_rfl) (by simp) ?_
        refine readyL rfl (fun K hK => ?_) AllReadyH.nil
        go_simp
        refine (c_firstOf_two _ _ _ _).mono ?_
        rintro e w3 ⟨rfl, hbk⟩
        go_wp2_with fail
        refine hK.out _ _ (bstep hOld hbk) (fun hHeld => ?_)
        clear hK K
        try simp only [Act.put, List.setIfInBounds_toArray, List.set_cons_zero, List.set_cons_succ]
        clear hOld hbk
        refine wpAnyH_ready (rs := [12]) (by kernel_rfl) (by simp) ?_
        refine readyL rfl (fun K hK => ?_) AllReadyH.nil
        go_simp
        refine hK.out _ _ (hHeld) (fun hHeld => ?_)
        clear hK K
        try simp only [Act.put, List.setIfInBounds_toArray, List.set_cons_zero, List.set_cons_succ]
        refine wpAnyH_done (by kernel_rfl) ?_ _
        have B3 := bstep B1 hHeld
        have hcell1 := (H1.out.below hHeld).cell (i := 0) rfl
        have hcell2 := (H2.out.below hHeld).cell (i := 0) rfl
        clear hHeld
        clear hcell1 hcell2
        go_wp2
        go_ret2
        rw [HR.out, HC.out]
        exact ⟨_, rfl, World.ownsRow_nil _ _ _ _, B3⟩
  · rcases e1 : inB n 1 100 with _ | _
    · have HC := Lib.hid (show cMove l (false && inB d 1 100) 2 (strG n d) = 2 from cMove_bad (bad := 2) (g := (strG n d)) hok)
      have HR := Lib.hid (show rMove l (false && inB d 1 100) 2 (strG n d) = [] from rMove_bad (l := l) (bad := 2) (g := (strG n d)))
      go_enter Tryz.func24, Tryz.ntmps24
      go_upto_region 1 with fail
      have H1 := Lib.hid ((Var.new w #[.int .i64 n] 2).below (balloc (Below.refl _ _) (.cells #[.int .i64 d] 2)))
      have H2 := Lib.hid (Var.new (w.alloc (.cells #[.int .i64 n] 2)) #[.int .i64 d] 2)
      have B1 := balloc (balloc (Below.refl _ w) (.cells #[.int .i64 n] 2)) (.cells #[.int .i64 d] 2)
      have hsz : (w.alloc (.cells #[.int .i64 n] 2)).heap.size = w.heap.size + 1 := by simp
      rw [hsz] at H2
      clear hsz
      obtain ⟨b0, hb0⟩ : ∃ b, w.heap.size = b := ⟨_, rfl⟩
      have HB0 := Lib.hid hb0
      rw [hb0] at H1 H2 ⊢
      clear hb0
      obtain ⟨b5, hb5⟩ : ∃ b, b0 + 1 = b := ⟨_, rfl⟩
      rw [hb5] at H2 ⊢
      clear hb5
      obtain ⟨w1, hw1⟩ : ∃ w1, (w.alloc (.cells #[.int .i64 n] 2)).alloc (.cells #[.int .i64 d] 2) = w1 := ⟨_, rfl⟩
      rw [hw1] at H1 H2 B1 ⊢
      clear hw1
      refine wp_region_held_drew (S := (Below w1.heap.size w1)) (by kernel_rfl) (bdrew (Below.refl _ _)) (fun hHeld => ?_)
      refine takeL (i := 0) (v := .slice A l.length c) rfl (by kernel_rfl) (by kernel_rfl) (by kernel_rfl) (fun _ _ _ h => h) (Or.inl ⟨by rfl, by intro w' hS; clear hS; go_simp⟩) hHeld ?_
      simp only [Act.put, List.setIfInBounds_toArray, List.set_cons_zero, List.set_cons_succ]
      refine takeL (i := 3) (v := .int .i64 n) rfl (by kernel_rfl) (by kernel_rfl) (by kernel_rfl) (fun _ _ _ h => h) (Or.inl ⟨by rfl, by intro w' hS; have y1 := (H1.out.below hS).cell (i := 0) rfl; clear hS; go_simp⟩) hHeld ?_
      simp only [Act.put, List.setIfInBounds_toArray, List.set_cons_zero, List.set_cons_succ]
      refine wpAnyH_ready (rs := [1]) (by kernel_rfl) (by simp) ?_
      refine readyL rfl (fun K hK => ?_) AllReadyH.nil
      go_simp
      have hOld := hHeld
      refine hK.out _ _ (balloc hHeld _) (fun hHeld => ?_)
      clear hK K
      try simp only [Act.put, List.setIfInBounds_toArray, List.set_cons_zero, List.set_cons_succ]
      refine wpAnyH_ready (rs := [2]) (by kernel_rfl) (by simp) ?_
      refine readyL rfl (fun K hK => ?_) AllReadyH.nil
      go_simp
      refine (c_tuneCode_one A c l _ _ (h.below (bstep B1 hOld)) hw hn).mono ?_
      rintro e w2 ⟨rfl, hbk⟩
      rw [hok]
      go_wp2_with fail
      refine hK.out _ _ (bstep hOld hbk) (fun hHeld => ?_)
      clear hK K
      try simp only [Act.put, List.setIfInBounds_toArray, List.set_cons_zero, List.set_cons_succ]
      clear hOld hbk
      refine wpAnyH_ready (rs := [4]) (by kernel_rfl) (by simp) ?_
      refine readyL rfl (fun K hK => ?_) AllReadyH.nil
      go_simp
      refine (c_within _ _ _ _).mono ?_
      rintro e w' ⟨rfl, rfl⟩
      rw [e1]
      go_wp2_with fail
      refine hK.out _ _ (hHeld) (fun hHeld => ?_)
      clear hK K
      try simp only [Act.put, List.setIfInBounds_toArray, List.set_cons_zero, List.set_cons_succ]
      refine wpAnyH_ready (rs := [5]) (by kernel_rfl) (by simp) ?_
      refine readyL rfl (fun K hK => ?_) AllReadyH.nil
      go_simp
      refine hK.out _ _ (hHeld) (fun hHeld => ?_)
      clear hK K
      try simp only [Act.put, List.setIfInBounds_toArray, List.set_cons_zero, List.set_cons_succ]
      refine wpAnyH_ready (rs := [6]) (by kernel_rfl) (by simp) ?_
      refine readyL rfl (fun K hK => ?_) AllReadyH.nil
      go_simp
      refine hK.out _ _ (hHeld) (fun hHeld => ?_)
      clear hK K
      try simp only [Act.put, List.setIfInBounds_toArray, List.set_cons_zero, List.set_cons_succ]
      refine wpAnyH_ready (rs := [7]) (by kernel_rfl) (by simp) ?_
      refine readyL rfl (fun K hK => ?_) AllReadyH.nil
      go_simp
      refine hK.out _ _ (hHeld) (fun hHeld => ?_)
      clear hK K
      try simp only [Act.put, List.setIfInBounds_toArray, List.set_cons_zero, List.set_cons_succ]
      refine wpAnyH_ready (rs := [8]) (by kernel_rfl) (by simp) ?_
      refine readyL rfl (fun K hK => ?_) AllReadyH.nil
      go_simp
      refine hK.out _ _ (hHeld) (fun hHeld => ?_)
      clear hK K
      try simp only [Act.put, List.setIfInBounds_toArray, List.set_cons_zero, List.set_cons_succ]
      refine wpAnyH_ready (rs := [9]) (by kernel_rfl) (by simp) ?_
      refine readyL rfl (fun K hK => ?_) AllReadyH.nil
      go_simp
      refine (c_unless _ _ _).mono ?_
      rintro e w' ⟨rfl, rfl⟩
      go_wp2_with fail
      refine hK.out _ _ (hHeld) (fun hHeld => ?_)
      clear hK K
      try simp only [Act.put, List.setIfInBounds_toArray, List.set_cons_zero, List.set_cons_succ]
      refine wpAnyH_ready (rs := [10]) (by kernel_rfl) (by simp) ?_
      refine readyL rfl (fun K hK => ?_) AllReadyH.nil
      go_simp
      have hOld := hHeld
      refine hK.out _ _ (balloc hHeld _) (fun hHeld => ?_)
      clear hK K
      try simp only [Act.put, List.setIfInBounds_toArray, List.set_cons_zero, List.set_cons_succ]
      refine wpAnyH_ready (rs := [11]) (by kernel_rfl) (by simp) ?_
      refine readyL rfl (fun K hK => ?_) AllReadyH.nil
      go_simp
      refine (c_firstOf_two _ _ _ _).mono ?_
      rintro e w3 ⟨rfl, hbk⟩
      go_wp2_with fail
      refine hK.out _ _ (bstep hOld hbk) (fun hHeld => ?_)
      clear hK K
      try simp only [Act.put, List.setIfInBounds_toArray, List.set_cons_zero, List.set_cons_succ]
      clear hOld hbk
      refine wpAnyH_ready (rs := [12]) (by kernel_rfl) (by simp) ?_
      refine readyL rfl (fun K hK => ?_) AllReadyH.nil
      go_simp
      refine hK.out _ _ (hHeld) (fun hHeld => ?_)
      clear hK K
      try simp only [Act.put, List.setIfInBounds_toArray, List.set_cons_zero, List.set_cons_succ]
      refine wpAnyH_done (by kernel_rfl) ?_ _
      have B3 := bstep B1 hHeld
      have hcell1 := (H1.out.below hHeld).cell (i := 0) rfl
      have hcell2 := (H2.out.below hHeld).cell (i := 0) rfl
      clear hHeld
      clear hcell1 hcell2
      go_wp2
      go_ret2
      rw [HR.out, HC.out]
      exact ⟨_, rfl, World.ownsRow_nil _ _ _ _, B3⟩
    · rcases e2 : inB d 1 100 with _ | _
      · have HC := Lib.hid (show cMove l (true && false) 2 (strG n d) = 2 from cMove_bad (bad := 2) (g := (strG n d)) hok)
        have HR := Lib.hid (show rMove l (true && false) 2 (strG n d) = [] from rMove_bad (l := l) (bad := 2) (g := (strG n d)))
        go_enter Tryz.func24, Tryz.ntmps24
        go_upto_region 1 with fail
        have H1 := Lib.hid ((Var.new w #[.int .i64 n] 2).below (balloc (Below.refl _ _) (.cells #[.int .i64 d] 2)))
        have H2 := Lib.hid (Var.new (w.alloc (.cells #[.int .i64 n] 2)) #[.int .i64 d] 2)
        have B1 := balloc (balloc (Below.refl _ w) (.cells #[.int .i64 n] 2)) (.cells #[.int .i64 d] 2)
        have hsz : (w.alloc (.cells #[.int .i64 n] 2)).heap.size = w.heap.size + 1 := by simp
        rw [hsz] at H2
        clear hsz
        obtain ⟨b0, hb0⟩ : ∃ b, w.heap.size = b := ⟨_, rfl⟩
        have HB0 := Lib.hid hb0
        rw [hb0] at H1 H2 ⊢
        clear hb0
        obtain ⟨b5, hb5⟩ : ∃ b, b0 + 1 = b := ⟨_, rfl⟩
        rw [hb5] at H2 ⊢
        clear hb5
        obtain ⟨w1, hw1⟩ : ∃ w1, (w.alloc (.cells #[.int .i64 n] 2)).alloc (.cells #[.int .i64 d] 2) = w1 := ⟨_, rfl⟩
        rw [hw1] at H1 H2 B1 ⊢
        clear hw1
        refine wp_region_held_drew (S := (Below w1.heap.size w1)) (by kernel_rfl) (bdrew (Below.refl _ _)) (fun hHeld => ?_)
        refine takeL (i := 0) (v := .slice A l.length c) rfl (by kernel_rfl) (by kernel_rfl) (by kernel_rfl) (fun _ _ _ h => h) (Or.inl ⟨by rfl, by intro w' hS; clear hS; go_simp⟩) hHeld ?_
        simp only [Act.put, List.setIfInBounds_toArray, List.set_cons_zero, List.set_cons_succ]
        refine takeL (i := 3) (v := .int .i64 n) rfl (by kernel_rfl) (by kernel_rfl) (by kernel_rfl) (fun _ _ _ h => h) (Or.inl ⟨by rfl, by intro w' hS; have y1 := (H1.out.below hS).cell (i := 0) rfl; clear hS; go_simp⟩) hHeld ?_
        simp only [Act.put, List.setIfInBounds_toArray, List.set_cons_zero, List.set_cons_succ]
        refine wpAnyH_ready (rs := [1]) (by kernel_rfl) (by simp) ?_
        refine readyL rfl (fun K hK => ?_) AllReadyH.nil
        go_simp
        have hOld := hHeld
        refine hK.out _ _ (balloc hHeld _) (fun hHeld => ?_)
        clear hK K
        try simp only [Act.put, List.setIfInBounds_toArray, List.set_cons_zero, List.set_cons_succ]
        refine wpAnyH_ready (rs := [2]) (by kernel_rfl) (by simp) ?_
        refine readyL rfl (fun K hK => ?_) AllReadyH.nil
        go_simp
        refine (c_tuneCode_one A c l _ _ (h.below (bstep B1 hOld)) hw hn).mono ?_
        rintro e w2 ⟨rfl, hbk⟩
        rw [hok]
        go_wp2_with fail
        refine hK.out _ _ (bstep hOld hbk) (fun hHeld => ?_)
        clear hK K
        try simp only [Act.put, List.setIfInBounds_toArray, List.set_cons_zero, List.set_cons_succ]
        clear hOld hbk
        refine wpAnyH_ready (rs := [4]) (by kernel_rfl) (by simp) ?_
        refine readyL rfl (fun K hK => ?_) AllReadyH.nil
        go_simp
        refine (c_within _ _ _ _).mono ?_
        rintro e w' ⟨rfl, rfl⟩
        rw [e1]
        go_wp2_with fail
        refine hK.out _ _ (hHeld) (fun hHeld => ?_)
        clear hK K
        try simp only [Act.put, List.setIfInBounds_toArray, List.set_cons_zero, List.set_cons_succ]
        refine wpAnyH_ready (rs := [5]) (by kernel_rfl) (by simp) ?_
        refine readyL rfl (fun K hK => ?_) AllReadyH.nil
        go_simp
        refine hK.out _ _ (hHeld) (fun hHeld => ?_)
        clear hK K
        try simp only [Act.put, List.setIfInBounds_toArray, List.set_cons_zero, List.set_cons_succ]
        have y2 := (H2.out.below hHeld).cell (i := 0) rfl
        refine wpAnyH_ready (rs := [6]) (by kernel_rfl) (by simp) ?_
        refine readyL rfl (fun K hK => ?_) AllReadyH.nil
        go_simp
        clear y2
        refine hK.out _ _ (hHeld) (fun hHeld => ?_)
        clear hK K
        try simp only [Act.put, List.setIfInBounds_toArray, List.set_cons_zero, List.set_cons_succ]
        refine wpAnyH_ready (rs := [7]) (by kernel_rfl) (by simp) ?_
        refine readyL rfl (fun K hK => ?_) AllReadyH.nil
        go_simp
        refine (c_within _ _ _ _).mono ?_
        rintro e w' ⟨rfl, rfl⟩
        rw [e2]
        go_wp2_with fail
        refine hK.out _ _ (hHeld) (fun hHeld => ?_)
        clear hK K
        try simp only [Act.put, List.setIfInBounds_toArray, List.set_cons_zero, List.set_cons_succ]
        refine wpAnyH_ready (rs := [8]) (by kernel_rfl) (by simp) ?_
        refine readyL rfl (fun K hK => ?_) AllReadyH.nil
        go_simp
        refine hK.out _ _ (hHeld) (fun hHeld => ?_)
        clear hK K
        try simp only [Act.put, List.setIfInBounds_toArray, List.set_cons_zero, List.set_cons_succ]
        refine wpAnyH_ready (rs := [9]) (by kernel_rfl) (by simp) ?_
        refine readyL rfl (fun K hK => ?_) AllReadyH.nil
        go_simp
        refine (c_unless _ _ _).mono ?_
        rintro e w' ⟨rfl, rfl⟩
        go_wp2_with fail
        refine hK.out _ _ (hHeld) (fun hHeld => ?_)
        clear hK K
        try simp only [Act.put, List.setIfInBounds_toArray, List.set_cons_zero, List.set_cons_succ]
        refine wpAnyH_ready (rs := [10]) (by kernel_rfl) (by simp) ?_
        refine readyL rfl (fun K hK => ?_) AllReadyH.nil
        go_simp
        have hOld := hHeld
        refine hK.out _ _ (balloc hHeld _) (fun hHeld => ?_)
        clear hK K
        try simp only [Act.put, List.setIfInBounds_toArray, List.set_cons_zero, List.set_cons_succ]
        refine wpAnyH_ready (rs := [11]) (by kernel_rfl) (by simp) ?_
        refine readyL rfl (fun K hK => ?_) AllReadyH.nil
        go_simp
        refine (c_firstOf_two _ _ _ _).mono ?_
        rintro e w3 ⟨rfl, hbk⟩
        go_wp2_with fail
        refine hK.out _ _ (bstep hOld hbk) (fun hHeld => ?_)
        clear hK K
        try simp only [Act.put, List.setIfInBounds_toArray, List.set_cons_zero, List.set_cons_succ]
        clear hOld hbk
        refine wpAnyH_ready (rs := [12]) (by kernel_rfl) (by simp) ?_
        refine readyL rfl (fun K hK => ?_) AllReadyH.nil
        go_simp
        refine hK.out _ _ (hHeld) (fun hHeld => ?_)
        clear hK K
        try simp only [Act.put, List.setIfInBounds_toArray, List.set_cons_zero, List.set_cons_succ]
        refine wpAnyH_done (by kernel_rfl) ?_ _
        have B3 := bstep B1 hHeld
        have hcell1 := (H1.out.below hHeld).cell (i := 0) rfl
        have hcell2 := (H2.out.below hHeld).cell (i := 0) rfl
        clear hHeld
        clear hcell1 hcell2
        go_wp2
        go_ret2
        rw [HR.out, HC.out]
        exact ⟨_, rfl, World.ownsRow_nil _ _ _ _, B3⟩
      · have HR := Lib.hid (show rMove l (true && true) 2 (strG n d) = movR (strG n d) l from rMove_ok (l := l) (bad := 2) (g := (strG n d)) hok)
        have hnb := inB_iff.1 e1
        have hdb := inB_iff.1 e2
        have HC0 := Lib.hid (show cMove l (true && true) 2 (strG n d) = (if movB (strG n d) l then 0 else 4) from cMove_ok (bad := 2) (g := (strG n d)) hok)
        obtain ⟨z, hz⟩ : ∃ z : Int, (if movB (strG n d) l then 0 else 4) = z := ⟨_, rfl⟩
        have HZ := Lib.hid hz
        clear hz
        rw [HZ.out] at HC0
        have HC := HC0
        go_enter Tryz.func24, Tryz.ntmps24
        go_upto_region 1 with fail
        have H1 := Lib.hid ((Var.new w #[.int .i64 n] 2).below (balloc (Below.refl _ _) (.cells #[.int .i64 d] 2)))
        have H2 := Lib.hid (Var.new (w.alloc (.cells #[.int .i64 n] 2)) #[.int .i64 d] 2)
        have B1 := balloc (balloc (Below.refl _ w) (.cells #[.int .i64 n] 2)) (.cells #[.int .i64 d] 2)
        have hsz : (w.alloc (.cells #[.int .i64 n] 2)).heap.size = w.heap.size + 1 := by simp
        rw [hsz] at H2
        clear hsz
        obtain ⟨b0, hb0⟩ : ∃ b, w.heap.size = b := ⟨_, rfl⟩
        have HB0 := Lib.hid hb0
        rw [hb0] at H1 H2 ⊢
        clear hb0
        obtain ⟨b5, hb5⟩ : ∃ b, b0 + 1 = b := ⟨_, rfl⟩
        rw [hb5] at H2 ⊢
        clear hb5
        obtain ⟨w1, hw1⟩ : ∃ w1, (w.alloc (.cells #[.int .i64 n] 2)).alloc (.cells #[.int .i64 d] 2) = w1 := ⟨_, rfl⟩
        rw [hw1] at H1 H2 B1 ⊢
        clear hw1
        refine wp_region_held_drew (S := (Below w1.heap.size w1)) (by kernel_rfl) (bdrew (Below.refl _ _)) (fun hHeld => ?_)
        refine takeL (i := 0) (v := .slice A l.length c) rfl (by kernel_rfl) (by kernel_rfl) (by kernel_rfl) (fun _ _ _ h => h) (Or.inl ⟨by rfl, by intro w' hS; clear hS; go_simp⟩) hHeld ?_
        simp only [Act.put, List.setIfInBounds_toArray, List.set_cons_zero, List.set_cons_succ]
        refine takeL (i := 3) (v := .int .i64 n) rfl (by kernel_rfl) (by kernel_rfl) (by kernel_rfl) (fun _ _ _ h => h) (Or.inl ⟨by rfl, by intro w' hS; have y1 := (H1.out.below hS).cell (i := 0) rfl; clear hS; go_simp⟩) hHeld ?_
        simp only [Act.put, List.setIfInBounds_toArray, List.set_cons_zero, List.set_cons_succ]
        refine wpAnyH_ready (rs := [1]) (by kernel_rfl) (by simp) ?_
        refine readyL rfl (fun K hK => ?_) AllReadyH.nil
        go_simp
        have hOld := hHeld
        refine hK.out _ _ (balloc hHeld _) (fun hHeld => ?_)
        clear hK K
        try simp only [Act.put, List.setIfInBounds_toArray, List.set_cons_zero, List.set_cons_succ]
        refine wpAnyH_ready (rs := [2]) (by kernel_rfl) (by simp) ?_
        refine readyL rfl (fun K hK => ?_) AllReadyH.nil
        go_simp
        refine (c_tuneCode_one A c l _ _ (h.below (bstep B1 hOld)) hw hn).mono ?_
        rintro e w2 ⟨rfl, hbk⟩
        rw [hok]
        go_wp2_with fail
        refine hK.out _ _ (bstep hOld hbk) (fun hHeld => ?_)
        clear hK K
        try simp only [Act.put, List.setIfInBounds_toArray, List.set_cons_zero, List.set_cons_succ]
        clear hOld hbk
        refine wpAnyH_ready (rs := [4]) (by kernel_rfl) (by simp) ?_
        refine readyL rfl (fun K hK => ?_) AllReadyH.nil
        go_simp
        refine (c_within _ _ _ _).mono ?_
        rintro e w' ⟨rfl, rfl⟩
        rw [e1]
        go_wp2_with fail
        refine hK.out _ _ (hHeld) (fun hHeld => ?_)
        clear hK K
        try simp only [Act.put, List.setIfInBounds_toArray, List.set_cons_zero, List.set_cons_succ]
        refine wpAnyH_ready (rs := [5]) (by kernel_rfl) (by simp) ?_
        refine readyL rfl (fun K hK => ?_) AllReadyH.nil
        go_simp
        refine hK.out _ _ (hHeld) (fun hHeld => ?_)
        clear hK K
        try simp only [Act.put, List.setIfInBounds_toArray, List.set_cons_zero, List.set_cons_succ]
        have y2 := (H2.out.below hHeld).cell (i := 0) rfl
        refine wpAnyH_ready (rs := [6]) (by kernel_rfl) (by simp) ?_
        refine readyL rfl (fun K hK => ?_) AllReadyH.nil
        go_simp
        clear y2
        refine hK.out _ _ (hHeld) (fun hHeld => ?_)
        clear hK K
        try simp only [Act.put, List.setIfInBounds_toArray, List.set_cons_zero, List.set_cons_succ]
        refine wpAnyH_ready (rs := [7]) (by kernel_rfl) (by simp) ?_
        refine readyL rfl (fun K hK => ?_) AllReadyH.nil
        go_simp
        refine (c_within _ _ _ _).mono ?_
        rintro e w' ⟨rfl, rfl⟩
        rw [e2]
        go_wp2_with fail
        refine hK.out _ _ (hHeld) (fun hHeld => ?_)
        clear hK K
        try simp only [Act.put, List.setIfInBounds_toArray, List.set_cons_zero, List.set_cons_succ]
        refine wpAnyH_ready (rs := [8]) (by kernel_rfl) (by simp) ?_
        refine readyL rfl (fun K hK => ?_) AllReadyH.nil
        go_simp
        refine hK.out _ _ (hHeld) (fun hHeld => ?_)
        clear hK K
        try simp only [Act.put, List.setIfInBounds_toArray, List.set_cons_zero, List.set_cons_succ]
        refine wpAnyH_ready (rs := [9]) (by kernel_rfl) (by simp) ?_
        refine readyL rfl (fun K hK => ?_) AllReadyH.nil
        go_simp
        refine (c_unless _ _ _).mono ?_
        rintro e w' ⟨rfl, rfl⟩
        go_wp2_with fail
        refine hK.out _ _ (hHeld) (fun hHeld => ?_)
        clear hK K
        try simp only [Act.put, List.setIfInBounds_toArray, List.set_cons_zero, List.set_cons_succ]
        refine wpAnyH_ready (rs := [10]) (by kernel_rfl) (by simp) ?_
        refine readyL rfl (fun K hK => ?_) AllReadyH.nil
        go_simp
        have hOld := hHeld
        refine hK.out _ _ (balloc hHeld _) (fun hHeld => ?_)
        clear hK K
        try simp only [Act.put, List.setIfInBounds_toArray, List.set_cons_zero, List.set_cons_succ]
        refine wpAnyH_ready (rs := [11]) (by kernel_rfl) (by simp) ?_
        refine readyL rfl (fun K hK => ?_) AllReadyH.nil
        go_simp
        refine (c_firstOf_two _ _ _ _).mono ?_
        rintro e w3 ⟨rfl, hbk⟩
        go_wp2_with fail
        refine hK.out _ _ (bstep hOld hbk) (fun hHeld => ?_)
        clear hK K
        try simp only [Act.put, List.setIfInBounds_toArray, List.set_cons_zero, List.set_cons_succ]
        clear hOld hbk
        refine wpAnyH_ready (rs := [12]) (by kernel_rfl) (by simp) ?_
        refine readyL rfl (fun K hK => ?_) AllReadyH.nil
        go_simp
        refine hK.out _ _ (hHeld) (fun hHeld => ?_)
        clear hK K
        try simp only [Act.put, List.setIfInBounds_toArray, List.set_cons_zero, List.set_cons_succ]
        refine wpAnyH_done (by kernel_rfl) ?_ _
        have B3 := bstep B1 hHeld
        have hcell1 := (H1.out.below hHeld).cell (i := 0) rfl
        have hcell2 := (H2.out.below hHeld).cell (i := 0) rfl
        clear hHeld
        have HCELL := Lib.hid (And.intro hcell1 hcell2)
        clear hcell1 hcell2
        go_wp2_with fail
        refine (c_changedStr b0 b5 n d A c l _ (h.below B3) hok HCELL.out (by omega)).mono ?_
        rintro e w4 ⟨A4, c4, rfl, o4, b4⟩
        rw [HZ.out]
        have O4 := Lib.hid (o4.base_le B3.size)
        clear o4
        go_wp2
        go_ret2
        rw [HR.out, HC.out]
        exact ⟨_, rfl, O4.out, bstep B3 b4⟩

end Go.Proofs.YtbdopmcjoncelaaGreatDoor
