/-
  The statement FnExactWithoutPinSaid: whatever is given, the law's call returns true, and what is given reads as it did: the program's WithoutPin returns what the reference's returns. Conditions: none beyond the statement's own.
-/
import Derived.Test.YtpfcbcmmofombaaRows
import Derived.Test.YtpfcbcmmofombaaOpenD
import Derived.Test.YtpfcbcmmofombaaDataF
import Derived.Test.YtpfcbcmmofombaaWalkDQ
namespace Go.Proofs.Ytpfcbcmmofombaa
open Go.RowKit
set_option linter.unusedVariables false
set_option linter.unusedSimpArgs false

set_option maxRecDepth 100000 in
set_option maxHeartbeats 4000000 in
theorem law_WithoutPin (sf : Int) (Af : Option Addr) (kf : Nat) (f : List (Int × Int)) (d : List Int) (p : Int) (q : Int) (w : World) (hf : At2 .i8 .i8 w Af f) (hsf : W16 sf) (hwf : Whs f) (hnf : f.length ≤ 9223372036854775807) (hd : d.length = 96) (hrd : ∀ x ∈ d, 0 ≤ x ∧ x ≤ 4294967295) (hbp : -9223372036854775808 ≤ p ∧ p ≤ 9223372036854775807) (hbq : -9223372036854775808 ≤ q ∧ q ≤ 9223372036854775807) :
    Calls Try.prog 13 #[.agg #[.int .i16 sf, .slice Af f.length kf], .agg (drumV d), .int .i64 p, .int .i64 q] w fun e w' => e = .returned (.bool true) ∧ Below w.heap.size w w' := by
  have hu := Try.underlying30
  have hu2 := Try.underlying25
  have hud := Try.underlying38
  have hid1 : (Try.prog.info? 38).map (·.size) = some 96 := by kernel_rfl
  have hlnd : (Try.prog.info? 38).map (·.size) = some (drumV d).toList.length := by rw [drumV_len, hd]; exact hid1
  by_cases hLf0 : f.length ≤ 1048576
  · have hsz : szI 1048576 f.length = 1048576 - (f.length : Int) := by unfold szI; split <;> omega
    have ht : decide (1048576 - (f.length : Int) < 0) = false := decide_eq_false (by omega)
    have hLf : f.length ≤ 1073741824 := by omega
    go_enter Try.func13, Try.ntmps13
    go_wp2_with fail
    refine (c_szFrame sf Af kf f.length (1048576) _ (by omega) (by omega) hnf).mono ?_
    rintro e w1 ⟨rfl, b1⟩
    have v0 : Var ((w.alloc (.cells #[.int .i16 sf, .slice Af f.length kf] 25)).alloc (.cells (drumV d) 38)) (w.heap.size) #[.int .i16 sf, .slice Af f.length kf] 25 := by simpa using ((Var.new w #[.int .i16 sf, .slice Af f.length kf] 25).old (.cells (drumV d) 38))
    have H1 := Lib.hid (v0.below b1)
    clear v0
    have v1 : Var ((w.alloc (.cells #[.int .i16 sf, .slice Af f.length kf] 25)).alloc (.cells (drumV d) 38)) (w.heap.size + 1) (drumV d) 38 := by simpa using (Var.new (w.alloc (.cells #[.int .i16 sf, .slice Af f.length kf] 25)) (drumV d) 38)
    have Dd1 := Lib.hid (v1.below b1)
    clear v1
    have B1 := bstep (balloc (balloc (Below.refl _ w) _) _) b1
    rw [hsz]
    clear hsz
    go_upto_region 5 with fail
    go_cut [10, 11] from 15 (fun s t w' => ∃ g, s = .pointer (some ⟨g, 0, none⟩) ∧ t = .int .i64 (cW sf f d p q false) ∧ Var w' g (drumV (rW sf f d p q false)) 40 ∧ w1.heap.size ≤ g ∧ Below w1.heap.size w1 w')
    case first =>
      refine wp_region_held_drew (S := (Below w1.heap.size w1)) (by kernel_rfl) (bdrew (Below.refl _ _)) (fun hHeld => ?_)
      refine takeL (i := 0) (v := .agg #[.int .i16 sf, .slice Af f.length kf]) rfl (by kernel_rfl) (by kernel_rfl) (by kernel_rfl) (fun _ _ _ h => h) (Or.inl ⟨by rfl, by intro w' hS; have y1 := (H1.out.below hS).cell (i := 0) rfl; have y2 := (H1.out.below hS).cell (i := 1) rfl; clear hS; go_simp⟩) hHeld ?_
      simp only [Act.put, List.setIfInBounds_toArray, List.set_cons_zero, List.set_cons_succ]
      refine takeL (i := 2) (v := .agg (drumV d)) rfl (by kernel_rfl) (by kernel_rfl) (by kernel_rfl) (fun _ _ _ h => h) (by simpa using yieldsIf_load_mid (S := (Below w1.heap.size w1)) (by rfl) _ _ rfl _ _ rfl (drumV d).toList _ (fun w' hS => (Dd1.out.below hS).range) hud rfl hlnd) hHeld ?_
      simp only [Act.put, List.setIfInBounds_toArray, List.set_cons_zero, List.set_cons_succ]
      refine takeL (i := 4) (v := .int .i64 p) rfl (by kernel_rfl) (by kernel_rfl) (by kernel_rfl) (fun _ _ _ h => h) (Or.inl ⟨by rfl, by intro w' hS; clear hS; go_simp⟩) hHeld ?_
      simp only [Act.put, List.setIfInBounds_toArray, List.set_cons_zero, List.set_cons_succ]
      refine takeL (i := 5) (v := .int .i64 q) rfl (by kernel_rfl) (by kernel_rfl) (by kernel_rfl) (fun _ _ _ h => h) (Or.inl ⟨by rfl, by intro w' hS; clear hS; go_simp⟩) hHeld ?_
      simp only [Act.put, List.setIfInBounds_toArray, List.set_cons_zero, List.set_cons_succ]
      refine wpAnyH_ready (rs := [1, 10]) (by kernel_rfl) (by simp) ?_
      refine readyL rfl (fun K hK => ?_) (readyL rfl (fun K hK => ?_) AllReadyH.nil)
      ·
        go_simp
        refine (c_toFrame sf Af kf f _ (hf.below (bstep B1 hHeld)) hLf).mono ?_
        rintro e wa ⟨Ax, kx, rfl, ox, hbk⟩
        go_wp2_with fail
        refine hK.out _ _ (bstep hHeld hbk) (fun hHeld => ?_)
        clear hK K
        try simp only [Act.put, List.setIfInBounds_toArray, List.set_cons_zero, List.set_cons_succ]
        refine wpAnyH_ready (rs := [3, 10]) (by kernel_rfl) (by simp) ?_
        refine readyL rfl (fun K hK => ?_) (readyL rfl (fun K hK => ?_) AllReadyH.nil)
        ·
          go_simp
          refine (c_toDrum d _ hd).mono ?_
          rintro e wb0 ⟨rfl, hbk⟩
          go_wp2_with fail
          have oy := ox; clear ox; have ox := oy.below hbk; clear oy
          refine hK.out _ _ (bstep hHeld hbk) (fun hHeld => ?_)
          clear hK K
          try simp only [Act.put, List.setIfInBounds_toArray, List.set_cons_zero, List.set_cons_succ]
          refine wpAnyH_ready (rs := [6, 10]) (by kernel_rfl) (by simp) ?_
          refine readyL rfl (fun K hK => ?_) (readyL rfl (fun K hK => ?_) AllReadyH.nil)
          ·
            go_simp
            refine (c_specWithoutPin sf Ax kx f d p q _ ox.at_ hsf hwf hLf hd hrd hbp hbq).mono ?_
            rintro e wd ⟨rfl, hbk⟩
            go_wp2_with fail
            have oy := ox; clear ox; have ox := oy.below hbk; clear oy
            refine hK.out _ _ (bstep hHeld hbk) (fun hHeld => ?_)
            clear hK K
            try simp only [Act.put, List.setIfInBounds_toArray, List.set_cons_zero, List.set_cons_succ]
            refine takeL (i := 7) (v := .tuple #[.agg (drumV (rW sf f d p q false)), .int .i64 (cW sf f d p q false)]) rfl (by kernel_rfl) (by kernel_rfl) (by kernel_rfl) (fun _ _ _ h => h) (Or.inl ⟨by rfl, by intro w' hS; clear hS; go_simp⟩) hHeld ?_
            simp only [Act.put, List.setIfInBounds_toArray, List.set_cons_zero, List.set_cons_succ]
            refine takeL (i := 8) (v := .agg (drumV (rW sf f d p q false))) rfl (by kernel_rfl) (by kernel_rfl) (by kernel_rfl) (fun _ _ _ h => h) (Or.inl ⟨by rfl, by intro w' hS; clear hS; go_simp⟩) hHeld ?_
            simp only [Act.put, List.setIfInBounds_toArray, List.set_cons_zero, List.set_cons_succ]
            refine takeL (i := 9) (v := .int .i64 (cW sf f d p q false)) rfl (by kernel_rfl) (by kernel_rfl) (by kernel_rfl) (fun _ _ _ h => h) (Or.inl ⟨by rfl, by intro w' hS; clear hS; go_simp⟩) hHeld ?_
            simp only [Act.put, List.setIfInBounds_toArray, List.set_cons_zero, List.set_cons_succ]
            refine wpAnyH_ready (rs := [10]) (by kernel_rfl) (by simp) ?_
            refine readyL rfl (fun K hK => ?_) AllReadyH.nil
            rw [if_pos (by rfl)]
            refine wp_alloc_drum rfl zero_Drum ?_
            obtain ⟨g, hg⟩ : ∃ g : Nat, g = wd.heap.size := ⟨_, rfl⟩
            have hV := Var.new wd (drumV zD) 40
            have hgl := hHeld.size
            have hgl : w1.heap.size ≤ g := by rw [hg]; exact hgl
            rw [← hg] at hV ⊢
            have oy := ox; clear ox; have ox := oy.alloc (.cells (drumV zD) 40); clear oy
            refine hK.out _ _ (balloc hHeld _) (fun hHeld => ?_)
            clear hK K
            try simp only [Act.put, List.setIfInBounds_toArray, List.set_cons_zero, List.set_cons_succ]
            obtain ⟨u1, hu1⟩ : ∃ x, x = wd.alloc (.cells (drumV zD) 40) := ⟨_, rfl⟩
            rw [← hu1] at hHeld hV ox ⊢
            clear hu1 hg
            refine wpAnyH_ready (rs := [11]) (by kernel_rfl) (by simp) ?_
            refine readyL rfl (fun K hK => ?_) AllReadyH.nil
            rw [if_pos (by rfl)]
            refine wp_storeD rfl hV rfl rfl size_Drum (rW_len hd sf f p q false) zD_len ?_
            have hV2 := hV.row (drumV (rW sf f d p q false))
            refine hK.out _ _ (brow hHeld hgl _) (fun hHeld => ?_)
            clear hK K
            try simp only [Act.put, List.setIfInBounds_toArray, List.set_cons_zero, List.set_cons_succ]
            refine wpAnyH_ready (rs := [12]) (by kernel_rfl) (by simp) ?_
            refine readyL rfl (fun K hK => ?_) AllReadyH.nil
            go_simp
            refine hK.out _ _ (hHeld) (fun hHeld => ?_)
            clear hK K
            try simp only [Act.put, List.setIfInBounds_toArray, List.set_cons_zero, List.set_cons_succ]
            refine wpAnyH_done (by kernel_rfl) ?_ _
            go_wp2_with fail
            go_meet
            case rel => exact ⟨_, rfl, rfl, hV2, hgl, hHeld⟩
          ·
            rw [if_pos (by rfl)]
            refine wp_alloc_drum rfl zero_Drum ?_
            obtain ⟨g, hg⟩ : ∃ g : Nat, g = wb0.heap.size := ⟨_, rfl⟩
            have hV := Var.new wb0 (drumV zD) 40
            have hgl := hHeld.size
            have hgl : w1.heap.size ≤ g := by rw [hg]; exact hgl
            rw [← hg] at hV ⊢
            have oy := ox; clear ox; have ox := oy.alloc (.cells (drumV zD) 40); clear oy
            refine hK.out _ _ (balloc hHeld _) (fun hHeld => ?_)
            clear hK K
            try simp only [Act.put, List.setIfInBounds_toArray, List.set_cons_zero, List.set_cons_succ]
            obtain ⟨u2, hu2⟩ : ∃ x, x = wb0.alloc (.cells (drumV zD) 40) := ⟨_, rfl⟩
            rw [← hu2] at hHeld hV ox ⊢
            clear hu2 hg
            refine wpAnyH_ready (rs := [6]) (by kernel_rfl) (by simp) ?_
            refine readyL rfl (fun K hK => ?_) AllReadyH.nil
            go_simp
            refine (c_specWithoutPin sf Ax kx f d p q _ ox.at_ hsf hwf hLf hd hrd hbp hbq).mono ?_
            rintro e wd ⟨rfl, hbk⟩
            go_wp2_with fail
            have oy := ox; clear ox; have ox := oy.below hbk; clear oy
            try have hV := hV.below hbk
            refine hK.out _ _ (bstep hHeld hbk) (fun hHeld => ?_)
            clear hK K
            try simp only [Act.put, List.setIfInBounds_toArray, List.set_cons_zero, List.set_cons_succ]
            refine takeL (i := 7) (v := .tuple #[.agg (drumV (rW sf f d p q false)), .int .i64 (cW sf f d p q false)]) rfl (by kernel_rfl) (by kernel_rfl) (by kernel_rfl) (fun _ _ _ h => h) (Or.inl ⟨by rfl, by intro w' hS; clear hS; go_simp⟩) hHeld ?_
            simp only [Act.put, List.setIfInBounds_toArray, List.set_cons_zero, List.set_cons_succ]
            refine takeL (i := 8) (v := .agg (drumV (rW sf f d p q false))) rfl (by kernel_rfl) (by kernel_rfl) (by kernel_rfl) (fun _ _ _ h => h) (Or.inl ⟨by rfl, by intro w' hS; clear hS; go_simp⟩) hHeld ?_
            simp only [Act.put, List.setIfInBounds_toArray, List.set_cons_zero, List.set_cons_succ]
            refine takeL (i := 9) (v := .int .i64 (cW sf f d p q false)) rfl (by kernel_rfl) (by kernel_rfl) (by kernel_rfl) (fun _ _ _ h => h) (Or.inl ⟨by rfl, by intro w' hS; clear hS; go_simp⟩) hHeld ?_
            simp only [Act.put, List.setIfInBounds_toArray, List.set_cons_zero, List.set_cons_succ]
            refine wpAnyH_ready (rs := [11]) (by kernel_rfl) (by simp) ?_
            refine readyL rfl (fun K hK => ?_) AllReadyH.nil
            rw [if_pos (by rfl)]
            refine wp_storeD rfl hV rfl rfl size_Drum (rW_len hd sf f p q false) zD_len ?_
            have hV2 := hV.row (drumV (rW sf f d p q false))
            refine hK.out _ _ (brow hHeld hgl _) (fun hHeld => ?_)
            clear hK K
            try simp only [Act.put, List.setIfInBounds_toArray, List.set_cons_zero, List.set_cons_succ]
            refine wpAnyH_ready (rs := [12]) (by kernel_rfl) (by simp) ?_
            refine readyL rfl (fun K hK => ?_) AllReadyH.nil
            go_simp
            refine hK.out _ _ (hHeld) (fun hHeld => ?_)
            clear hK K
            try simp only [Act.put, List.setIfInBounds_toArray, List.set_cons_zero, List.set_cons_succ]
            refine wpAnyH_done (by kernel_rfl) ?_ _
            go_wp2_with fail
            go_meet
            case rel => exact ⟨_, rfl, rfl, hV2, hgl, hHeld⟩
        ·
          rw [if_pos (by rfl)]
          refine wp_alloc_drum rfl zero_Drum ?_
          obtain ⟨g, hg⟩ : ∃ g : Nat, g = wa.heap.size := ⟨_, rfl⟩
          have hV := Var.new wa (drumV zD) 40
          have hgl := hHeld.size
          have hgl : w1.heap.size ≤ g := by rw [hg]; exact hgl
          rw [← hg] at hV ⊢
          have oy := ox; clear ox; have ox := oy.alloc (.cells (drumV zD) 40); clear oy
          refine hK.out _ _ (balloc hHeld _) (fun hHeld => ?_)
          clear hK K
          try simp only [Act.put, List.setIfInBounds_toArray, List.set_cons_zero, List.set_cons_succ]
          obtain ⟨u3, hu3⟩ : ∃ x, x = wa.alloc (.cells (drumV zD) 40) := ⟨_, rfl⟩
          rw [← hu3] at hHeld hV ox ⊢
          clear hu3 hg
          refine wpAnyH_ready (rs := [3]) (by kernel_rfl) (by simp) ?_
          refine readyL rfl (fun K hK => ?_) AllReadyH.nil
          go_simp
          refine (c_toDrum d _ hd).mono ?_
          rintro e wb0 ⟨rfl, hbk⟩
          go_wp2_with fail
          have oy := ox; clear ox; have ox := oy.below hbk; clear oy
          try have hV := hV.below hbk
          refine hK.out _ _ (bstep hHeld hbk) (fun hHeld => ?_)
          clear hK K
          try simp only [Act.put, List.setIfInBounds_toArray, List.set_cons_zero, List.set_cons_succ]
          refine wpAnyH_ready (rs := [6]) (by kernel_rfl) (by simp) ?_
          refine readyL rfl (fun K hK => ?_) AllReadyH.nil
          go_simp
          refine (c_specWithoutPin sf Ax kx f d p q _ ox.at_ hsf hwf hLf hd hrd hbp hbq).mono ?_
          rintro e wd ⟨rfl, hbk⟩
          go_wp2_with fail
          have oy := ox; clear ox; have ox := oy.below hbk; clear oy
          try have hV := hV.below hbk
          refine hK.out _ _ (bstep hHeld hbk) (fun hHeld => ?_)
          clear hK K
          try simp only [Act.put, List.setIfInBounds_toArray, List.set_cons_zero, List.set_cons_succ]
          refine takeL (i := 7) (v := .tuple #[.agg (drumV (rW sf f d p q false)), .int .i64 (cW sf f d p q false)]) rfl (by kernel_rfl) (by kernel_rfl) (by kernel_rfl) (fun _ _ _ h => h) (Or.inl ⟨by rfl, by intro w' hS; clear hS; go_simp⟩) hHeld ?_
          simp only [Act.put, List.setIfInBounds_toArray, List.set_cons_zero, List.set_cons_succ]
          refine takeL (i := 8) (v := .agg (drumV (rW sf f d p q false))) rfl (by kernel_rfl) (by kernel_rfl) (by kernel_rfl) (fun _ _ _ h => h) (Or.inl ⟨by rfl, by intro w' hS; clear hS; go_simp⟩) hHeld ?_
          simp only [Act.put, List.setIfInBounds_toArray, List.set_cons_zero, List.set_cons_succ]
          refine takeL (i := 9) (v := .int .i64 (cW sf f d p q false)) rfl (by kernel_rfl) (by kernel_rfl) (by kernel_rfl) (fun _ _ _ h => h) (Or.inl ⟨by rfl, by intro w' hS; clear hS; go_simp⟩) hHeld ?_
          simp only [Act.put, List.setIfInBounds_toArray, List.set_cons_zero, List.set_cons_succ]
          refine wpAnyH_ready (rs := [11]) (by kernel_rfl) (by simp) ?_
          refine readyL rfl (fun K hK => ?_) AllReadyH.nil
          rw [if_pos (by rfl)]
          refine wp_storeD rfl hV rfl rfl size_Drum (rW_len hd sf f p q false) zD_len ?_
          have hV2 := hV.row (drumV (rW sf f d p q false))
          refine hK.out _ _ (brow hHeld hgl _) (fun hHeld => ?_)
          clear hK K
          try simp only [Act.put, List.setIfInBounds_toArray, List.set_cons_zero, List.set_cons_succ]
          refine wpAnyH_ready (rs := [12]) (by kernel_rfl) (by simp) ?_
          refine readyL rfl (fun K hK => ?_) AllReadyH.nil
          go_simp
          refine hK.out _ _ (hHeld) (fun hHeld => ?_)
          clear hK K
          try simp only [Act.put, List.setIfInBounds_toArray, List.set_cons_zero, List.set_cons_succ]
          refine wpAnyH_done (by kernel_rfl) ?_ _
          go_wp2_with fail
          go_meet
          case rel => exact ⟨_, rfl, rfl, hV2, hgl, hHeld⟩
      ·
        rw [if_pos (by rfl)]
        refine wp_alloc_drum rfl zero_Drum ?_
        obtain ⟨g, hg⟩ : ∃ g : Nat, g = w1.drew.heap.size := ⟨_, rfl⟩
        have hV := Var.new w1.drew (drumV zD) 40
        have hgl := hHeld.size
        have hgl : w1.heap.size ≤ g := by rw [hg]; exact hgl
        rw [← hg] at hV ⊢
        refine hK.out _ _ (balloc hHeld _) (fun hHeld => ?_)
        clear hK K
        try simp only [Act.put, List.setIfInBounds_toArray, List.set_cons_zero, List.set_cons_succ]
        obtain ⟨u4, hu4⟩ : ∃ x, x = w1.drew.alloc (.cells (drumV zD) 40) := ⟨_, rfl⟩
        rw [← hu4] at hHeld hV ⊢
        clear hu4 hg
        refine wpAnyH_ready (rs := [1]) (by kernel_rfl) (by simp) ?_
        refine readyL rfl (fun K hK => ?_) AllReadyH.nil
        go_simp
        refine (c_toFrame sf Af kf f _ (hf.below (bstep B1 hHeld)) hLf).mono ?_
        rintro e wa ⟨Ax, kx, rfl, ox, hbk⟩
        go_wp2_with fail
        try have hV := hV.below hbk
        refine hK.out _ _ (bstep hHeld hbk) (fun hHeld => ?_)
        clear hK K
        try simp only [Act.put, List.setIfInBounds_toArray, List.set_cons_zero, List.set_cons_succ]
        refine wpAnyH_ready (rs := [3]) (by kernel_rfl) (by simp) ?_
        refine readyL rfl (fun K hK => ?_) AllReadyH.nil
        go_simp
        refine (c_toDrum d _ hd).mono ?_
        rintro e wb0 ⟨rfl, hbk⟩
        go_wp2_with fail
        have oy := ox; clear ox; have ox := oy.below hbk; clear oy
        try have hV := hV.below hbk
        refine hK.out _ _ (bstep hHeld hbk) (fun hHeld => ?_)
        clear hK K
        try simp only [Act.put, List.setIfInBounds_toArray, List.set_cons_zero, List.set_cons_succ]
        refine wpAnyH_ready (rs := [6]) (by kernel_rfl) (by simp) ?_
        refine readyL rfl (fun K hK => ?_) AllReadyH.nil
        go_simp
        refine (c_specWithoutPin sf Ax kx f d p q _ ox.at_ hsf hwf hLf hd hrd hbp hbq).mono ?_
        rintro e wd ⟨rfl, hbk⟩
        go_wp2_with fail
        have oy := ox; clear ox; have ox := oy.below hbk; clear oy
        try have hV := hV.below hbk
        refine hK.out _ _ (bstep hHeld hbk) (fun hHeld => ?_)
        clear hK K
        try simp only [Act.put, List.setIfInBounds_toArray, List.set_cons_zero, List.set_cons_succ]
        refine takeL (i := 7) (v := .tuple #[.agg (drumV (rW sf f d p q false)), .int .i64 (cW sf f d p q false)]) rfl (by kernel_rfl) (by kernel_rfl) (by kernel_rfl) (fun _ _ _ h => h) (Or.inl ⟨by rfl, by intro w' hS; clear hS; go_simp⟩) hHeld ?_
        simp only [Act.put, List.setIfInBounds_toArray, List.set_cons_zero, List.set_cons_succ]
        refine takeL (i := 8) (v := .agg (drumV (rW sf f d p q false))) rfl (by kernel_rfl) (by kernel_rfl) (by kernel_rfl) (fun _ _ _ h => h) (Or.inl ⟨by rfl, by intro w' hS; clear hS; go_simp⟩) hHeld ?_
        simp only [Act.put, List.setIfInBounds_toArray, List.set_cons_zero, List.set_cons_succ]
        refine takeL (i := 9) (v := .int .i64 (cW sf f d p q false)) rfl (by kernel_rfl) (by kernel_rfl) (by kernel_rfl) (fun _ _ _ h => h) (Or.inl ⟨by rfl, by intro w' hS; clear hS; go_simp⟩) hHeld ?_
        simp only [Act.put, List.setIfInBounds_toArray, List.set_cons_zero, List.set_cons_succ]
        refine wpAnyH_ready (rs := [11]) (by kernel_rfl) (by simp) ?_
        refine readyL rfl (fun K hK => ?_) AllReadyH.nil
        rw [if_pos (by rfl)]
        refine wp_storeD rfl hV rfl rfl size_Drum (rW_len hd sf f p q false) zD_len ?_
        have hV2 := hV.row (drumV (rW sf f d p q false))
        refine hK.out _ _ (brow hHeld hgl _) (fun hHeld => ?_)
        clear hK K
        try simp only [Act.put, List.setIfInBounds_toArray, List.set_cons_zero, List.set_cons_succ]
        refine wpAnyH_ready (rs := [12]) (by kernel_rfl) (by simp) ?_
        refine readyL rfl (fun K hK => ?_) AllReadyH.nil
        go_simp
        refine hK.out _ _ (hHeld) (fun hHeld => ?_)
        clear hK K
        try simp only [Act.put, List.setIfInBounds_toArray, List.set_cons_zero, List.set_cons_succ]
        refine wpAnyH_done (by kernel_rfl) ?_ _
        go_wp2_with fail
        go_meet
        case rel => exact ⟨_, rfl, rfl, hV2, hgl, hHeld⟩
    obtain ⟨g3, rfl, rfl, hV3, hg3, b3⟩ := hcut
    obtain ⟨w3, rfl⟩ : ∃ x, x = wc := ⟨_, rfl⟩
    have Z3 := Lib.hid hV3
    clear hV3
    have H3 := Lib.hid (H1.out.below b3)
    have Dd3 := Lib.hid (Dd1.out.below b3)
    have B3 := bstep B1 b3
    have c1 := H3.out.cell (i := 0) rfl
    have c2 := H3.out.cell (i := 1) rfl
    go_wp2_with fail
    refine (c_toFrame sf Af kf f _ (hf.below B3) hLf).mono ?_
    rintro e w4 ⟨A4, k4, rfl, o4, b4⟩
    have H4 := Lib.hid (H3.out.below b4)
    have Dd4 := Lib.hid (Dd3.out.below b4)
    have Z4 := Lib.hid (Z3.out.below b4)
    have B4 := bstep B3 b4
    have v2 : Var (w4.alloc (.cells #[.int .i16 sf, .slice A4 f.length k4] 30)) w4.heap.size #[.int .i16 sf, .slice A4 f.length k4] 30 := Var.new _ _ _
    have Ga := Lib.hid v2
    clear v2
    have Ha := Lib.hid (H4.out.old (.cells #[.int .i16 sf, .slice A4 f.length k4] 30))
    have Dda := Lib.hid (Dd4.out.old (.cells #[.int .i16 sf, .slice A4 f.length k4] 30))
    have Za := Lib.hid (Z4.out.old (.cells #[.int .i16 sf, .slice A4 f.length k4] 30))
    have oa := o4.alloc (.cells #[.int .i16 sf, .slice A4 f.length k4] 30)
    have Ba := balloc B4 (.cells #[.int .i16 sf, .slice A4 f.length k4] 30)
    go_upto_region 7 with fail
    obtain ⟨wf, hwf2⟩ : ∃ u, u = w4.alloc (.cells #[.int .i16 sf, .slice A4 f.length k4] 30) := ⟨_, rfl⟩
    rw [← hwf2] at Ga Ha Dda Za oa Ba ⊢
    clear hwf2
    go_cut [13, 14] from 15 (fun s t w' => ∃ g, s = .pointer (some ⟨g, 0, none⟩) ∧ t = .int .i64 (cW sf f d p q false) ∧ Var w' g (drumV (rW sf f d p q false)) 40 ∧ wf.heap.size ≤ g ∧ Below wf.heap.size wf w')
    case first =>
      refine wp_region_held_drew (S := (Below wf.heap.size wf)) (by kernel_rfl) (bdrew (Below.refl _ _)) (fun hHeld => ?_)
      refine takeL (i := 0) (v := .agg #[.int .i16 sf, .slice A4 f.length k4]) rfl (by kernel_rfl) (by kernel_rfl) (by kernel_rfl) (fun _ _ _ h => h) (Or.inl ⟨by rfl, by intro w' hS; have y1 := (Ga.out.below hS).cell (i := 0) rfl; have y2 := (Ga.out.below hS).cell (i := 1) rfl; clear hS; go_simp⟩) hHeld ?_
      simp only [Act.put, List.setIfInBounds_toArray, List.set_cons_zero, List.set_cons_succ]
      refine takeL (i := 1) (v := .agg (drumV d)) rfl (by kernel_rfl) (by kernel_rfl) (by kernel_rfl) (fun _ _ _ h => h) (by simpa using yieldsIf_load_mid (S := (Below wf.heap.size wf)) (by rfl) _ _ rfl _ _ rfl (drumV d).toList _ (fun w' hS => (Dda.out.below hS).range) hud rfl hlnd) hHeld ?_
      simp only [Act.put, List.setIfInBounds_toArray, List.set_cons_zero, List.set_cons_succ]
      refine takeL (i := 3) (v := .int .i64 p) rfl (by kernel_rfl) (by kernel_rfl) (by kernel_rfl) (fun _ _ _ h => h) (Or.inl ⟨by rfl, by intro w' hS; clear hS; go_simp⟩) hHeld ?_
      simp only [Act.put, List.setIfInBounds_toArray, List.set_cons_zero, List.set_cons_succ]
      refine takeL (i := 4) (v := .int .i64 q) rfl (by kernel_rfl) (by kernel_rfl) (by kernel_rfl) (fun _ _ _ h => h) (Or.inl ⟨by rfl, by intro w' hS; clear hS; go_simp⟩) hHeld ?_
      simp only [Act.put, List.setIfInBounds_toArray, List.set_cons_zero, List.set_cons_succ]
      refine wpAnyH_ready (rs := [2, 9]) (by kernel_rfl) (by simp) ?_
      refine readyL rfl (fun K hK => ?_) (readyL rfl (fun K hK => ?_) AllReadyH.nil)
      ·
        go_simp
        refine (c_toDrum d _ hd).mono ?_
        rintro e wb0 ⟨rfl, hbk⟩
        go_wp2_with fail
        refine hK.out _ _ (bstep hHeld hbk) (fun hHeld => ?_)
        clear hK K
        try simp only [Act.put, List.setIfInBounds_toArray, List.set_cons_zero, List.set_cons_succ]
        refine wpAnyH_ready (rs := [5, 9]) (by kernel_rfl) (by simp) ?_
        refine readyL rfl (fun K hK => ?_) (readyL rfl (fun K hK => ?_) AllReadyH.nil)
        ·
          go_simp
          refine (c_implWithoutPin sf A4 k4 f d p q _ (oa.at_.below hHeld) hsf hwf hLf hd hrd hbp hbq).mono ?_
          rintro e wd ⟨rfl, hbk⟩
          go_wp2_with fail
          refine hK.out _ _ (bstep hHeld hbk) (fun hHeld => ?_)
          clear hK K
          try simp only [Act.put, List.setIfInBounds_toArray, List.set_cons_zero, List.set_cons_succ]
          refine takeL (i := 6) (v := .tuple #[.agg (drumV (rW sf f d p q false)), .int .i64 (cW sf f d p q false)]) rfl (by kernel_rfl) (by kernel_rfl) (by kernel_rfl) (fun _ _ _ h => h) (Or.inl ⟨by rfl, by intro w' hS; clear hS; go_simp⟩) hHeld ?_
          simp only [Act.put, List.setIfInBounds_toArray, List.set_cons_zero, List.set_cons_succ]
          refine takeL (i := 7) (v := .agg (drumV (rW sf f d p q false))) rfl (by kernel_rfl) (by kernel_rfl) (by kernel_rfl) (fun _ _ _ h => h) (Or.inl ⟨by rfl, by intro w' hS; clear hS; go_simp⟩) hHeld ?_
          simp only [Act.put, List.setIfInBounds_toArray, List.set_cons_zero, List.set_cons_succ]
          refine takeL (i := 8) (v := .int .i64 (cW sf f d p q false)) rfl (by kernel_rfl) (by kernel_rfl) (by kernel_rfl) (fun _ _ _ h => h) (Or.inl ⟨by rfl, by intro w' hS; clear hS; go_simp⟩) hHeld ?_
          simp only [Act.put, List.setIfInBounds_toArray, List.set_cons_zero, List.set_cons_succ]
          refine wpAnyH_ready (rs := [9]) (by kernel_rfl) (by simp) ?_
          refine readyL rfl (fun K hK => ?_) AllReadyH.nil
          rw [if_pos (by rfl)]
          refine wp_alloc_drum rfl zero_Drum ?_
          obtain ⟨g, hg⟩ : ∃ g : Nat, g = wd.heap.size := ⟨_, rfl⟩
          have hV := Var.new wd (drumV zD) 40
          have hgl := hHeld.size
          have hgl : wf.heap.size ≤ g := by rw [hg]; exact hgl
          rw [← hg] at hV ⊢
          refine hK.out _ _ (balloc hHeld _) (fun hHeld => ?_)
          clear hK K
          try simp only [Act.put, List.setIfInBounds_toArray, List.set_cons_zero, List.set_cons_succ]
          obtain ⟨u5, hu5⟩ : ∃ x, x = wd.alloc (.cells (drumV zD) 40) := ⟨_, rfl⟩
          rw [← hu5] at hHeld hV ⊢
          clear hu5 hg
          refine wpAnyH_ready (rs := [10]) (by kernel_rfl) (by simp) ?_
          refine readyL rfl (fun K hK => ?_) AllReadyH.nil
          rw [if_pos (by rfl)]
          refine wp_storeD rfl hV rfl rfl size_Drum (rW_len hd sf f p q false) zD_len ?_
          have hV2 := hV.row (drumV (rW sf f d p q false))
          refine hK.out _ _ (brow hHeld hgl _) (fun hHeld => ?_)
          clear hK K
          try simp only [Act.put, List.setIfInBounds_toArray, List.set_cons_zero, List.set_cons_succ]
          refine wpAnyH_ready (rs := [11]) (by kernel_rfl) (by simp) ?_
          refine readyL rfl (fun K hK => ?_) AllReadyH.nil
          go_simp
          refine hK.out _ _ (hHeld) (fun hHeld => ?_)
          clear hK K
          try simp only [Act.put, List.setIfInBounds_toArray, List.set_cons_zero, List.set_cons_succ]
          refine wpAnyH_done (by kernel_rfl) ?_ _
          go_wp2_with fail
          go_meet
          case rel => exact ⟨_, rfl, rfl, hV2, hgl, hHeld⟩
        ·
          rw [if_pos (by rfl)]
          refine wp_alloc_drum rfl zero_Drum ?_
          obtain ⟨g, hg⟩ : ∃ g : Nat, g = wb0.heap.size := ⟨_, rfl⟩
          have hV := Var.new wb0 (drumV zD) 40
          have hgl := hHeld.size
          have hgl : wf.heap.size ≤ g := by rw [hg]; exact hgl
          rw [← hg] at hV ⊢
          refine hK.out _ _ (balloc hHeld _) (fun hHeld => ?_)
          clear hK K
          try simp only [Act.put, List.setIfInBounds_toArray, List.set_cons_zero, List.set_cons_succ]
          obtain ⟨u6, hu6⟩ : ∃ x, x = wb0.alloc (.cells (drumV zD) 40) := ⟨_, rfl⟩
          rw [← hu6] at hHeld hV ⊢
          clear hu6 hg
          refine wpAnyH_ready (rs := [5]) (by kernel_rfl) (by simp) ?_
          refine readyL rfl (fun K hK => ?_) AllReadyH.nil
          go_simp
          refine (c_implWithoutPin sf A4 k4 f d p q _ (oa.at_.below hHeld) hsf hwf hLf hd hrd hbp hbq).mono ?_
          rintro e wd ⟨rfl, hbk⟩
          go_wp2_with fail
          try have hV := hV.below hbk
          refine hK.out _ _ (bstep hHeld hbk) (fun hHeld => ?_)
          clear hK K
          try simp only [Act.put, List.setIfInBounds_toArray, List.set_cons_zero, List.set_cons_succ]
          refine takeL (i := 6) (v := .tuple #[.agg (drumV (rW sf f d p q false)), .int .i64 (cW sf f d p q false)]) rfl (by kernel_rfl) (by kernel_rfl) (by kernel_rfl) (fun _ _ _ h => h) (Or.inl ⟨by rfl, by intro w' hS; clear hS; go_simp⟩) hHeld ?_
          simp only [Act.put, List.setIfInBounds_toArray, List.set_cons_zero, List.set_cons_succ]
          refine takeL (i := 7) (v := .agg (drumV (rW sf f d p q false))) rfl (by kernel_rfl) (by kernel_rfl) (by kernel_rfl) (fun _ _ _ h => h) (Or.inl ⟨by rfl, by intro w' hS; clear hS; go_simp⟩) hHeld ?_
          simp only [Act.put, List.setIfInBounds_toArray, List.set_cons_zero, List.set_cons_succ]
          refine takeL (i := 8) (v := .int .i64 (cW sf f d p q false)) rfl (by kernel_rfl) (by kernel_rfl) (by kernel_rfl) (fun _ _ _ h => h) (Or.inl ⟨by rfl, by intro w' hS; clear hS; go_simp⟩) hHeld ?_
          simp only [Act.put, List.setIfInBounds_toArray, List.set_cons_zero, List.set_cons_succ]
          refine wpAnyH_ready (rs := [10]) (by kernel_rfl) (by simp) ?_
          refine readyL rfl (fun K hK => ?_) AllReadyH.nil
          rw [if_pos (by rfl)]
          refine wp_storeD rfl hV rfl rfl size_Drum (rW_len hd sf f p q false) zD_len ?_
          have hV2 := hV.row (drumV (rW sf f d p q false))
          refine hK.out _ _ (brow hHeld hgl _) (fun hHeld => ?_)
          clear hK K
          try simp only [Act.put, List.setIfInBounds_toArray, List.set_cons_zero, List.set_cons_succ]
          refine wpAnyH_ready (rs := [11]) (by kernel_rfl) (by simp) ?_
          refine readyL rfl (fun K hK => ?_) AllReadyH.nil
          go_simp
          refine hK.out _ _ (hHeld) (fun hHeld => ?_)
          clear hK K
          try simp only [Act.put, List.setIfInBounds_toArray, List.set_cons_zero, List.set_cons_succ]
          refine wpAnyH_done (by kernel_rfl) ?_ _
          go_wp2_with fail
          go_meet
          case rel => exact ⟨_, rfl, rfl, hV2, hgl, hHeld⟩
      ·
        rw [if_pos (by rfl)]
        refine wp_alloc_drum rfl zero_Drum ?_
        obtain ⟨g, hg⟩ : ∃ g : Nat, g = wf.drew.heap.size := ⟨_, rfl⟩
        have hV := Var.new wf.drew (drumV zD) 40
        have hgl := hHeld.size
        have hgl : wf.heap.size ≤ g := by rw [hg]; exact hgl
        rw [← hg] at hV ⊢
        refine hK.out _ _ (balloc hHeld _) (fun hHeld => ?_)
        clear hK K
        try simp only [Act.put, List.setIfInBounds_toArray, List.set_cons_zero, List.set_cons_succ]
        obtain ⟨u7, hu7⟩ : ∃ x, x = wf.drew.alloc (.cells (drumV zD) 40) := ⟨_, rfl⟩
        rw [← hu7] at hHeld hV ⊢
        clear hu7 hg
        refine wpAnyH_ready (rs := [2]) (by kernel_rfl) (by simp) ?_
        refine readyL rfl (fun K hK => ?_) AllReadyH.nil
        go_simp
        refine (c_toDrum d _ hd).mono ?_
        rintro e wb0 ⟨rfl, hbk⟩
        go_wp2_with fail
        try have hV := hV.below hbk
        refine hK.out _ _ (bstep hHeld hbk) (fun hHeld => ?_)
        clear hK K
        try simp only [Act.put, List.setIfInBounds_toArray, List.set_cons_zero, List.set_cons_succ]
        refine wpAnyH_ready (rs := [5]) (by kernel_rfl) (by simp) ?_
        refine readyL rfl (fun K hK => ?_) AllReadyH.nil
        go_simp
        refine (c_implWithoutPin sf A4 k4 f d p q _ (oa.at_.below hHeld) hsf hwf hLf hd hrd hbp hbq).mono ?_
        rintro e wd ⟨rfl, hbk⟩
        go_wp2_with fail
        try have hV := hV.below hbk
        refine hK.out _ _ (bstep hHeld hbk) (fun hHeld => ?_)
        clear hK K
        try simp only [Act.put, List.setIfInBounds_toArray, List.set_cons_zero, List.set_cons_succ]
        refine takeL (i := 6) (v := .tuple #[.agg (drumV (rW sf f d p q false)), .int .i64 (cW sf f d p q false)]) rfl (by kernel_rfl) (by kernel_rfl) (by kernel_rfl) (fun _ _ _ h => h) (Or.inl ⟨by rfl, by intro w' hS; clear hS; go_simp⟩) hHeld ?_
        simp only [Act.put, List.setIfInBounds_toArray, List.set_cons_zero, List.set_cons_succ]
        refine takeL (i := 7) (v := .agg (drumV (rW sf f d p q false))) rfl (by kernel_rfl) (by kernel_rfl) (by kernel_rfl) (fun _ _ _ h => h) (Or.inl ⟨by rfl, by intro w' hS; clear hS; go_simp⟩) hHeld ?_
        simp only [Act.put, List.setIfInBounds_toArray, List.set_cons_zero, List.set_cons_succ]
        refine takeL (i := 8) (v := .int .i64 (cW sf f d p q false)) rfl (by kernel_rfl) (by kernel_rfl) (by kernel_rfl) (fun _ _ _ h => h) (Or.inl ⟨by rfl, by intro w' hS; clear hS; go_simp⟩) hHeld ?_
        simp only [Act.put, List.setIfInBounds_toArray, List.set_cons_zero, List.set_cons_succ]
        refine wpAnyH_ready (rs := [10]) (by kernel_rfl) (by simp) ?_
        refine readyL rfl (fun K hK => ?_) AllReadyH.nil
        rw [if_pos (by rfl)]
        refine wp_storeD rfl hV rfl rfl size_Drum (rW_len hd sf f p q false) zD_len ?_
        have hV2 := hV.row (drumV (rW sf f d p q false))
        refine hK.out _ _ (brow hHeld hgl _) (fun hHeld => ?_)
        clear hK K
        try simp only [Act.put, List.setIfInBounds_toArray, List.set_cons_zero, List.set_cons_succ]
        refine wpAnyH_ready (rs := [11]) (by kernel_rfl) (by simp) ?_
        refine readyL rfl (fun K hK => ?_) AllReadyH.nil
        go_simp
        refine hK.out _ _ (hHeld) (fun hHeld => ?_)
        clear hK K
        try simp only [Act.put, List.setIfInBounds_toArray, List.set_cons_zero, List.set_cons_succ]
        refine wpAnyH_done (by kernel_rfl) ?_ _
        go_wp2_with fail
        go_meet
        case rel => exact ⟨_, rfl, rfl, hV2, hgl, hHeld⟩
    obtain ⟨g5, rfl, rfl, hV5, hg5, b5⟩ := hcut
    obtain ⟨w5, rfl⟩ : ∃ x, x = wc := ⟨_, rfl⟩
    have Y5 := Lib.hid hV5
    clear hV5
    have H5 := Lib.hid (Ha.out.below b5)
    have Dd5 := Lib.hid (Dda.out.below b5)
    have G5 := Lib.hid (Ga.out.below b5)
    have Z5 := Lib.hid (Za.out.below b5)
    have B5 := bstep Ba b5
    have o5 := oa.below b5
    have hE := eqL_self f
    go_wp2_with (first | (refine wpList_loadD (by rfl) rfl Y5.out rfl Try.underlying40 size_Drum (rW_len hd sf f p q false) ?_) | (refine wpList_loadD (by rfl) rfl Z5.out rfl Try.underlying40 size_Drum (rW_len hd sf f p q false) ?_))
    refine (c_eqDrum (rW sf f d p q false) (rW sf f d p q false) _ (rW_len hd sf f p q false) (rW_len hd sf f p q false)).mono ?_
    rintro e w6 ⟨rfl, b6⟩
    rw [decide_self]
    have H6 := Lib.hid (H5.out.below b6)
    have G6 := Lib.hid (G5.out.below b6)
    have B6 := bstep B5 b6
    have o6 := o5.below b6
    go_upto_region 10 with fail
    refine wp_region_held_drew (S := (Below w6.heap.size w6)) (by kernel_rfl) (bdrew (Below.refl _ _)) (fun hHeld => ?_)
    refine takeL (i := 0) (v := .agg #[.int .i16 sf, .slice A4 f.length k4]) rfl (by kernel_rfl) (by kernel_rfl) (by kernel_rfl) (fun _ _ _ h => h) (Or.inl ⟨by rfl, by intro w' hS; have y1 := (G6.out.below hS).cell (i := 0) rfl; have y2 := (G6.out.below hS).cell (i := 1) rfl; clear hS; go_simp⟩) hHeld ?_
    simp only [Act.put, List.setIfInBounds_toArray, List.set_cons_zero, List.set_cons_succ]
    refine takeL (i := 1) (v := .agg #[.int .i16 sf, .slice Af f.length kf]) rfl (by kernel_rfl) (by kernel_rfl) (by kernel_rfl) (fun _ _ _ h => h) (Or.inl ⟨by rfl, by intro w' hS; have y1 := (H6.out.below hS).cell (i := 0) rfl; have y2 := (H6.out.below hS).cell (i := 1) rfl; clear hS; go_simp⟩) hHeld ?_
    simp only [Act.put, List.setIfInBounds_toArray, List.set_cons_zero, List.set_cons_succ]
    refine wpAnyH_ready (rs := [2]) (by kernel_rfl) (by simp) ?_
    refine readyL rfl (fun K hK => ?_) AllReadyH.nil
    go_simp
    refine (c_toFrame sf Af kf f _ (hf.below (bstep B6 hHeld)) hLf).mono ?_
    rintro e wa ⟨Ax, kx, rfl, ox, hbk⟩
    go_wp2_with fail
    refine hK.out _ _ (bstep hHeld hbk) (fun hHeld => ?_)
    clear hK K
    try simp only [Act.put, List.setIfInBounds_toArray, List.set_cons_zero, List.set_cons_succ]
    refine wpAnyH_ready (rs := [3]) (by kernel_rfl) (by simp) ?_
    refine readyL rfl (fun K hK => ?_) AllReadyH.nil
    go_simp
    refine (c_eqFrame sf sf A4 Ax k4 kx f f _ (o6.at_.below hHeld) ox.at_ hLf hLf).mono ?_
    rintro e wb ⟨rfl, hbk⟩
    rw [hE, decide_self]
    go_wp2_with fail
    refine hK.out _ _ (bstep hHeld hbk) (fun hHeld => ?_)
    clear hK K
    try simp only [Act.put, List.setIfInBounds_toArray, List.set_cons_zero, List.set_cons_succ]
    refine takeL (i := 4) (v := .bool false) rfl (by kernel_rfl) (by kernel_rfl) (by kernel_rfl) (fun _ _ _ h => h) (Or.inl ⟨by rfl, by intro w' hS; clear hS; go_simp⟩) hHeld ?_
    simp only [Act.put, List.setIfInBounds_toArray, List.set_cons_zero, List.set_cons_succ]
    refine wpAnyH_done (by kernel_rfl) ?_ _
    go_wp2
    go_ret
    exact ⟨rfl, bstep B6 hHeld⟩
  · have hsz : szI 1048576 f.length = -1 := by unfold szI; split <;> omega
    go_enter Try.func13, Try.ntmps13
    go_wp2_with fail
    refine (c_szFrame sf Af kf f.length (1048576) _ (by omega) (by omega) hnf).mono ?_
    rintro e w1 ⟨rfl, b1⟩
    rw [hsz]
    go_wp2
    go_ret
    exact ⟨rfl, bstep (balloc (balloc (Below.refl _ w) _) _) b1⟩
end Go.Proofs.Ytpfcbcmmofombaa
namespace Go.Proofs.Ytpfcbcmmofombaa.ofWithoutPin
open Go.ChangeShapes Go.WideShapes Go.ChangeAt Go.RowKit
theorem own : ownKnob Try.prog.godebug = none := by kernel_rfl
theorem laidOut : laidOutB Try.prog = true := by kernel_rfl
set_option maxRecDepth 100000 in
theorem lifted (os : Os) (started : os.Started) (H : Type) (enc : TypeId × Value → H) :
    ReturnsInHanded {} Try.checked os 13 .any (Rows.fnExactWithoutPinSpec.pre6 enc Try.prog Try.f13 Rows.fnExactWithoutPinRow.domain false) (Rows.fnExactWithoutPinSpec.post enc Try.prog Try.f13 false true false false) := by
  refine returnsInHanded_of_change (C := Try.checked) own started (by kernel_rfl) Try.func13
    (ChangeSpec.witness6 (enc := enc) (C := Try.checked) false ⟨#[], #[.agg #[.int .i16 0, .slice none 0 0], .agg (Array.replicate 96 (.int .u32 0)), .int .i64 0, .int .i64 0], []⟩ 8 (by kernel_rfl) (by kernel_rfl) (by kernel_rfl) (by kernel_rfl)) ?_
  intro W base args ds gs before hval0 hW hcnd _
  have hval : ∀ (j : Nat) t v, Try.f13.params[j]? = some t → args[j]? = some v → Value.okWide Try.prog W .any base t v := hval0
  have hW' := hW
  have hlt := fun p (hp : p ∈ before) => hW.lt p hp
  obtain ⟨p, q, hA0, hV, rfl, hfz, hnd⟩ := hW
  have hA : DataW.TrodAll enc Try.prog W 0 (fun _ => true) true Try.f13.params.toList args.toList ds p := hA0
  obtain ⟨rfl, rfl⟩ := trodVars_none hV
  simp only [List.append_nil] at hlt hW'
  have hback := fun W' hb => trodAll_below (W' := W') laidOut hb (by rw [Try.params13]; decide +kernel) hlt hA
  rw [Try.params13] at hA hval
  obtain ⟨v0, vs0, d0, ds0, p0, q0, hargs, rfl, rfl, h0, r0⟩ := trodAll_cons hA
  obtain ⟨v1, vs1, d1, ds1, p1, q1, rfl, rfl, rfl, h1, r1⟩ := trodAll_cons r0
  obtain ⟨v2, vs2, d2, ds2, p2, q2, rfl, rfl, rfl, h2, r2⟩ := trodAll_cons r1
  obtain ⟨v3, vs3, d3, ds3, p3, q3, rfl, rfl, rfl, h3, r3⟩ := trodAll_cons r2
  obtain ⟨rfl, rfl, rfl⟩ := trodAll_nil r3
  obtain rfl : args = #[v0, v1, v2, v3] := by cases args; simp_all
  obtain ⟨sf, Af, kf, f, rfl, hw_s, hn_f, hr_f, hl_f⟩ := open_frame Try.underlying25 (by kernel_rfl) (by kernel_rfl) Try.underlying22 rfl Try.underlying23 Try.underlying99 Try.underlying70 Try.underlying70 (by kernel_rfl) (by kernel_rfl) (hval 0 _ _ rfl rfl) h0
  obtain ⟨d, rfl, hn_d, hr_d⟩ := open_drum Try.underlying38 Try.underlying37 (by kernel_rfl) (by kernel_rfl) (hval 1 _ _ rfl rfl) h1
  obtain ⟨p, rfl, rfl, rfl, wfp⟩ := open_int Try.underlying2 (hval 2 _ _ rfl rfl) h2
  obtain ⟨q, rfl, rfl, rfl, wfq⟩ := open_int Try.underlying2 (hval 3 _ _ rfl rfl) h3
  refine (law_WithoutPin sf Af kf f d p q W hr_f hw_s hl_f hn_f hn_d hr_d (by simpa [Lit.wf, IntKind.min, IntKind.max, IntKind.signed, IntKind.bits] using wfp) (by simpa [Lit.wf, IntKind.min, IntKind.max, IntKind.signed, IntKind.bits] using wfq)).mono fun e W' ⟨he, bel⟩ => ?_
  subst he
  exact ⟨_, rfl, _, _, _, [], _, [], hW', trodAll_mk1 (shut_bool Try.underlying4 _), hback W' bel, rfl, bel.frame _, fun h => by cases h⟩
theorem over : Rows.fnExactWithoutPinRow.holds Try.pinned (OpenSpec.ofChange Rows.fnExactWithoutPinSpec) :=
  OpenClaim.holds_of_wide 13 Try.f13 rfl rfl rfl rfl rfl rfl rfl ⟨rfl, rfl, rfl, rfl, rfl⟩ rfl rfl rfl rfl rfl (by kernel_rfl) Try.func13 (by kernel_rfl)
    (of_decide_eq_true (by kernel_rfl)) (by unfold Func.isWrapper; first | (rw [if_pos (by decide +kernel)]; kernel_rfl) | (rw [if_neg (by decide +kernel)]; exact ⟨rfl, rfl⟩))
    (fun os started H enc _ => lifted os started H enc)
end Go.Proofs.Ytpfcbcmmofombaa.ofWithoutPin
namespace Go.Proofs.Ytpfcbcmmofombaa
theorem fnExactWithoutPin_holds : Rows.FnExactWithoutPinSaid := ofWithoutPin.over
#print axioms fnExactWithoutPin_holds
end Go.Proofs.Ytpfcbcmmofombaa
