/-
  The statement FnExactPinsToMoveSaid: whatever is given, the law's call returns true, and what is given reads as it did: the program's PinsToMove returns what the reference's returns. Conditions: none beyond the statement's own.
-/
import Derived.Test.YtpfcbcmmofombaaRows
import Derived.Test.YtpfcbcmmofombaaOpenD
import Derived.Test.YtpfcbcmmofombaaDataF
import Derived.Test.YtpfcbcmmofombaaWalkDM
namespace Go.Proofs.Ytpfcbcmmofombaa
open Go.RowKit
set_option linter.unusedVariables false
set_option linter.unusedSimpArgs false

set_option maxRecDepth 100000 in
set_option maxHeartbeats 1000000 in
theorem law_PinsToMove (sf : Int) (Af : Option Addr) (kf : Nat) (f : List (Int × Int)) (d : List Int) (e : List Int) (w : World) (hf : At2 .i8 .i8 w Af f) (hsf : W16 sf) (hwf : Whs f) (hnf : f.length ≤ 9223372036854775807) (hd : d.length = 96) (hrd : ∀ x ∈ d, 0 ≤ x ∧ x ≤ 4294967295) (he : e.length = 96) (hre : ∀ x ∈ e, 0 ≤ x ∧ x ≤ 4294967295) :
    Calls Try.prog 10 #[.agg #[.int .i16 sf, .slice Af f.length kf], .agg (drumV d), .agg (drumV e)] w fun e w' => e = .returned (.bool true) ∧ Below w.heap.size w w' := by
  have hu := Try.underlying30
  have hu2 := Try.underlying25
  have hud := Try.underlying38
  have hid1 : (Try.prog.info? 38).map (·.size) = some 96 := by kernel_rfl
  have hlnd : (Try.prog.info? 38).map (·.size) = some (drumV d).toList.length := by rw [drumV_len, hd]; exact hid1
  have hlne : (Try.prog.info? 38).map (·.size) = some (drumV e).toList.length := by rw [drumV_len, he]; exact hid1
  by_cases hLf0 : f.length ≤ 1048576
  · have hsz : szI 1048576 f.length = 1048576 - (f.length : Int) := by unfold szI; split <;> omega
    have ht : decide (1048576 - (f.length : Int) < 0) = false := decide_eq_false (by omega)
    have hLf : f.length ≤ 1073741824 := by omega
    go_enter Try.func10, Try.ntmps10
    go_wp2_with fail
    refine (c_szFrame sf Af kf f.length (1048576) _ (by omega) (by omega) hnf).mono ?_
    rintro e w1 ⟨rfl, b1⟩
    have v0 : Var (((w.alloc (.cells #[.int .i16 sf, .slice Af f.length kf] 25)).alloc (.cells (drumV d) 38)).alloc (.cells (drumV e) 38)) (w.heap.size) #[.int .i16 sf, .slice Af f.length kf] 25 := by simpa using (((Var.new w #[.int .i16 sf, .slice Af f.length kf] 25).old (.cells (drumV d) 38)).old (.cells (drumV e) 38))
    have H1 := Lib.hid (v0.below b1)
    clear v0
    have v1 : Var (((w.alloc (.cells #[.int .i16 sf, .slice Af f.length kf] 25)).alloc (.cells (drumV d) 38)).alloc (.cells (drumV e) 38)) (w.heap.size + 1) (drumV d) 38 := by simpa using ((Var.new (w.alloc (.cells #[.int .i16 sf, .slice Af f.length kf] 25)) (drumV d) 38).old (.cells (drumV e) 38))
    have Dd1 := Lib.hid (v1.below b1)
    clear v1
    have v2 : Var (((w.alloc (.cells #[.int .i16 sf, .slice Af f.length kf] 25)).alloc (.cells (drumV d) 38)).alloc (.cells (drumV e) 38)) (w.heap.size + 1 + 1) (drumV e) 38 := by simpa using (Var.new ((w.alloc (.cells #[.int .i16 sf, .slice Af f.length kf] 25)).alloc (.cells (drumV d) 38)) (drumV e) 38)
    have De1 := Lib.hid (v2.below b1)
    clear v2
    have B1 := bstep (balloc (balloc (balloc (Below.refl _ w) _) _) _) b1
    rw [hsz]
    clear hsz
    go_upto_region 5 with fail
    go_cut [8, 9, 10] from 15 (fun s0 s1 s2 w' => s0 = .int .i64 (rMoves sf f d e e d) ∧ s1 = .int .i64 (rMoves sf f d e d e) ∧ s2 = .int .i64 (cDD sf f d e) ∧ Below w1.heap.size w1 w')
    case first =>
      refine wp_region_held_drew (S := (Below w1.heap.size w1)) (by kernel_rfl) (bdrew (Below.refl _ _)) (fun hHeld => ?_)
      refine wpAnyH_take (i := 0) (v := .agg #[.int .i16 sf, .slice Af f.length kf]) rfl (by kernel_rfl) (by kernel_rfl) (by kernel_rfl) (fun _ _ _ h => h) (Or.inl ⟨by rfl, by intro w' hS; have y1 := (H1.out.below hS).cell (i := 0) rfl; have y2 := (H1.out.below hS).cell (i := 1) rfl; clear hS; go_simp⟩) hHeld ?_
      simp only [Act.put, List.setIfInBounds_toArray, List.set_cons_zero, List.set_cons_succ]
      refine wpAnyH_take (i := 2) (v := .agg (drumV d)) rfl (by kernel_rfl) (by kernel_rfl) (by kernel_rfl) (fun _ _ _ h => h) (by simpa using yieldsIf_load_mid (S := (Below w1.heap.size w1)) (by rfl) _ _ rfl _ _ rfl (drumV d).toList _ (fun w' hS => (Dd1.out.below hS).range) hud rfl hlnd) hHeld ?_
      simp only [Act.put, List.setIfInBounds_toArray, List.set_cons_zero, List.set_cons_succ]
      refine wpAnyH_take (i := 4) (v := .agg (drumV e)) rfl (by kernel_rfl) (by kernel_rfl) (by kernel_rfl) (fun _ _ _ h => h) (by simpa using yieldsIf_load_mid (S := (Below w1.heap.size w1)) (by rfl) _ _ rfl _ _ rfl (drumV e).toList _ (fun w' hS => (De1.out.below hS).range) hud rfl hlne) hHeld ?_
      simp only [Act.put, List.setIfInBounds_toArray, List.set_cons_zero, List.set_cons_succ]
      refine wpAnyH_ready (rs := [1]) (by kernel_rfl) (by simp) ?_
      refine AllReadyH.cons rfl (fun K hK => ?_) AllReadyH.nil
      go_simp
      refine (c_toFrame sf Af kf f _ (hf.below (bstep B1 hHeld)) hLf).mono ?_
      rintro e wa ⟨Ax, kx, rfl, ox, hbk⟩
      go_wp2_with fail
      refine hK.out _ _ (bstep hHeld hbk) (fun hHeld => ?_)
      clear hK K
      try simp only [Act.put, List.setIfInBounds_toArray, List.set_cons_zero, List.set_cons_succ]
      refine wpAnyH_ready (rs := [3]) (by kernel_rfl) (by simp) ?_
      refine AllReadyH.cons rfl (fun K hK => ?_) AllReadyH.nil
      go_simp
      refine (c_toDrum d _ hd).mono ?_
      rintro e wb0 ⟨rfl, hbk⟩
      go_wp2_with fail
      have oy := ox; clear ox; have ox := oy.below hbk; clear oy
      refine hK.out _ _ (bstep hHeld hbk) (fun hHeld => ?_)
      clear hK K
      try simp only [Act.put, List.setIfInBounds_toArray, List.set_cons_zero, List.set_cons_succ]
      refine wpAnyH_ready (rs := [5]) (by kernel_rfl) (by simp) ?_
      refine AllReadyH.cons rfl (fun K hK => ?_) AllReadyH.nil
      go_simp
      refine (c_toDrum e _ he).mono ?_
      rintro e wb1 ⟨rfl, hbk⟩
      go_wp2_with fail
      have oy := ox; clear ox; have ox := oy.below hbk; clear oy
      refine hK.out _ _ (bstep hHeld hbk) (fun hHeld => ?_)
      clear hK K
      try simp only [Act.put, List.setIfInBounds_toArray, List.set_cons_zero, List.set_cons_succ]
      refine wpAnyH_ready (rs := [6]) (by kernel_rfl) (by simp) ?_
      refine AllReadyH.cons rfl (fun K hK => ?_) AllReadyH.nil
      go_simp
      refine (c_specPinsToMove sf Ax kx f d e _ ox.at_ hsf hwf hLf hd hrd he hre).mono ?_
      rintro e wd ⟨rfl, hbk⟩
      go_wp2_with fail
      have oy := ox; clear ox; have ox := oy.below hbk; clear oy
      refine hK.out _ _ (bstep hHeld hbk) (fun hHeld => ?_)
      clear hK K
      try simp only [Act.put, List.setIfInBounds_toArray, List.set_cons_zero, List.set_cons_succ]
      refine wpAnyH_take (i := 7) (v := .tuple #[.int .i64 (rMoves sf f d e e d), .int .i64 (rMoves sf f d e d e), .int .i64 (cDD sf f d e)]) rfl (by kernel_rfl) (by kernel_rfl) (by kernel_rfl) (fun _ _ _ h => h) (Or.inl ⟨by rfl, by intro w' hS; clear hS; go_simp⟩) hHeld ?_
      simp only [Act.put, List.setIfInBounds_toArray, List.set_cons_zero, List.set_cons_succ]
      refine wpAnyH_take (i := 8) (v := .int .i64 (rMoves sf f d e e d)) rfl (by kernel_rfl) (by kernel_rfl) (by kernel_rfl) (fun _ _ _ h => h) (Or.inl ⟨by rfl, by intro w' hS; clear hS; go_simp⟩) hHeld ?_
      simp only [Act.put, List.setIfInBounds_toArray, List.set_cons_zero, List.set_cons_succ]
      refine wpAnyH_take (i := 9) (v := .int .i64 (rMoves sf f d e d e)) rfl (by kernel_rfl) (by kernel_rfl) (by kernel_rfl) (fun _ _ _ h => h) (Or.inl ⟨by rfl, by intro w' hS; clear hS; go_simp⟩) hHeld ?_
      simp only [Act.put, List.setIfInBounds_toArray, List.set_cons_zero, List.set_cons_succ]
      refine wpAnyH_take (i := 10) (v := .int .i64 (cDD sf f d e)) rfl (by kernel_rfl) (by kernel_rfl) (by kernel_rfl) (fun _ _ _ h => h) (Or.inl ⟨by rfl, by intro w' hS; clear hS; go_simp⟩) hHeld ?_
      simp only [Act.put, List.setIfInBounds_toArray, List.set_cons_zero, List.set_cons_succ]
      refine wpAnyH_ready (rs := [11]) (by kernel_rfl) (by simp) ?_
      refine AllReadyH.cons rfl (fun K hK => ?_) AllReadyH.nil
      go_simp
      refine hK.out _ _ (hHeld) (fun hHeld => ?_)
      clear hK K
      try simp only [Act.put, List.setIfInBounds_toArray, List.set_cons_zero, List.set_cons_succ]
      refine wpAnyH_ready (rs := [12]) (by kernel_rfl) (by simp) ?_
      refine AllReadyH.cons rfl (fun K hK => ?_) AllReadyH.nil
      go_simp
      refine hK.out _ _ (hHeld) (fun hHeld => ?_)
      clear hK K
      try simp only [Act.put, List.setIfInBounds_toArray, List.set_cons_zero, List.set_cons_succ]
      refine wpAnyH_ready (rs := [13]) (by kernel_rfl) (by simp) ?_
      refine AllReadyH.cons rfl (fun K hK => ?_) AllReadyH.nil
      go_simp
      refine hK.out _ _ (hHeld) (fun hHeld => ?_)
      clear hK K
      try simp only [Act.put, List.setIfInBounds_toArray, List.set_cons_zero, List.set_cons_succ]
      refine wpAnyH_done (by kernel_rfl) ?_ _
      go_wp2_with fail
      go_meet
      case rel => exact ⟨rfl, rfl, rfl, hHeld⟩
    obtain ⟨rfl, rfl, rfl, b3⟩ := hcut
    obtain ⟨w3, rfl⟩ : ∃ x, x = wc := ⟨_, rfl⟩
    have H3 := Lib.hid (H1.out.below b3)
    have Dd3 := Lib.hid (Dd1.out.below b3)
    have De3 := Lib.hid (De1.out.below b3)
    have B3 := bstep B1 b3
    have c1 := H3.out.cell (i := 0) rfl
    have c2 := H3.out.cell (i := 1) rfl
    go_wp2_with fail
    refine (c_toFrame sf Af kf f _ (hf.below B3) hLf).mono ?_
    rintro e w4 ⟨A4, k4, rfl, o4, b4⟩
    have H4 := Lib.hid (H3.out.below b4)
    have Dd4 := Lib.hid (Dd3.out.below b4)
    have De4 := Lib.hid (De3.out.below b4)
    have B4 := bstep B3 b4
    have v2 : Var (w4.alloc (.cells #[.int .i16 sf, .slice A4 f.length k4] 30)) w4.heap.size #[.int .i16 sf, .slice A4 f.length k4] 30 := Var.new _ _ _
    have Ga := Lib.hid v2
    clear v2
    have Ha := Lib.hid (H4.out.old (.cells #[.int .i16 sf, .slice A4 f.length k4] 30))
    have Dda := Lib.hid (Dd4.out.old (.cells #[.int .i16 sf, .slice A4 f.length k4] 30))
    have Dea := Lib.hid (De4.out.old (.cells #[.int .i16 sf, .slice A4 f.length k4] 30))
    have oa := o4.alloc (.cells #[.int .i16 sf, .slice A4 f.length k4] 30)
    have Ba := balloc B4 (.cells #[.int .i16 sf, .slice A4 f.length k4] 30)
    go_upto_region 7 with fail
    obtain ⟨wf, hwf2⟩ : ∃ u, u = w4.alloc (.cells #[.int .i16 sf, .slice A4 f.length k4] 30) := ⟨_, rfl⟩
    rw [← hwf2] at Ga Ha Dda Dea oa Ba ⊢
    clear hwf2
    go_cut [12, 13, 14] from 15 (fun s0 s1 s2 w' => s0 = .int .i64 (rMoves sf f d e e d) ∧ s1 = .int .i64 (rMoves sf f d e d e) ∧ s2 = .int .i64 (cDD sf f d e) ∧ Below wf.heap.size wf w')
    case first =>
      refine wp_region_held_drew (S := (Below wf.heap.size wf)) (by kernel_rfl) (bdrew (Below.refl _ _)) (fun hHeld => ?_)
      refine wpAnyH_take (i := 0) (v := .agg #[.int .i16 sf, .slice A4 f.length k4]) rfl (by kernel_rfl) (by kernel_rfl) (by kernel_rfl) (fun _ _ _ h => h) (Or.inl ⟨by rfl, by intro w' hS; have y1 := (Ga.out.below hS).cell (i := 0) rfl; have y2 := (Ga.out.below hS).cell (i := 1) rfl; clear hS; go_simp⟩) hHeld ?_
      simp only [Act.put, List.setIfInBounds_toArray, List.set_cons_zero, List.set_cons_succ]
      refine wpAnyH_take (i := 1) (v := .agg (drumV d)) rfl (by kernel_rfl) (by kernel_rfl) (by kernel_rfl) (fun _ _ _ h => h) (by simpa using yieldsIf_load_mid (S := (Below wf.heap.size wf)) (by rfl) _ _ rfl _ _ rfl (drumV d).toList _ (fun w' hS => (Dda.out.below hS).range) hud rfl hlnd) hHeld ?_
      simp only [Act.put, List.setIfInBounds_toArray, List.set_cons_zero, List.set_cons_succ]
      refine wpAnyH_take (i := 3) (v := .agg (drumV e)) rfl (by kernel_rfl) (by kernel_rfl) (by kernel_rfl) (fun _ _ _ h => h) (by simpa using yieldsIf_load_mid (S := (Below wf.heap.size wf)) (by rfl) _ _ rfl _ _ rfl (drumV e).toList _ (fun w' hS => (Dea.out.below hS).range) hud rfl hlne) hHeld ?_
      simp only [Act.put, List.setIfInBounds_toArray, List.set_cons_zero, List.set_cons_succ]
      refine wpAnyH_ready (rs := [2]) (by kernel_rfl) (by simp) ?_
      refine AllReadyH.cons rfl (fun K hK => ?_) AllReadyH.nil
      go_simp
      refine (c_toDrum d _ hd).mono ?_
      rintro e wb0 ⟨rfl, hbk⟩
      go_wp2_with fail
      refine hK.out _ _ (bstep hHeld hbk) (fun hHeld => ?_)
      clear hK K
      try simp only [Act.put, List.setIfInBounds_toArray, List.set_cons_zero, List.set_cons_succ]
      refine wpAnyH_ready (rs := [4]) (by kernel_rfl) (by simp) ?_
      refine AllReadyH.cons rfl (fun K hK => ?_) AllReadyH.nil
      go_simp
      refine (c_toDrum e _ he).mono ?_
      rintro e wb1 ⟨rfl, hbk⟩
      go_wp2_with fail
      refine hK.out _ _ (bstep hHeld hbk) (fun hHeld => ?_)
      clear hK K
      try simp only [Act.put, List.setIfInBounds_toArray, List.set_cons_zero, List.set_cons_succ]
      refine wpAnyH_ready (rs := [5]) (by kernel_rfl) (by simp) ?_
      refine AllReadyH.cons rfl (fun K hK => ?_) AllReadyH.nil
      go_simp
      refine (c_implPinsToMove sf A4 k4 f d e _ (oa.at_.below hHeld) hsf hwf hLf hd hrd he hre).mono ?_
      rintro e wd ⟨rfl, hbk⟩
      go_wp2_with fail
      refine hK.out _ _ (bstep hHeld hbk) (fun hHeld => ?_)
      clear hK K
      try simp only [Act.put, List.setIfInBounds_toArray, List.set_cons_zero, List.set_cons_succ]
      refine wpAnyH_take (i := 6) (v := .tuple #[.int .i64 (rMoves sf f d e e d), .int .i64 (rMoves sf f d e d e), .int .i64 (cDD sf f d e)]) rfl (by kernel_rfl) (by kernel_rfl) (by kernel_rfl) (fun _ _ _ h => h) (Or.inl ⟨by rfl, by intro w' hS; clear hS; go_simp⟩) hHeld ?_
      simp only [Act.put, List.setIfInBounds_toArray, List.set_cons_zero, List.set_cons_succ]
      refine wpAnyH_take (i := 7) (v := .int .i64 (rMoves sf f d e e d)) rfl (by kernel_rfl) (by kernel_rfl) (by kernel_rfl) (fun _ _ _ h => h) (Or.inl ⟨by rfl, by intro w' hS; clear hS; go_simp⟩) hHeld ?_
      simp only [Act.put, List.setIfInBounds_toArray, List.set_cons_zero, List.set_cons_succ]
      refine wpAnyH_take (i := 8) (v := .int .i64 (rMoves sf f d e d e)) rfl (by kernel_rfl) (by kernel_rfl) (by kernel_rfl) (fun _ _ _ h => h) (Or.inl ⟨by rfl, by intro w' hS; clear hS; go_simp⟩) hHeld ?_
      simp only [Act.put, List.setIfInBounds_toArray, List.set_cons_zero, List.set_cons_succ]
      refine wpAnyH_take (i := 9) (v := .int .i64 (cDD sf f d e)) rfl (by kernel_rfl) (by kernel_rfl) (by kernel_rfl) (fun _ _ _ h => h) (Or.inl ⟨by rfl, by intro w' hS; clear hS; go_simp⟩) hHeld ?_
      simp only [Act.put, List.setIfInBounds_toArray, List.set_cons_zero, List.set_cons_succ]
      refine wpAnyH_ready (rs := [10]) (by kernel_rfl) (by simp) ?_
      refine AllReadyH.cons rfl (fun K hK => ?_) AllReadyH.nil
      go_simp
      refine hK.out _ _ (hHeld) (fun hHeld => ?_)
      clear hK K
      try simp only [Act.put, List.setIfInBounds_toArray, List.set_cons_zero, List.set_cons_succ]
      refine wpAnyH_ready (rs := [11]) (by kernel_rfl) (by simp) ?_
      refine AllReadyH.cons rfl (fun K hK => ?_) AllReadyH.nil
      go_simp
      refine hK.out _ _ (hHeld) (fun hHeld => ?_)
      clear hK K
      try simp only [Act.put, List.setIfInBounds_toArray, List.set_cons_zero, List.set_cons_succ]
      refine wpAnyH_ready (rs := [12]) (by kernel_rfl) (by simp) ?_
      refine AllReadyH.cons rfl (fun K hK => ?_) AllReadyH.nil
      go_simp
      refine hK.out _ _ (hHeld) (fun hHeld => ?_)
      clear hK K
      try simp only [Act.put, List.setIfInBounds_toArray, List.set_cons_zero, List.set_cons_succ]
      refine wpAnyH_done (by kernel_rfl) ?_ _
      go_wp2_with fail
      go_meet
      case rel => exact ⟨rfl, rfl, rfl, hHeld⟩
    obtain ⟨rfl, rfl, rfl, b5⟩ := hcut
    obtain ⟨w5, rfl⟩ : ∃ x, x = wc := ⟨_, rfl⟩
    have H5 := Lib.hid (Ha.out.below b5)
    have Dd5 := Lib.hid (Dda.out.below b5)
    have De5 := Lib.hid (Dea.out.below b5)
    have G5 := Lib.hid (Ga.out.below b5)
    have B5 := bstep Ba b5
    have o5 := oa.below b5
    have hE := eqL_self f
    go_upto_region 10 with fail
    refine wp_region_held_drew (S := (Below w5.heap.size w5)) (by kernel_rfl) (bdrew (Below.refl _ _)) (fun hHeld => ?_)
    refine wpAnyH_take (i := 0) (v := .agg #[.int .i16 sf, .slice A4 f.length k4]) rfl (by kernel_rfl) (by kernel_rfl) (by kernel_rfl) (fun _ _ _ h => h) (Or.inl ⟨by rfl, by intro w' hS; have y1 := (G5.out.below hS).cell (i := 0) rfl; have y2 := (G5.out.below hS).cell (i := 1) rfl; clear hS; go_simp⟩) hHeld ?_
    simp only [Act.put, List.setIfInBounds_toArray, List.set_cons_zero, List.set_cons_succ]
    refine wpAnyH_take (i := 1) (v := .agg #[.int .i16 sf, .slice Af f.length kf]) rfl (by kernel_rfl) (by kernel_rfl) (by kernel_rfl) (fun _ _ _ h => h) (Or.inl ⟨by rfl, by intro w' hS; have y1 := (H5.out.below hS).cell (i := 0) rfl; have y2 := (H5.out.below hS).cell (i := 1) rfl; clear hS; go_simp⟩) hHeld ?_
    simp only [Act.put, List.setIfInBounds_toArray, List.set_cons_zero, List.set_cons_succ]
    refine wpAnyH_ready (rs := [2]) (by kernel_rfl) (by simp) ?_
    refine AllReadyH.cons rfl (fun K hK => ?_) AllReadyH.nil
    go_simp
    refine (c_toFrame sf Af kf f _ (hf.below (bstep B5 hHeld)) hLf).mono ?_
    rintro e wa ⟨Ax, kx, rfl, ox, hbk⟩
    go_wp2_with fail
    refine hK.out _ _ (bstep hHeld hbk) (fun hHeld => ?_)
    clear hK K
    try simp only [Act.put, List.setIfInBounds_toArray, List.set_cons_zero, List.set_cons_succ]
    refine wpAnyH_ready (rs := [3]) (by kernel_rfl) (by simp) ?_
    refine AllReadyH.cons rfl (fun K hK => ?_) AllReadyH.nil
    go_simp
    refine (c_eqFrame sf sf A4 Ax k4 kx f f _ (o5.at_.below hHeld) ox.at_ hLf hLf).mono ?_
    rintro e wb ⟨rfl, hbk⟩
    rw [hE, decide_self]
    go_wp2_with fail
    refine hK.out _ _ (bstep hHeld hbk) (fun hHeld => ?_)
    clear hK K
    try simp only [Act.put, List.setIfInBounds_toArray, List.set_cons_zero, List.set_cons_succ]
    refine wpAnyH_take (i := 4) (v := .bool false) rfl (by kernel_rfl) (by kernel_rfl) (by kernel_rfl) (fun _ _ _ h => h) (Or.inl ⟨by rfl, by intro w' hS; clear hS; go_simp⟩) hHeld ?_
    simp only [Act.put, List.setIfInBounds_toArray, List.set_cons_zero, List.set_cons_succ]
    refine wpAnyH_done (by kernel_rfl) ?_ _
    go_wp2
    go_ret
    exact ⟨rfl, bstep B5 hHeld⟩
  · have hsz : szI 1048576 f.length = -1 := by unfold szI; split <;> omega
    go_enter Try.func10, Try.ntmps10
    go_wp2_with fail
    refine (c_szFrame sf Af kf f.length (1048576) _ (by omega) (by omega) hnf).mono ?_
    rintro e w1 ⟨rfl, b1⟩
    rw [hsz]
    go_wp2
    go_ret
    exact ⟨rfl, bstep (balloc (balloc (balloc (Below.refl _ w) _) _) _) b1⟩
end Go.Proofs.Ytpfcbcmmofombaa
namespace Go.Proofs.Ytpfcbcmmofombaa.ofPinsToMove
open Go.ChangeShapes Go.WideShapes Go.ChangeAt Go.RowKit
theorem own : ownKnob Try.prog.godebug = none := by kernel_rfl
theorem laidOut : laidOutB Try.prog = true := by kernel_rfl
set_option maxRecDepth 100000 in
theorem lifted (os : Os) (started : os.Started) (H : Type) (enc : TypeId × Value → H) :
    ReturnsInHanded {} Try.checked os 10 .any (Rows.fnExactPinsToMoveSpec.pre6 enc Try.prog Try.f10 Rows.fnExactPinsToMoveRow.domain false) (Rows.fnExactPinsToMoveSpec.post enc Try.prog Try.f10 false true false false) := by
  refine returnsInHanded_of_change (C := Try.checked) own started (by kernel_rfl) Try.func10
    (ChangeSpec.witness6 (enc := enc) (C := Try.checked) false ⟨#[], #[.agg #[.int .i16 0, .slice none 0 0], .agg (Array.replicate 96 (.int .u32 0)), .agg (Array.replicate 96 (.int .u32 0))], []⟩ 8 (by kernel_rfl) (by kernel_rfl) (by kernel_rfl) (by kernel_rfl)) ?_
  intro W base args ds gs before hval0 hW hcnd _
  have hval : ∀ (j : Nat) t v, Try.f10.params[j]? = some t → args[j]? = some v → Value.okWide Try.prog W .any base t v := hval0
  have hW' := hW
  have hlt := fun p (hp : p ∈ before) => hW.lt p hp
  obtain ⟨p, q, hA0, hV, rfl, hfz, hnd⟩ := hW
  have hA : DataW.TrodAll enc Try.prog W 0 (fun _ => true) true Try.f10.params.toList args.toList ds p := hA0
  obtain ⟨rfl, rfl⟩ := trodVars_none hV
  simp only [List.append_nil] at hlt hW'
  have hback := fun W' hb => trodAll_below (W' := W') laidOut hb (by rw [Try.params10]; decide +kernel) hlt hA
  rw [Try.params10] at hA hval
  obtain ⟨v0, vs0, d0, ds0, p0, q0, hargs, rfl, rfl, h0, r0⟩ := trodAll_cons hA
  obtain ⟨v1, vs1, d1, ds1, p1, q1, rfl, rfl, rfl, h1, r1⟩ := trodAll_cons r0
  obtain ⟨v2, vs2, d2, ds2, p2, q2, rfl, rfl, rfl, h2, r2⟩ := trodAll_cons r1
  obtain ⟨rfl, rfl, rfl⟩ := trodAll_nil r2
  obtain rfl : args = #[v0, v1, v2] := by cases args; simp_all
  obtain ⟨sf, Af, kf, f, rfl, hw_s, hn_f, hr_f, hl_f⟩ := open_frame Try.underlying25 (by kernel_rfl) (by kernel_rfl) Try.underlying22 rfl Try.underlying23 Try.underlying99 Try.underlying70 Try.underlying70 (by kernel_rfl) (by kernel_rfl) (hval 0 _ _ rfl rfl) h0
  obtain ⟨d, rfl, hn_d, hr_d⟩ := open_drum Try.underlying38 Try.underlying37 (by kernel_rfl) (by kernel_rfl) (hval 1 _ _ rfl rfl) h1
  obtain ⟨e, rfl, hn_e, hr_e⟩ := open_drum Try.underlying38 Try.underlying37 (by kernel_rfl) (by kernel_rfl) (hval 2 _ _ rfl rfl) h2
  refine (law_PinsToMove sf Af kf f d e W hr_f hw_s hl_f hn_f hn_d hr_d hn_e hr_e).mono fun e W' ⟨he, bel⟩ => ?_
  subst he
  exact ⟨_, rfl, _, _, _, [], _, [], hW', trodAll_mk1 (shut_bool Try.underlying4 _), hback W' bel, rfl, bel.frame _, fun h => by cases h⟩
theorem over : Rows.fnExactPinsToMoveRow.holds Try.pinned (OpenSpec.ofChange Rows.fnExactPinsToMoveSpec) :=
  OpenClaim.holds_of_wide 10 Try.f10 rfl rfl rfl rfl rfl rfl rfl ⟨rfl, rfl, rfl, rfl, rfl⟩ rfl rfl rfl rfl rfl (by kernel_rfl) Try.func10 (by kernel_rfl)
    (of_decide_eq_true (by kernel_rfl)) (by unfold Func.isWrapper; first | (rw [if_pos (by decide +kernel)]; kernel_rfl) | (rw [if_neg (by decide +kernel)]; exact ⟨rfl, rfl⟩))
    (fun os started H enc _ => lifted os started H enc)
end Go.Proofs.Ytpfcbcmmofombaa.ofPinsToMove
namespace Go.Proofs.Ytpfcbcmmofombaa
theorem fnExactPinsToMove_holds : Rows.FnExactPinsToMoveSaid := ofPinsToMove.over
#print axioms fnExactPinsToMove_holds
end Go.Proofs.Ytpfcbcmmofombaa
