/-
  The statement FnExactDrumPictureSaid: whatever is given, the law's call returns true, and what is given reads as it did: the program's DrumPicture returns what the reference's returns. Conditions: none beyond the statement's own.
-/
import Derived.Test.YtobpnlhfinnfkaaRows
import Derived.Test.YtobpnlhfinnfkaaOpenD
import Derived.Test.YtobpnlhfinnfkaaDataF
import Derived.Test.YtobpnlhfinnfkaaWalkPIC
import Derived.Test.YtobpnlhfinnfkaaWalkDX
namespace Go.Proofs.Ytobpnlhfinnfkaa
open Go.RowKit
set_option linter.unusedVariables false
set_option linter.unusedSimpArgs false

set_option maxRecDepth 100000 in
set_option maxHeartbeats 4000000 in
theorem law_DrumPicture (sf : Int) (Af : Option Addr) (kf : Nat) (f : List (Int × Int)) (d : List Int) (w : World) (hf : At2 .i8 .i8 w Af f) (hsf : W16 sf) (hwf : Whs f) (hnf : f.length ≤ 9223372036854775807) (hd : d.length = 96) (hrd : ∀ x ∈ d, 0 ≤ x ∧ x ≤ 4294967295) :
    Calls Try.prog 6 #[.agg #[.int .i16 sf, .slice Af f.length kf], .agg (drumV d)] w fun e w' => e = .returned (.bool true) ∧ Below w.heap.size w w' := by
  have hu := Try.underlying37
  have hu2 := Try.underlying31
  have hud := Try.underlying33
  have hid1 : (Try.prog.info? 33).map (·.size) = some 96 := by kernel_rfl
  have hlnd : (Try.prog.info? 33).map (·.size) = some (drumV d).toList.length := by rw [drumV_len, hd]; exact hid1
  by_cases hLf0 : f.length ≤ 1048576
  · have hsz : szI 1048576 f.length = 1048576 - (f.length : Int) := by unfold szI; split <;> omega
    have ht : decide (1048576 - (f.length : Int) < 0) = false := decide_eq_false (by omega)
    have hLf : f.length ≤ 1073741824 := by omega
    go_enter Try.func6, Try.ntmps6
    go_wp2_with fail
    refine (c_szFrame sf Af kf f.length (1048576) _ (by omega) (by omega) hnf).mono ?_
    rintro e w1 ⟨rfl, b1⟩
    have v0 : Var ((w.alloc (.cells #[.int .i16 sf, .slice Af f.length kf] 31)).alloc (.cells (drumV d) 33)) (w.heap.size) #[.int .i16 sf, .slice Af f.length kf] 31 := by simpa using ((Var.new w #[.int .i16 sf, .slice Af f.length kf] 31).old (.cells (drumV d) 33))
    have H1 := Lib.hid (v0.below b1)
    clear v0
    have v1 : Var ((w.alloc (.cells #[.int .i16 sf, .slice Af f.length kf] 31)).alloc (.cells (drumV d) 33)) (w.heap.size + 1) (drumV d) 33 := by simpa using (Var.new (w.alloc (.cells #[.int .i16 sf, .slice Af f.length kf] 31)) (drumV d) 33)
    have Dd1 := Lib.hid (v1.below b1)
    clear v1
    have B1 := bstep (balloc (balloc (Below.refl _ w) _) _) b1
    rw [hsz]
    clear hsz
    have hR : (rPic sf f d).length ≤ 1073741824 := Nat.le_trans (rPic_len sf f d) (by decide)
    have hR2 : (rPic sf f d).length ≤ 1000000 := Nat.le_trans (rPic_len sf f d) (by decide)
    go_upto_region 5 with fail
    refine wp_region_held_drew (S := (Below w1.heap.size w1)) (by kernel_rfl) (bdrew (Below.refl _ _)) (fun hHeld => ?_)
    refine takeL (i := 0) (v := .agg #[.int .i16 sf, .slice Af f.length kf]) rfl (by kernel_rfl) (by kernel_rfl) (by kernel_rfl) (fun _ _ _ h => h) (Or.inl ⟨by rfl, by intro w' hS; have y1 := (H1.out.below hS).cell (i := 0) rfl; have y2 := (H1.out.below hS).cell (i := 1) rfl; clear hS; go_simp⟩) hHeld ?_
    simp only [Act.put, List.setIfInBounds_toArray, List.set_cons_zero, List.set_cons_succ]
    refine takeL (i := 2) (v := .agg (drumV d)) rfl (by kernel_rfl) (by kernel_rfl) (by kernel_rfl) (fun _ _ _ h => h) (by simpa using yieldsIf_load_mid (S := (Below w1.heap.size w1)) (by rfl) _ _ rfl _ _ rfl (drumV d).toList _ (fun w' hS => (Dd1.out.below hS).range) hud rfl hlnd) hHeld ?_
    simp only [Act.put, List.setIfInBounds_toArray, List.set_cons_zero, List.set_cons_succ]
    refine wpAnyH_ready (rs := [1]) (by kernel_rfl) (by simp) ?_
    refine readyL rfl (fun K hK => ?_) AllReadyH.nil
    go_simp
    refine (c_toFrame sf Af kf f _ (hf.below (bstep B1 hHeld)) hLf).mono ?_
    rintro e wa ⟨Ax, kx, rfl, ox, hbk⟩
    go_wp2_with fail
    refine hK.out _ _ (bstep hHeld hbk) (fun hHeld => ?_)
    clear hK K
    try simp only [Act.put, List.setIfInBounds_toArray, List.set_cons_zero, List.set_cons_succ]
    refine wpAnyH_ready (rs := [3]) (by kernel_rfl) (by simp) ?_
    refine readyL rfl (fun K hK => ?_) AllReadyH.nil
    go_simp
    refine (c_toDrum d _ hd).mono ?_
    rintro e wb0 ⟨rfl, hbk⟩
    go_wp2_with fail
    have oy := ox; clear ox; have ox := oy.below hbk; clear oy
    refine hK.out _ _ (bstep hHeld hbk) (fun hHeld => ?_)
    clear hK K
    try simp only [Act.put, List.setIfInBounds_toArray, List.set_cons_zero, List.set_cons_succ]
    refine wpAnyH_ready (rs := [4]) (by kernel_rfl) (by simp) ?_
    refine readyL rfl (fun K hK => ?_) AllReadyH.nil
    go_simp
    refine (c_specDrumPicture sf Ax kx f d _ ox.at_ hsf hwf hLf hd hrd).mono ?_
    rintro e w3 ⟨A3, c3, rfl, ow, hbk⟩
    go_wp2_with fail
    have ow2 := ow.base_le hHeld.size
    clear ow ox
    refine hK.out _ _ (bstep hHeld hbk) (fun hHeld => ?_)
    clear hK K
    try simp only [Act.put, List.setIfInBounds_toArray, List.set_cons_zero, List.set_cons_succ]
    refine takeL (i := 5) (v := .tuple #[.slice A3 (rPic sf f d).length c3, .int .i64 (cD sf f d)]) rfl (by kernel_rfl) (by kernel_rfl) (by kernel_rfl) (fun _ _ _ h => h) (Or.inl ⟨by rfl, by intro w' hS; clear hS; go_simp⟩) hHeld ?_
    simp only [Act.put, List.setIfInBounds_toArray, List.set_cons_zero, List.set_cons_succ]
    refine takeL (i := 6) (v := .slice A3 (rPic sf f d).length c3) rfl (by kernel_rfl) (by kernel_rfl) (by kernel_rfl) (fun _ _ _ h => h) (Or.inl ⟨by rfl, by intro w' hS; clear hS; go_simp⟩) hHeld ?_
    simp only [Act.put, List.setIfInBounds_toArray, List.set_cons_zero, List.set_cons_succ]
    refine takeL (i := 7) (v := .int .i64 (cD sf f d)) rfl (by kernel_rfl) (by kernel_rfl) (by kernel_rfl) (fun _ _ _ h => h) (Or.inl ⟨by rfl, by intro w' hS; clear hS; go_simp⟩) hHeld ?_
    simp only [Act.put, List.setIfInBounds_toArray, List.set_cons_zero, List.set_cons_succ]
    refine wpAnyH_ready (rs := [8]) (by kernel_rfl) (by simp) ?_
    refine readyL rfl (fun K hK => ?_) AllReadyH.nil
    go_simp
    refine hK.out _ _ (hHeld) (fun hHeld => ?_)
    clear hK K
    try simp only [Act.put, List.setIfInBounds_toArray, List.set_cons_zero, List.set_cons_succ]
    refine wpAnyH_ready (rs := [9]) (by kernel_rfl) (by simp) ?_
    refine readyL rfl (fun K hK => ?_) AllReadyH.nil
    go_simp
    refine hK.out _ _ (hHeld) (fun hHeld => ?_)
    clear hK K
    try simp only [Act.put, List.setIfInBounds_toArray, List.set_cons_zero, List.set_cons_succ]
    refine wpAnyH_done (by kernel_rfl) ?_ _
    have b3 := hHeld
    clear hHeld hbk
    have OW3 := Lib.hid ow2
    clear ow2
    have H3 := Lib.hid (H1.out.below b3)
    have Dd3 := Lib.hid (Dd1.out.below b3)
    have B3 := bstep B1 b3
    have c1 := H3.out.cell (i := 0) rfl
    have c2 := H3.out.cell (i := 1) rfl
    go_wp2_with fail
    refine (c_toFrame sf Af kf f _ (hf.below B3) hLf).mono ?_
    rintro e w4 ⟨A4, k4, rfl, o4, b4⟩
    have H4 := Lib.hid (H3.out.below b4)
    have Dd4 := Lib.hid (Dd3.out.below b4)
    have OW4 := Lib.hid (OW3.out.below b4)
    have B4 := bstep B3 b4
    clear c1 c2
    have v2 : Var (w4.alloc (.cells #[.int .i16 sf, .slice A4 f.length k4] 37)) w4.heap.size #[.int .i16 sf, .slice A4 f.length k4] 37 := Var.new _ _ _
    have Ga := Lib.hid v2
    clear v2
    have Ha := Lib.hid (H4.out.old (.cells #[.int .i16 sf, .slice A4 f.length k4] 37))
    have Dda := Lib.hid (Dd4.out.old (.cells #[.int .i16 sf, .slice A4 f.length k4] 37))
    have OWa := Lib.hid (OW4.out.alloc (.cells #[.int .i16 sf, .slice A4 f.length k4] 37))
    have oa := o4.alloc (.cells #[.int .i16 sf, .slice A4 f.length k4] 37)
    have Ba := balloc B4 (.cells #[.int .i16 sf, .slice A4 f.length k4] 37)
    have hw34 : w3.heap.size ≤ (w4.alloc (.cells #[.int .i16 sf, .slice A4 f.length k4] 37)).heap.size := Nat.le_trans b4.size (by simp)
    go_upto_region 7 with fail
    obtain ⟨wf, hwf2⟩ : ∃ u, u = w4.alloc (.cells #[.int .i16 sf, .slice A4 f.length k4] 37) := ⟨_, rfl⟩
    rw [← hwf2] at Ga Ha Dda OWa oa Ba hw34 ⊢
    clear hwf2
    have OA := Lib.hid oa
    refine wp_region_held_drew (S := (Below wf.heap.size wf)) (by kernel_rfl) (bdrew (Below.refl _ _)) (fun hHeld => ?_)
    refine takeL (i := 0) (v := .agg #[.int .i16 sf, .slice A4 f.length k4]) rfl (by kernel_rfl) (by kernel_rfl) (by kernel_rfl) (fun _ _ _ h => h) (Or.inl ⟨by rfl, by intro w' hS; have y1 := (Ga.out.below hS).cell (i := 0) rfl; have y2 := (Ga.out.below hS).cell (i := 1) rfl; clear hS; go_simp⟩) hHeld ?_
    simp only [Act.put, List.setIfInBounds_toArray, List.set_cons_zero, List.set_cons_succ]
    refine takeL (i := 1) (v := .agg (drumV d)) rfl (by kernel_rfl) (by kernel_rfl) (by kernel_rfl) (fun _ _ _ h => h) (by simpa using yieldsIf_load_mid (S := (Below wf.heap.size wf)) (by rfl) _ _ rfl _ _ rfl (drumV d).toList _ (fun w' hS => (Dda.out.below hS).range) hud rfl hlnd) hHeld ?_
    simp only [Act.put, List.setIfInBounds_toArray, List.set_cons_zero, List.set_cons_succ]
    refine wpAnyH_ready (rs := [2]) (by kernel_rfl) (by simp) ?_
    refine readyL rfl (fun K hK => ?_) AllReadyH.nil
    go_simp
    refine (c_toDrum d _ hd).mono ?_
    rintro e wb0 ⟨rfl, hbk⟩
    go_wp2_with fail
    refine hK.out _ _ (bstep hHeld hbk) (fun hHeld => ?_)
    clear hK K
    try simp only [Act.put, List.setIfInBounds_toArray, List.set_cons_zero, List.set_cons_succ]
    refine wpAnyH_ready (rs := [3]) (by kernel_rfl) (by simp) ?_
    refine readyL rfl (fun K hK => ?_) AllReadyH.nil
    go_simp
    refine (c_implDrumPicture sf A4 k4 f d _ (OA.out.at_.below hHeld) hsf hwf hLf hd hrd).mono ?_
    rintro e w5 ⟨A5, c5, rfl, og, hbk⟩
    go_wp2_with fail
    have og2 := og.base_le hHeld.size
    clear og
    refine hK.out _ _ (bstep hHeld hbk) (fun hHeld => ?_)
    clear hK K
    try simp only [Act.put, List.setIfInBounds_toArray, List.set_cons_zero, List.set_cons_succ]
    refine takeL (i := 4) (v := .tuple #[.slice A5 (rPic sf f d).length c5, .int .i64 (cD sf f d)]) rfl (by kernel_rfl) (by kernel_rfl) (by kernel_rfl) (fun _ _ _ h => h) (Or.inl ⟨by rfl, by intro w' hS; clear hS; go_simp⟩) hHeld ?_
    simp only [Act.put, List.setIfInBounds_toArray, List.set_cons_zero, List.set_cons_succ]
    refine takeL (i := 5) (v := .slice A5 (rPic sf f d).length c5) rfl (by kernel_rfl) (by kernel_rfl) (by kernel_rfl) (fun _ _ _ h => h) (Or.inl ⟨by rfl, by intro w' hS; clear hS; go_simp⟩) hHeld ?_
    simp only [Act.put, List.setIfInBounds_toArray, List.set_cons_zero, List.set_cons_succ]
    refine takeL (i := 6) (v := .int .i64 (cD sf f d)) rfl (by kernel_rfl) (by kernel_rfl) (by kernel_rfl) (fun _ _ _ h => h) (Or.inl ⟨by rfl, by intro w' hS; clear hS; go_simp⟩) hHeld ?_
    simp only [Act.put, List.setIfInBounds_toArray, List.set_cons_zero, List.set_cons_succ]
    refine wpAnyH_ready (rs := [7]) (by kernel_rfl) (by simp) ?_
    refine readyL rfl (fun K hK => ?_) AllReadyH.nil
    go_simp
    refine hK.out _ _ (hHeld) (fun hHeld => ?_)
    clear hK K
    try simp only [Act.put, List.setIfInBounds_toArray, List.set_cons_zero, List.set_cons_succ]
    refine wpAnyH_ready (rs := [8]) (by kernel_rfl) (by simp) ?_
    refine readyL rfl (fun K hK => ?_) AllReadyH.nil
    go_simp
    refine hK.out _ _ (hHeld) (fun hHeld => ?_)
    clear hK K
    try simp only [Act.put, List.setIfInBounds_toArray, List.set_cons_zero, List.set_cons_succ]
    refine wpAnyH_done (by kernel_rfl) ?_ _
    have b5 := hHeld
    clear hHeld hbk
    have OG5 := Lib.hid og2
    clear og2
    have H5 := Lib.hid (Ha.out.below b5)
    have Dd5 := Lib.hid (Dda.out.below b5)
    have G5 := Lib.hid (Ga.out.below b5)
    have OW5 := Lib.hid (OWa.out.below b5)
    have O5 := Lib.hid (OA.out.below b5)
    have B5 := bstep Ba b5
    have owH := fun j hj => OW3.out.high (j := j) hj
    have ogL := fun j hj => OG5.out.low (j := j) hj
    have hNE : ∀ j, (Value.slice A3 (rPic sf f d).length c3).ownBlock = some j → (Value.slice A5 (rPic sf f d).length c5).ownBlock ≠ some j := fun j hj hj2 => by have := owH j hj; have := ogL j hj2; omega
    have NE := Lib.hid hNE
    have OGL := Lib.hid (show ∀ j, (Value.slice A5 (rPic sf f d).length c5).ownBlock = some j → w.heap.size ≤ j from fun j hj => Nat.le_trans Ba.size (ogL j hj))
    clear hNE owH ogL hw34
    have hE := eqL_self f
    go_wp2_with fail
    refine (c_eqStringS _ _ _ _ (rPic sf f d) _ OG5.out.at_ OW5.out.at_ hR).mono ?_
    rintro e w6 ⟨rfl, b6⟩
    have H6 := Lib.hid (H5.out.below b6)
    have Dd6 := Lib.hid (Dd5.out.below b6)
    have G6 := Lib.hid (G5.out.below b6)
    have OW6 := Lib.hid (OW5.out.below b6)
    have OG6 := Lib.hid (OG5.out.below b6)
    have O6 := Lib.hid (O5.out.below b6)
    have B6 := bstep B5 b6
    go_upto_region 10 with fail
    refine wp_region_held_drew (S := (Below w6.heap.size w6)) (by kernel_rfl) (bdrew (Below.refl _ _)) (fun hHeld => ?_)
    refine takeL (i := 0) (v := .agg #[.int .i16 sf, .slice A4 f.length k4]) rfl (by kernel_rfl) (by kernel_rfl) (by kernel_rfl) (fun _ _ _ h => h) (Or.inl ⟨by rfl, by intro w' hS; have y1 := (G6.out.below hS).cell (i := 0) rfl; have y2 := (G6.out.below hS).cell (i := 1) rfl; clear hS; go_simp⟩) hHeld ?_
    simp only [Act.put, List.setIfInBounds_toArray, List.set_cons_zero, List.set_cons_succ]
    refine takeL (i := 1) (v := .agg #[.int .i16 sf, .slice Af f.length kf]) rfl (by kernel_rfl) (by kernel_rfl) (by kernel_rfl) (fun _ _ _ h => h) (Or.inl ⟨by rfl, by intro w' hS; have y1 := (H6.out.below hS).cell (i := 0) rfl; have y2 := (H6.out.below hS).cell (i := 1) rfl; clear hS; go_simp⟩) hHeld ?_
    simp only [Act.put, List.setIfInBounds_toArray, List.set_cons_zero, List.set_cons_succ]
    refine wpAnyH_ready (rs := [2]) (by kernel_rfl) (by simp) ?_
    refine readyL rfl (fun K hK => ?_) AllReadyH.nil
    go_simp
    refine (c_toFrame sf Af kf f _ (hf.below (bstep B6 hHeld)) hLf).mono ?_
    rintro e wa ⟨Ax, kx, rfl, ox, hbk⟩
    go_wp2_with fail
    refine hK.out _ _ (bstep hHeld hbk) (fun hHeld => ?_)
    clear hK K
    try simp only [Act.put, List.setIfInBounds_toArray, List.set_cons_zero, List.set_cons_succ]
    refine wpAnyH_ready (rs := [3]) (by kernel_rfl) (by simp) ?_
    refine readyL rfl (fun K hK => ?_) AllReadyH.nil
    go_simp
    refine (c_eqFrame sf sf A4 Ax k4 kx f f _ (O6.out.at_.below hHeld) ox.at_ hLf hLf).mono ?_
    rintro e w7 ⟨rfl, hbk⟩
    rw [hE, decide_self]
    go_wp2_with fail
    refine hK.out _ _ (bstep hHeld hbk) (fun hHeld => ?_)
    clear hK K
    try simp only [Act.put, List.setIfInBounds_toArray, List.set_cons_zero, List.set_cons_succ]
    refine takeL (i := 4) (v := .bool false) rfl (by kernel_rfl) (by kernel_rfl) (by kernel_rfl) (fun _ _ _ h => h) (Or.inl ⟨by rfl, by intro w' hS; clear hS; go_simp⟩) hHeld ?_
    simp only [Act.put, List.setIfInBounds_toArray, List.set_cons_zero, List.set_cons_succ]
    refine wpAnyH_done (by kernel_rfl) ?_ _
    have b7 := hHeld
    clear hHeld hbk ox
    have H7 := Lib.hid (H6.out.below b7)
    have Dd7 := Lib.hid (Dd6.out.below b7)
    have G7 := Lib.hid (G6.out.below b7)
    have OW7 := Lib.hid (OW6.out.below b7)
    have OG7 := Lib.hid (OG6.out.below b7)
    have O7 := Lib.hid (O6.out.below b7)
    have B7 := bstep B6 b7
    have g1 := G7.out.cell (i := 0) rfl
    have g2 := G7.out.cell (i := 1) rfl
    go_wp2_with fail
    refine (c_markFrame sf A4 k4 f 1 _ _ O7.out hLf (by omega)).mono ?_
    rintro e w8 ⟨rfl, g8⟩
    clear g1 g2
    have H8 := Lib.hid (H7.out.grownH g8 (own_ne_var O7.out H7.out (by decide)))
    have Dd8 := Lib.hid (Dd7.out.grownH g8 (own_ne_var O7.out Dd7.out (by decide)))
    have OW8 := Lib.hid (OW7.out.apart g8 (own_ne_own OW7.out O7.out (by decide)))
    have OG8 := Lib.hid (OG7.out.apart g8 (own_ne_own OG7.out O7.out (by decide)))
    have B8 := bgrown B7 g8 (fun k hk => by have := O7.out.low hk; have := B3.size; omega)
    have hk0 : decide (((1 + 2 * f.length : Nat) : Int) < 0) = false := decide_eq_false (by omega)
    go_wp2_with fail
    refine (c_eqStringS _ _ _ _ (rPic sf f d) _ OG8.out.at_ OW8.out.at_ hR).mono ?_
    rintro e w9 ⟨rfl, b9⟩
    have H9 := Lib.hid (H8.out.below b9)
    have Dd9 := Lib.hid (Dd8.out.below b9)
    have OW9 := Lib.hid (OW8.out.below b9)
    have OG9 := Lib.hid (OG8.out.below b9)
    have B9 := bstep B8 b9
    go_wp2_with fail
    refine (c_markStringS A5 c5 (rPic sf f d) 1 _ _ OG9.out (by omega) (by omega)).mono ?_
    rintro e w10 ⟨rfl, og, g10⟩
    have H10 := Lib.hid (H9.out.grownH g10 (own_ne_var OG9.out H9.out (by decide)))
    have Dd10 := Lib.hid (Dd9.out.grownH g10 (own_ne_var OG9.out Dd9.out (by decide)))
    have OW10 := Lib.hid (OW9.out.apart g10 NE.out)
    have OG10 := Lib.hid og
    clear og
    have B10 := bgrown B9 g10 (fun k hk => OGL.out k hk)
    have hk1 : decide (((1 + (rPic sf f d).length : Nat) : Int) < 0) = false := decide_eq_false (by omega)
    go_wp2_with fail
    refine (c_heldStringS A5 c5 (rPic sf f d).length 1 _ OG10.out.at_ (by omega) (by omega)).mono ?_
    rintro e w11 ⟨rfl, b11⟩
    have H11 := Lib.hid (H10.out.below b11)
    have Dd11 := Lib.hid (Dd10.out.below b11)
    have OW11 := Lib.hid (OW10.out.below b11)
    have OG11 := Lib.hid (OG10.out.below b11)
    have B11 := bstep B10 b11
    go_upto_region 24 with fail
    refine wp_region_held_drew (S := (Below w11.heap.size w11)) (by kernel_rfl) (bdrew (Below.refl _ _)) (fun hHeld => ?_)
    refine takeL (i := 0) (v := .agg #[.int .i16 sf, .slice Af f.length kf]) rfl (by kernel_rfl) (by kernel_rfl) (by kernel_rfl) (fun _ _ _ h => h) (Or.inl ⟨by rfl, by intro w' hS; have y1 := (H11.out.below hS).cell (i := 0) rfl; have y2 := (H11.out.below hS).cell (i := 1) rfl; clear hS; go_simp⟩) hHeld ?_
    simp only [Act.put, List.setIfInBounds_toArray, List.set_cons_zero, List.set_cons_succ]
    refine takeL (i := 2) (v := .agg (drumV d)) rfl (by kernel_rfl) (by kernel_rfl) (by kernel_rfl) (fun _ _ _ h => h) (by simpa using yieldsIf_load_mid (S := (Below w11.heap.size w11)) (by rfl) _ _ rfl _ _ rfl (drumV d).toList _ (fun w' hS => (Dd11.out.below hS).range) hud rfl hlnd) hHeld ?_
    simp only [Act.put, List.setIfInBounds_toArray, List.set_cons_zero, List.set_cons_succ]
    refine wpAnyH_ready (rs := [1]) (by kernel_rfl) (by simp) ?_
    refine readyL rfl (fun K hK => ?_) AllReadyH.nil
    go_simp
    refine (c_toFrame sf Af kf f _ (hf.below (bstep B11 hHeld)) hLf).mono ?_
    rintro e wa ⟨Ax, kx, rfl, ox, hbk⟩
    go_wp2_with fail
    refine hK.out _ _ (bstep hHeld hbk) (fun hHeld => ?_)
    clear hK K
    try simp only [Act.put, List.setIfInBounds_toArray, List.set_cons_zero, List.set_cons_succ]
    refine wpAnyH_ready (rs := [3]) (by kernel_rfl) (by simp) ?_
    refine readyL rfl (fun K hK => ?_) AllReadyH.nil
    go_simp
    refine (c_toDrum d _ hd).mono ?_
    rintro e wb0 ⟨rfl, hbk⟩
    go_wp2_with fail
    have oy := ox; clear ox; have ox := oy.below hbk; clear oy
    refine hK.out _ _ (bstep hHeld hbk) (fun hHeld => ?_)
    clear hK K
    try simp only [Act.put, List.setIfInBounds_toArray, List.set_cons_zero, List.set_cons_succ]
    refine wpAnyH_ready (rs := [4]) (by kernel_rfl) (by simp) ?_
    refine readyL rfl (fun K hK => ?_) AllReadyH.nil
    go_simp
    refine (c_implDrumPicture sf Ax kx f d _ ox.at_ hsf hwf hLf hd hrd).mono ?_
    rintro e w12 ⟨A6, c6, rfl, oh, hbk⟩
    go_wp2_with fail
    have oh2 := oh.base_le hHeld.size
    clear oh ox
    refine hK.out _ _ (bstep hHeld hbk) (fun hHeld => ?_)
    clear hK K
    try simp only [Act.put, List.setIfInBounds_toArray, List.set_cons_zero, List.set_cons_succ]
    refine takeL (i := 5) (v := .tuple #[.slice A6 (rPic sf f d).length c6, .int .i64 (cD sf f d)]) rfl (by kernel_rfl) (by kernel_rfl) (by kernel_rfl) (fun _ _ _ h => h) (Or.inl ⟨by rfl, by intro w' hS; clear hS; go_simp⟩) hHeld ?_
    simp only [Act.put, List.setIfInBounds_toArray, List.set_cons_zero, List.set_cons_succ]
    refine takeL (i := 6) (v := .slice A6 (rPic sf f d).length c6) rfl (by kernel_rfl) (by kernel_rfl) (by kernel_rfl) (fun _ _ _ h => h) (Or.inl ⟨by rfl, by intro w' hS; clear hS; go_simp⟩) hHeld ?_
    simp only [Act.put, List.setIfInBounds_toArray, List.set_cons_zero, List.set_cons_succ]
    refine takeL (i := 7) (v := .int .i64 (cD sf f d)) rfl (by kernel_rfl) (by kernel_rfl) (by kernel_rfl) (fun _ _ _ h => h) (Or.inl ⟨by rfl, by intro w' hS; clear hS; go_simp⟩) hHeld ?_
    simp only [Act.put, List.setIfInBounds_toArray, List.set_cons_zero, List.set_cons_succ]
    refine wpAnyH_ready (rs := [8]) (by kernel_rfl) (by simp) ?_
    refine readyL rfl (fun K hK => ?_) AllReadyH.nil
    go_simp
    refine hK.out _ _ (hHeld) (fun hHeld => ?_)
    clear hK K
    try simp only [Act.put, List.setIfInBounds_toArray, List.set_cons_zero, List.set_cons_succ]
    refine wpAnyH_ready (rs := [9]) (by kernel_rfl) (by simp) ?_
    refine readyL rfl (fun K hK => ?_) AllReadyH.nil
    go_simp
    refine hK.out _ _ (hHeld) (fun hHeld => ?_)
    clear hK K
    try simp only [Act.put, List.setIfInBounds_toArray, List.set_cons_zero, List.set_cons_succ]
    refine wpAnyH_done (by kernel_rfl) ?_ _
    have b12 := hHeld
    clear hHeld hbk
    have OH12 := Lib.hid oh2
    clear oh2
    have OW12 := Lib.hid (OW11.out.below b12)
    have OG12 := Lib.hid (OG11.out.below b12)
    have B12 := bstep B11 b12
    go_wp2_with fail
    refine (c_eqStringS _ _ _ _ (rPic sf f d) _ OH12.out.at_ OW12.out.at_ hR).mono ?_
    rintro e w13 ⟨rfl, b13⟩
    have OG13 := Lib.hid (OG12.out.below b13)
    have B13 := bstep B12 b13
    go_wp2_with fail
    refine (c_heldStringS A5 c5 (rPic sf f d).length 1 _ OG13.out.at_ (by omega) (by omega)).mono ?_
    rintro e w14 ⟨rfl, b14⟩
    have B14 := bstep B13 b14
    go_wp2
    go_ret
    exact ⟨rfl, B14⟩
  · have hsz : szI 1048576 f.length = -1 := by unfold szI; split <;> omega
    go_enter Try.func6, Try.ntmps6
    go_wp2_with fail
    refine (c_szFrame sf Af kf f.length (1048576) _ (by omega) (by omega) hnf).mono ?_
    rintro e w1 ⟨rfl, b1⟩
    rw [hsz]
    go_wp2
    go_ret
    exact ⟨rfl, bstep (balloc (balloc (Below.refl _ w) _) _) b1⟩
end Go.Proofs.Ytobpnlhfinnfkaa
namespace Go.Proofs.Ytobpnlhfinnfkaa.ofDrumPicture
open Go.ChangeShapes Go.WideShapes Go.ChangeAt Go.RowKit
theorem own : ownKnob Try.prog.godebug = none := by kernel_rfl
theorem laidOut : laidOutB Try.prog = true := by kernel_rfl
set_option maxRecDepth 100000 in
theorem lifted (os : Os) (started : os.Started) (H : Type) (enc : TypeId × Value → H) :
    ReturnsInHanded {} Try.checked os 6 .any (Rows.fnExactDrumPictureSpec.pre6 enc Try.prog Try.f6 Rows.fnExactDrumPictureRow.domain false) (Rows.fnExactDrumPictureSpec.post enc Try.prog Try.f6 false true false false) := by
  refine returnsInHanded_of_change (C := Try.checked) own started (by kernel_rfl) Try.func6
    (ChangeSpec.witness6 (enc := enc) (C := Try.checked) false ⟨#[], #[.agg #[.int .i16 0, .slice none 0 0], .agg (Array.replicate 96 (.int .u32 0))], []⟩ 8 (by kernel_rfl) (by kernel_rfl) (by kernel_rfl) (by kernel_rfl)) ?_
  intro W base args ds gs before hval0 hW hcnd _
  have hval : ∀ (j : Nat) t v, Try.f6.params[j]? = some t → args[j]? = some v → Value.okWide Try.prog W .any base t v := hval0
  have hW' := hW
  have hlt := fun p (hp : p ∈ before) => hW.lt p hp
  obtain ⟨p, q, hA0, hV, rfl, hfz, hnd⟩ := hW
  have hA : DataW.TrodAll enc Try.prog W 0 (fun _ => true) true Try.f6.params.toList args.toList ds p := hA0
  obtain ⟨rfl, rfl⟩ := trodVars_none hV
  simp only [List.append_nil] at hlt hW'
  have hback := fun W' hb => trodAll_below (W' := W') laidOut hb (by rw [Try.params6]; decide +kernel) hlt hA
  rw [Try.params6] at hA hval
  obtain ⟨v0, vs0, d0, ds0, p0, q0, hargs, rfl, rfl, h0, r0⟩ := trodAll_cons hA
  obtain ⟨v1, vs1, d1, ds1, p1, q1, rfl, rfl, rfl, h1, r1⟩ := trodAll_cons r0
  obtain ⟨rfl, rfl, rfl⟩ := trodAll_nil r1
  obtain rfl : args = #[v0, v1] := by cases args; simp_all
  obtain ⟨sf, Af, kf, f, rfl, hw_s, hn_f, hr_f, hl_f⟩ := open_frame Try.underlying31 (by kernel_rfl) (by kernel_rfl) Try.underlying28 rfl Try.underlying29 Try.underlying99 Try.underlying49 Try.underlying49 (by kernel_rfl) (by kernel_rfl) (hval 0 _ _ rfl rfl) h0
  obtain ⟨d, rfl, hn_d, hr_d⟩ := open_drum Try.underlying33 Try.underlying32 (by kernel_rfl) (by kernel_rfl) (hval 1 _ _ rfl rfl) h1
  refine (law_DrumPicture sf Af kf f d W hr_f hw_s hl_f hn_f hn_d hr_d).mono fun e W' ⟨he, bel⟩ => ?_
  subst he
  exact ⟨_, rfl, _, _, _, [], _, [], hW', trodAll_mk1 (shut_bool Try.underlying4 _), hback W' bel, rfl, bel.frame _, fun h => by cases h⟩
theorem over : Rows.fnExactDrumPictureRow.holds Try.pinned (OpenSpec.ofChange Rows.fnExactDrumPictureSpec) :=
  OpenClaim.holds_of_wide 6 Try.f6 rfl rfl rfl rfl rfl rfl rfl ⟨rfl, rfl, rfl, rfl, rfl⟩ rfl rfl rfl rfl rfl (by kernel_rfl) Try.func6 (by kernel_rfl)
    (of_decide_eq_true (by kernel_rfl)) (by unfold Func.isWrapper; first | (rw [if_pos (by decide +kernel)]; kernel_rfl) | (rw [if_neg (by decide +kernel)]; exact ⟨rfl, rfl⟩))
    (fun os started H enc _ => lifted os started H enc)
end Go.Proofs.Ytobpnlhfinnfkaa.ofDrumPicture
namespace Go.Proofs.Ytobpnlhfinnfkaa
theorem fnExactDrumPicture_holds : Rows.FnExactDrumPictureSaid := ofDrumPicture.over
#print axioms fnExactDrumPicture_holds
end Go.Proofs.Ytobpnlhfinnfkaa
