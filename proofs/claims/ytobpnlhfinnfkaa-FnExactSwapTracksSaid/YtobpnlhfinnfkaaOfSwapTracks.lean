/-
  The statement FnExactSwapTracksSaid: whatever is given, the law's call returns true, and what is given reads as it did: the program's SwapTracks returns what the reference's returns. Conditions: none beyond the statement's own.
-/
import Derived.Test.YtobpnlhfinnfkaaRows
import Derived.Test.YtobpnlhfinnfkaaOpenD
import Derived.Test.YtobpnlhfinnfkaaDataF
import Derived.Test.YtobpnlhfinnfkaaWalkHM
import Derived.Test.YtobpnlhfinnfkaaWalkSX
namespace Go.Proofs.Ytobpnlhfinnfkaa
open Go.RowKit
set_option linter.unusedVariables false
set_option linter.unusedSimpArgs false

/-- A step that several roads lead to is shown once. -/
theorem share {T M : Prop} (h : T → M) (k : T) : M := h k

set_option maxRecDepth 100000 in
set_option maxHeartbeats 4000000 in
theorem law_SwapTracks (sf : Int) (Af : Option Addr) (kf : Nat) (f : List (Int × Int)) (d : List Int) (p q : Int) (w : World) (hf : At2 .i8 .i8 w Af f) (hsf : W16 sf) (hwf : Whs f) (hnf : f.length ≤ 9223372036854775807) (hd : d.length = 96) (hrd : ∀ x ∈ d, 0 ≤ x ∧ x ≤ 4294967295) (hbp : -9223372036854775808 ≤ p ∧ p ≤ 9223372036854775807) (hbq : -9223372036854775808 ≤ q ∧ q ≤ 9223372036854775807) :
    Calls Try.prog 4 #[.agg #[.int .i16 sf, .slice Af f.length kf], .agg (drumV d), .int .i64 p, .int .i64 q] w fun e w' => e = .returned (.bool true) ∧ Below w.heap.size w w' := by
  have hu := Try.underlying37
  have hu2 := Try.underlying31
  have hud := Try.underlying33
  have hid1 : (Try.prog.info? 33).map (·.size) = some 96 := by kernel_rfl
  have hlnd : (Try.prog.info? 33).map (·.size) = some (drumV d).toList.length := by rw [drumV_len, hd]; exact hid1
  by_cases hLf0 : f.length ≤ 1048576
  · have hsz : szI 1048576 f.length = 1048576 - (f.length : Int) := by unfold szI; split <;> omega
    have ht : decide (1048576 - (f.length : Int) < 0) = false := decide_eq_false (by omega)
    have hLf : f.length ≤ 1073741824 := by omega
    go_enter Try.func4, Try.ntmps4
    go_wp2_with fail
    refine (c_szFrame sf Af kf f.length (1048576) _ (by omega) (by omega) hnf).mono ?_
    rintro e w1 ⟨rfl, b1⟩
    have v0 : Var ((w.alloc (.cells #[.int .i16 sf, .slice Af f.length kf] 31)).alloc (.cells (drumV d) 33)) w.heap.size #[.int .i16 sf, .slice Af f.length kf] 31 := by simpa using (Var.new w #[.int .i16 sf, .slice Af f.length kf] 31).old (.cells (drumV d) 33)
    have v1 : Var ((w.alloc (.cells #[.int .i16 sf, .slice Af f.length kf] 31)).alloc (.cells (drumV d) 33)) (w.heap.size + 1) (drumV d) 33 := by simpa using Var.new (w.alloc (.cells #[.int .i16 sf, .slice Af f.length kf] 31)) (drumV d) 33
    have H1 := Lib.hid (v0.below b1)
    have D1 := Lib.hid (v1.below b1)
    clear v0 v1
    have B1 := bstep (balloc (balloc (Below.refl _ w) _) _) b1
    clear b1
    rw [hsz]
    clear hsz
    obtain ⟨SS, FF, DD, CC, hspec, himpl, hDl, hFl⟩ : ∃ (SS : Int) (FF : List (Int × Int)) (DD : List Int) (CC : Int), (∀ Ax kx u, At2 .i8 .i8 u Ax f → Calls Try.prog 12 #[.agg #[.int .i16 sf, .slice Ax f.length kx], .agg (drumV d), .int .i64 p, .int .i64 q] u fun e w' => ∃ A' c', e = .returned (.tuple #[.agg #[.int .i16 SS, .slice A' FF.length c'], .agg (drumV DD), .int .i64 CC]) ∧ Own2 .i8 .i8 71 w' u.heap.size (.slice A' FF.length c') FF ∧ Below u.heap.size u w') ∧ (∀ Ax kx u, At2 .i8 .i8 u Ax f → Calls Try.prog 15 #[.agg #[.int .i16 sf, .slice Ax f.length kx], .agg (drumV d), .int .i64 p, .int .i64 q] u fun e w' => ∃ A' c', e = .returned (.tuple #[.agg #[.int .i16 SS, .slice A' FF.length c'], .agg (drumV DD), .int .i64 CC]) ∧ Own2 .i8 .i8 71 w' u.heap.size (.slice A' FF.length c') FF ∧ Below u.heap.size u w') ∧ DD.length = 96 ∧ FF.length ≤ 1073741824 :=
      ⟨sSw sf f d p q, fSw sf f d p q, dSw sf f d p q, cSw sf f d p q, fun Ax kx u h => c_specSwapTracks sf Ax kx f d p q u h hsf hwf hLf hd hrd hbp hbq, fun Ax kx u h => c_implSwapTracks sf Ax kx f d p q u h hsf hwf hLf hd hrd hbp hbq, dSw_len hd _ _ _ _, Nat.le_trans (fSw_len _ _ _ _ _) hLf⟩
    go_upto_region 5 with fail
    go_cut [10, 11, 12] from 23 (fun s t c w' => ∃ g q Az cz, s = .pointer (some ⟨g, 0, none⟩) ∧ t = .pointer (some ⟨q, 0, none⟩) ∧ c = .int .i64 CC ∧ Var w' g #[.int .i16 SS, .slice Az FF.length cz] 37 ∧ Var w' q (drumV DD) 38 ∧ Own2 .i8 .i8 71 w' w1.heap.size (.slice Az FF.length cz) FF ∧ w1.heap.size ≤ g ∧ w1.heap.size ≤ q ∧ Below w1.heap.size w1 w')
    case first => as_aux_lemma =>
      refine wp_region_held_drew (S := (Below w1.heap.size w1)) (by kernel_rfl) (bdrew (Below.refl _ _)) (fun hHeld => ?_)
      refine takeL (i := 0) (v := .agg #[.int .i16 sf, .slice Af f.length kf]) rfl (by kernel_rfl) (by kernel_rfl) (by kernel_rfl) (fun _ _ _ h => h) (Or.inl ⟨by rfl, by intro w' hS; have y1 := (H1.out.below hS).cell (i := 0) rfl; have y2 := (H1.out.below hS).cell (i := 1) rfl; clear hS; go_simp⟩) hHeld ?_
      simp only [Act.put, List.setIfInBounds_toArray, List.set_cons_zero, List.set_cons_succ]
      refine takeL (i := 2) (v := .agg (drumV d)) rfl (by kernel_rfl) (by kernel_rfl) (by kernel_rfl) (fun _ _ _ h => h) (by simpa using yieldsIf_load_mid (S := (Below w1.heap.size w1)) (by rfl) _ _ rfl _ _ rfl (drumV d).toList _ (fun w' hS => (D1.out.below hS).range) hud rfl hlnd) hHeld ?_
      simp only [Act.put, List.setIfInBounds_toArray, List.set_cons_zero, List.set_cons_succ]
      refine takeL (i := 4) (v := .int .i64 p) rfl (by kernel_rfl) (by kernel_rfl) (by kernel_rfl) (fun _ _ _ h => h) (Or.inl ⟨by rfl, by intro w' hS; clear hS; go_simp⟩) hHeld ?_
      simp only [Act.put, List.setIfInBounds_toArray, List.set_cons_zero, List.set_cons_succ]
      refine takeL (i := 5) (v := .int .i64 q) rfl (by kernel_rfl) (by kernel_rfl) (by kernel_rfl) (fun _ _ _ h => h) (Or.inl ⟨by rfl, by intro w' hS; clear hS; go_simp⟩) hHeld ?_
      simp only [Act.put, List.setIfInBounds_toArray, List.set_cons_zero, List.set_cons_succ]
      obtain ⟨v, hv⟩ : ∃ x, w1.drew = x := ⟨_, rfl⟩
      rw [hv] at hHeld ⊢
      clear hv
      revert hHeld
      revert v
      apply share
      · intro st311
        apply share
        · intro st211
          apply share
          · intro st301
            apply share
            · intro st310
              apply share
              · intro st111
                apply share
                · intro st201
                  apply share
                  · intro st210
                    apply share
                    · intro st300
                      apply share
                      · intro st011
                        apply share
                        · intro st101
                          apply share
                          · intro st110
                            apply share
                            · intro st200
                              apply share
                              · intro st001
                                apply share
                                · intro st010
                                  apply share
                                  · intro st100
                                    intro u J
                                    have hHeld := J; clear J
                                    refine wpAnyH_ready (rs := [1, 11, 12]) (by kernel_rfl) (by simp) ?_
                                    refine readyL rfl (fun K hK => ?_) (readyL rfl (fun K hK => ?_) (readyL rfl (fun K hK => ?_) AllReadyH.nil))
                                    · skip
                                      go_simp
                                      refine (c_toFrame sf Af kf f _ (hf.below (bstep B1 hHeld)) hLf).mono ?_
                                      rintro e v ⟨Ax, kx, rfl, oy, hbk⟩
                                      go_wp2_with fail
                                      refine hK.out _ _ (bstep hHeld hbk) (fun hHeld => ?_)
                                      clear hK K
                                      try simp only [Act.put, List.setIfInBounds_toArray, List.set_cons_zero, List.set_cons_succ]
                                      have oz := oy.at_
                                      have J := And.intro hHeld (oz)
                                      clear hbk hHeld oy oz
                                      revert J
                                      revert kx
                                      revert Ax
                                      revert v
                                      exact st100
                                    · skip
                                      go_simp
                                      have hV := Var.new u #[.int .i16 0, .slice none 0 0] 37
                                      obtain ⟨g, hg⟩ : ∃ g : Nat, g = u.heap.size := ⟨_, rfl⟩
                                      have hgl : w1.heap.size ≤ g := by rw [hg]; exact hHeld.size
                                      rw [← hg] at hV ⊢
                                      refine hK.out _ _ (balloc hHeld (.cells #[.int .i16 0, .slice none 0 0] 37)) (fun hHeld => ?_)
                                      clear hK K
                                      try simp only [Act.put, List.setIfInBounds_toArray, List.set_cons_zero, List.set_cons_succ]
                                      obtain ⟨v, hv⟩ : ∃ x, x = u.alloc (.cells #[.int .i16 0, .slice none 0 0] 37) := ⟨_, rfl⟩
                                      rw [← hv] at hHeld hV ⊢
                                      clear hv hg
                                      have J := And.intro hHeld (And.intro hV (hgl))
                                      clear hHeld hV hgl
                                      revert J
                                      revert g
                                      revert v
                                      exact st010
                                    · skip
                                      rw [if_pos (by rfl)]
                                      refine wp_alloc_drum rfl zero_Drum ?_
                                      have hU := Var.new u (drumV zD) 38
                                      obtain ⟨q, hg⟩ : ∃ g : Nat, g = u.heap.size := ⟨_, rfl⟩
                                      have hql : w1.heap.size ≤ q := by rw [hg]; exact hHeld.size
                                      rw [← hg] at hU ⊢
                                      refine hK.out _ _ (balloc hHeld (.cells (drumV zD) 38)) (fun hHeld => ?_)
                                      clear hK K
                                      try simp only [Act.put, List.setIfInBounds_toArray, List.set_cons_zero, List.set_cons_succ]
                                      obtain ⟨v, hv⟩ : ∃ x, x = u.alloc (.cells (drumV zD) 38) := ⟨_, rfl⟩
                                      rw [← hv] at hHeld hU ⊢
                                      clear hv hg
                                      have J := And.intro hHeld (And.intro hU (hql))
                                      clear hHeld hU hql
                                      revert J
                                      revert q
                                      revert v
                                      exact st001
                                  · skip
                                    intro u Ax kx J
                                    obtain ⟨hHeld, ox⟩ := J
                                    refine wpAnyH_ready (rs := [3, 11, 12]) (by kernel_rfl) (by simp) ?_
                                    refine readyL rfl (fun K hK => ?_) (readyL rfl (fun K hK => ?_) (readyL rfl (fun K hK => ?_) AllReadyH.nil))
                                    · skip
                                      go_simp
                                      refine (c_toDrum d _ hd).mono ?_
                                      rintro e v ⟨rfl, hbk⟩
                                      go_wp2_with fail
                                      refine hK.out _ _ (bstep hHeld hbk) (fun hHeld => ?_)
                                      clear hK K
                                      try simp only [Act.put, List.setIfInBounds_toArray, List.set_cons_zero, List.set_cons_succ]
                                      have oz := ox.below hbk
                                      have J := And.intro hHeld (oz)
                                      clear hbk hHeld oz ox
                                      revert J
                                      revert kx
                                      revert Ax
                                      revert v
                                      exact st200
                                    · skip
                                      go_simp
                                      have hV := Var.new u #[.int .i16 0, .slice none 0 0] 37
                                      obtain ⟨g, hg⟩ : ∃ g : Nat, g = u.heap.size := ⟨_, rfl⟩
                                      have hgl : w1.heap.size ≤ g := by rw [hg]; exact hHeld.size
                                      rw [← hg] at hV ⊢
                                      refine hK.out _ _ (balloc hHeld (.cells #[.int .i16 0, .slice none 0 0] 37)) (fun hHeld => ?_)
                                      clear hK K
                                      try simp only [Act.put, List.setIfInBounds_toArray, List.set_cons_zero, List.set_cons_succ]
                                      obtain ⟨v, hv⟩ : ∃ x, x = u.alloc (.cells #[.int .i16 0, .slice none 0 0] 37) := ⟨_, rfl⟩
                                      have oz := ox.alloc (.cells #[.int .i16 0, .slice none 0 0] 37)
                                      rw [← hv] at hHeld hV oz ⊢
                                      clear hv hg
                                      have J := And.intro hHeld (And.intro oz (And.intro hV (hgl)))
                                      clear hHeld hV hgl oz ox
                                      revert J
                                      revert g
                                      revert kx
                                      revert Ax
                                      revert v
                                      exact st110
                                    · skip
                                      rw [if_pos (by rfl)]
                                      refine wp_alloc_drum rfl zero_Drum ?_
                                      have hU := Var.new u (drumV zD) 38
                                      obtain ⟨q, hg⟩ : ∃ g : Nat, g = u.heap.size := ⟨_, rfl⟩
                                      have hql : w1.heap.size ≤ q := by rw [hg]; exact hHeld.size
                                      rw [← hg] at hU ⊢
                                      refine hK.out _ _ (balloc hHeld (.cells (drumV zD) 38)) (fun hHeld => ?_)
                                      clear hK K
                                      try simp only [Act.put, List.setIfInBounds_toArray, List.set_cons_zero, List.set_cons_succ]
                                      obtain ⟨v, hv⟩ : ∃ x, x = u.alloc (.cells (drumV zD) 38) := ⟨_, rfl⟩
                                      have oz := ox.alloc (.cells (drumV zD) 38)
                                      rw [← hv] at hHeld hU oz ⊢
                                      clear hv hg
                                      have J := And.intro hHeld (And.intro oz (And.intro hU (hql)))
                                      clear hHeld hU hql oz ox
                                      revert J
                                      revert q
                                      revert kx
                                      revert Ax
                                      revert v
                                      exact st101
                                · skip
                                  intro u g J
                                  obtain ⟨hHeld, hV, hgl⟩ := J
                                  refine wpAnyH_ready (rs := [1, 12]) (by kernel_rfl) (by simp) ?_
                                  refine readyL rfl (fun K hK => ?_) (readyL rfl (fun K hK => ?_) AllReadyH.nil)
                                  · skip
                                    go_simp
                                    refine (c_toFrame sf Af kf f _ (hf.below (bstep B1 hHeld)) hLf).mono ?_
                                    rintro e v ⟨Ax, kx, rfl, oy, hbk⟩
                                    go_wp2_with fail
                                    refine hK.out _ _ (bstep hHeld hbk) (fun hHeld => ?_)
                                    clear hK K
                                    try simp only [Act.put, List.setIfInBounds_toArray, List.set_cons_zero, List.set_cons_succ]
                                    have oz := oy.at_
                                    have hV2 := hV.below hbk
                                    have J := And.intro hHeld (And.intro oz (And.intro hV2 (hgl)))
                                    clear hbk hHeld oy oz hV2 hV hgl
                                    revert J
                                    revert g
                                    revert kx
                                    revert Ax
                                    revert v
                                    exact st110
                                  · skip
                                    rw [if_pos (by rfl)]
                                    refine wp_alloc_drum rfl zero_Drum ?_
                                    have hU := Var.new u (drumV zD) 38
                                    obtain ⟨q, hg⟩ : ∃ g : Nat, g = u.heap.size := ⟨_, rfl⟩
                                    have hql : w1.heap.size ≤ q := by rw [hg]; exact hHeld.size
                                    have hgq : g ≠ q := by have := hV.lt; omega
                                    rw [← hg] at hU ⊢
                                    refine hK.out _ _ (balloc hHeld (.cells (drumV zD) 38)) (fun hHeld => ?_)
                                    clear hK K
                                    try simp only [Act.put, List.setIfInBounds_toArray, List.set_cons_zero, List.set_cons_succ]
                                    obtain ⟨v, hv⟩ : ∃ x, x = u.alloc (.cells (drumV zD) 38) := ⟨_, rfl⟩
                                    have hV2 := hV.old (.cells (drumV zD) 38)
                                    rw [← hv] at hHeld hU hV2 ⊢
                                    clear hv hg
                                    have J := And.intro hHeld (And.intro hV2 (And.intro hgl (And.intro hU (And.intro hql (hgq)))))
                                    clear hHeld hU hql hV2 hgq hV hgl
                                    revert J
                                    revert q
                                    revert g
                                    revert v
                                    exact st011
                              · skip
                                intro u q J
                                obtain ⟨hHeld, hU, hql⟩ := J
                                refine wpAnyH_ready (rs := [1, 11]) (by kernel_rfl) (by simp) ?_
                                refine readyL rfl (fun K hK => ?_) (readyL rfl (fun K hK => ?_) AllReadyH.nil)
                                · skip
                                  go_simp
                                  refine (c_toFrame sf Af kf f _ (hf.below (bstep B1 hHeld)) hLf).mono ?_
                                  rintro e v ⟨Ax, kx, rfl, oy, hbk⟩
                                  go_wp2_with fail
                                  refine hK.out _ _ (bstep hHeld hbk) (fun hHeld => ?_)
                                  clear hK K
                                  try simp only [Act.put, List.setIfInBounds_toArray, List.set_cons_zero, List.set_cons_succ]
                                  have oz := oy.at_
                                  have hU2 := hU.below hbk
                                  have J := And.intro hHeld (And.intro oz (And.intro hU2 (hql)))
                                  clear hbk hHeld oy oz hU2 hU hql
                                  revert J
                                  revert q
                                  revert kx
                                  revert Ax
                                  revert v
                                  exact st101
                                · skip
                                  go_simp
                                  have hV := Var.new u #[.int .i16 0, .slice none 0 0] 37
                                  obtain ⟨g, hg⟩ : ∃ g : Nat, g = u.heap.size := ⟨_, rfl⟩
                                  have hgl : w1.heap.size ≤ g := by rw [hg]; exact hHeld.size
                                  have hgq : g ≠ q := by have := hU.lt; omega
                                  rw [← hg] at hV ⊢
                                  refine hK.out _ _ (balloc hHeld (.cells #[.int .i16 0, .slice none 0 0] 37)) (fun hHeld => ?_)
                                  clear hK K
                                  try simp only [Act.put, List.setIfInBounds_toArray, List.set_cons_zero, List.set_cons_succ]
                                  obtain ⟨v, hv⟩ : ∃ x, x = u.alloc (.cells #[.int .i16 0, .slice none 0 0] 37) := ⟨_, rfl⟩
                                  have hU2 := hU.old (.cells #[.int .i16 0, .slice none 0 0] 37)
                                  rw [← hv] at hHeld hV hU2 ⊢
                                  clear hv hg
                                  have J := And.intro hHeld (And.intro hV (And.intro hgl (And.intro hU2 (And.intro hql (hgq)))))
                                  clear hHeld hV hgl hU2 hgq hU hql
                                  revert J
                                  revert q
                                  revert g
                                  revert v
                                  exact st011
                            · skip
                              intro u Ax kx J
                              obtain ⟨hHeld, ox⟩ := J
                              refine wpAnyH_ready (rs := [6, 11, 12]) (by kernel_rfl) (by simp) ?_
                              refine readyL rfl (fun K hK => ?_) (readyL rfl (fun K hK => ?_) (readyL rfl (fun K hK => ?_) AllReadyH.nil))
                              · skip
                                go_simp
                                refine (hspec Ax kx _ ox).mono ?_
                                rintro e v ⟨Az, cz, rfl, oy, hbk⟩
                                go_wp2_with fail
                                replace oy := oy.base_le hHeld.size
                                refine hK.out _ _ (bstep hHeld hbk) (fun hHeld => ?_)
                                clear hK K
                                try simp only [Act.put, List.setIfInBounds_toArray, List.set_cons_zero, List.set_cons_succ]
                                refine takeL (i := 7) (v := .tuple #[.agg #[.int .i16 SS, .slice Az FF.length cz], .agg (drumV DD), .int .i64 CC]) rfl (by kernel_rfl) (by kernel_rfl) (by kernel_rfl) (fun _ _ _ h => h) (Or.inl ⟨by rfl, by intro w' hS; clear hS; go_simp⟩) hHeld ?_
                                simp only [Act.put, List.setIfInBounds_toArray, List.set_cons_zero, List.set_cons_succ]
                                refine takeL (i := 8) (v := .agg #[.int .i16 SS, .slice Az FF.length cz]) rfl (by kernel_rfl) (by kernel_rfl) (by kernel_rfl) (fun _ _ _ h => h) (Or.inl ⟨by rfl, by intro w' hS; clear hS; go_simp⟩) hHeld ?_
                                simp only [Act.put, List.setIfInBounds_toArray, List.set_cons_zero, List.set_cons_succ]
                                refine takeL (i := 9) (v := .agg (drumV DD)) rfl (by kernel_rfl) (by kernel_rfl) (by kernel_rfl) (fun _ _ _ h => h) (Or.inl ⟨by rfl, by intro w' hS; clear hS; go_simp⟩) hHeld ?_
                                simp only [Act.put, List.setIfInBounds_toArray, List.set_cons_zero, List.set_cons_succ]
                                refine takeL (i := 10) (v := .int .i64 CC) rfl (by kernel_rfl) (by kernel_rfl) (by kernel_rfl) (fun _ _ _ h => h) (Or.inl ⟨by rfl, by intro w' hS; clear hS; go_simp⟩) hHeld ?_
                                simp only [Act.put, List.setIfInBounds_toArray, List.set_cons_zero, List.set_cons_succ]
                                have J := And.intro hHeld (oy)
                                clear hbk hHeld oy ox
                                revert J
                                revert cz
                                revert Az
                                revert kx
                                revert Ax
                                revert v
                                exact st300
                              · skip
                                go_simp
                                have hV := Var.new u #[.int .i16 0, .slice none 0 0] 37
                                obtain ⟨g, hg⟩ : ∃ g : Nat, g = u.heap.size := ⟨_, rfl⟩
                                have hgl : w1.heap.size ≤ g := by rw [hg]; exact hHeld.size
                                rw [← hg] at hV ⊢
                                refine hK.out _ _ (balloc hHeld (.cells #[.int .i16 0, .slice none 0 0] 37)) (fun hHeld => ?_)
                                clear hK K
                                try simp only [Act.put, List.setIfInBounds_toArray, List.set_cons_zero, List.set_cons_succ]
                                obtain ⟨v, hv⟩ : ∃ x, x = u.alloc (.cells #[.int .i16 0, .slice none 0 0] 37) := ⟨_, rfl⟩
                                have oz := ox.alloc (.cells #[.int .i16 0, .slice none 0 0] 37)
                                rw [← hv] at hHeld hV oz ⊢
                                clear hv hg
                                have J := And.intro hHeld (And.intro oz (And.intro hV (hgl)))
                                clear hHeld hV hgl oz ox
                                revert J
                                revert g
                                revert kx
                                revert Ax
                                revert v
                                exact st210
                              · skip
                                rw [if_pos (by rfl)]
                                refine wp_alloc_drum rfl zero_Drum ?_
                                have hU := Var.new u (drumV zD) 38
                                obtain ⟨q, hg⟩ : ∃ g : Nat, g = u.heap.size := ⟨_, rfl⟩
                                have hql : w1.heap.size ≤ q := by rw [hg]; exact hHeld.size
                                rw [← hg] at hU ⊢
                                refine hK.out _ _ (balloc hHeld (.cells (drumV zD) 38)) (fun hHeld => ?_)
                                clear hK K
                                try simp only [Act.put, List.setIfInBounds_toArray, List.set_cons_zero, List.set_cons_succ]
                                obtain ⟨v, hv⟩ : ∃ x, x = u.alloc (.cells (drumV zD) 38) := ⟨_, rfl⟩
                                have oz := ox.alloc (.cells (drumV zD) 38)
                                rw [← hv] at hHeld hU oz ⊢
                                clear hv hg
                                have J := And.intro hHeld (And.intro oz (And.intro hU (hql)))
                                clear hHeld hU hql oz ox
                                revert J
                                revert q
                                revert kx
                                revert Ax
                                revert v
                                exact st201
                          · skip
                            intro u Ax kx g J
                            obtain ⟨hHeld, ox, hV, hgl⟩ := J
                            refine wpAnyH_ready (rs := [3, 12]) (by kernel_rfl) (by simp) ?_
                            refine readyL rfl (fun K hK => ?_) (readyL rfl (fun K hK => ?_) AllReadyH.nil)
                            · skip
                              go_simp
                              refine (c_toDrum d _ hd).mono ?_
                              rintro e v ⟨rfl, hbk⟩
                              go_wp2_with fail
                              refine hK.out _ _ (bstep hHeld hbk) (fun hHeld => ?_)
                              clear hK K
                              try simp only [Act.put, List.setIfInBounds_toArray, List.set_cons_zero, List.set_cons_succ]
                              have oz := ox.below hbk
                              have hV2 := hV.below hbk
                              have J := And.intro hHeld (And.intro oz (And.intro hV2 (hgl)))
                              clear hbk hHeld oz hV2 ox hV hgl
                              revert J
                              revert g
                              revert kx
                              revert Ax
                              revert v
                              exact st210
                            · skip
                              rw [if_pos (by rfl)]
                              refine wp_alloc_drum rfl zero_Drum ?_
                              have hU := Var.new u (drumV zD) 38
                              obtain ⟨q, hg⟩ : ∃ g : Nat, g = u.heap.size := ⟨_, rfl⟩
                              have hql : w1.heap.size ≤ q := by rw [hg]; exact hHeld.size
                              have hgq : g ≠ q := by have := hV.lt; omega
                              rw [← hg] at hU ⊢
                              refine hK.out _ _ (balloc hHeld (.cells (drumV zD) 38)) (fun hHeld => ?_)
                              clear hK K
                              try simp only [Act.put, List.setIfInBounds_toArray, List.set_cons_zero, List.set_cons_succ]
                              obtain ⟨v, hv⟩ : ∃ x, x = u.alloc (.cells (drumV zD) 38) := ⟨_, rfl⟩
                              have oz := ox.alloc (.cells (drumV zD) 38)
                              have hV2 := hV.old (.cells (drumV zD) 38)
                              rw [← hv] at hHeld hU oz hV2 ⊢
                              clear hv hg
                              have J := And.intro hHeld (And.intro oz (And.intro hV2 (And.intro hgl (And.intro hU (And.intro hql (hgq))))))
                              clear hHeld hU hql oz hV2 hgq ox hV hgl
                              revert J
                              revert q
                              revert g
                              revert kx
                              revert Ax
                              revert v
                              exact st111
                        · skip
                          intro u Ax kx q J
                          obtain ⟨hHeld, ox, hU, hql⟩ := J
                          refine wpAnyH_ready (rs := [3, 11]) (by kernel_rfl) (by simp) ?_
                          refine readyL rfl (fun K hK => ?_) (readyL rfl (fun K hK => ?_) AllReadyH.nil)
                          · skip
                            go_simp
                            refine (c_toDrum d _ hd).mono ?_
                            rintro e v ⟨rfl, hbk⟩
                            go_wp2_with fail
                            refine hK.out _ _ (bstep hHeld hbk) (fun hHeld => ?_)
                            clear hK K
                            try simp only [Act.put, List.setIfInBounds_toArray, List.set_cons_zero, List.set_cons_succ]
                            have oz := ox.below hbk
                            have hU2 := hU.below hbk
                            have J := And.intro hHeld (And.intro oz (And.intro hU2 (hql)))
                            clear hbk hHeld oz hU2 ox hU hql
                            revert J
                            revert q
                            revert kx
                            revert Ax
                            revert v
                            exact st201
                          · skip
                            go_simp
                            have hV := Var.new u #[.int .i16 0, .slice none 0 0] 37
                            obtain ⟨g, hg⟩ : ∃ g : Nat, g = u.heap.size := ⟨_, rfl⟩
                            have hgl : w1.heap.size ≤ g := by rw [hg]; exact hHeld.size
                            have hgq : g ≠ q := by have := hU.lt; omega
                            rw [← hg] at hV ⊢
                            refine hK.out _ _ (balloc hHeld (.cells #[.int .i16 0, .slice none 0 0] 37)) (fun hHeld => ?_)
                            clear hK K
                            try simp only [Act.put, List.setIfInBounds_toArray, List.set_cons_zero, List.set_cons_succ]
                            obtain ⟨v, hv⟩ : ∃ x, x = u.alloc (.cells #[.int .i16 0, .slice none 0 0] 37) := ⟨_, rfl⟩
                            have oz := ox.alloc (.cells #[.int .i16 0, .slice none 0 0] 37)
                            have hU2 := hU.old (.cells #[.int .i16 0, .slice none 0 0] 37)
                            rw [← hv] at hHeld hV oz hU2 ⊢
                            clear hv hg
                            have J := And.intro hHeld (And.intro oz (And.intro hV (And.intro hgl (And.intro hU2 (And.intro hql (hgq))))))
                            clear hHeld hV hgl oz hU2 hgq ox hU hql
                            revert J
                            revert q
                            revert g
                            revert kx
                            revert Ax
                            revert v
                            exact st111
                      · skip
                        intro u g q J
                        obtain ⟨hHeld, hV, hgl, hU, hql, hgq⟩ := J
                        refine wpAnyH_ready (rs := [1]) (by kernel_rfl) (by simp) ?_
                        refine readyL rfl (fun K hK => ?_) AllReadyH.nil
                        · skip
                          go_simp
                          refine (c_toFrame sf Af kf f _ (hf.below (bstep B1 hHeld)) hLf).mono ?_
                          rintro e v ⟨Ax, kx, rfl, oy, hbk⟩
                          go_wp2_with fail
                          refine hK.out _ _ (bstep hHeld hbk) (fun hHeld => ?_)
                          clear hK K
                          try simp only [Act.put, List.setIfInBounds_toArray, List.set_cons_zero, List.set_cons_succ]
                          have oz := oy.at_
                          have hV2 := hV.below hbk
                          have hU2 := hU.below hbk
                          have J := And.intro hHeld (And.intro oz (And.intro hV2 (And.intro hgl (And.intro hU2 (And.intro hql (hgq))))))
                          clear hbk hHeld oy oz hV2 hU2 hV hgl hU hql hgq
                          revert J
                          revert q
                          revert g
                          revert kx
                          revert Ax
                          revert v
                          exact st111
                    · skip
                      intro u Ax kx Az cz J
                      obtain ⟨hHeld, ox⟩ := J
                      refine wpAnyH_ready (rs := [11, 12]) (by kernel_rfl) (by simp) ?_
                      refine readyL rfl (fun K hK => ?_) (readyL rfl (fun K hK => ?_) AllReadyH.nil)
                      · skip
                        go_simp
                        have hV := Var.new u #[.int .i16 0, .slice none 0 0] 37
                        obtain ⟨g, hg⟩ : ∃ g : Nat, g = u.heap.size := ⟨_, rfl⟩
                        have hgl : w1.heap.size ≤ g := by rw [hg]; exact hHeld.size
                        rw [← hg] at hV ⊢
                        refine hK.out _ _ (balloc hHeld (.cells #[.int .i16 0, .slice none 0 0] 37)) (fun hHeld => ?_)
                        clear hK K
                        try simp only [Act.put, List.setIfInBounds_toArray, List.set_cons_zero, List.set_cons_succ]
                        obtain ⟨v, hv⟩ : ∃ x, x = u.alloc (.cells #[.int .i16 0, .slice none 0 0] 37) := ⟨_, rfl⟩
                        have oz := ox.alloc (.cells #[.int .i16 0, .slice none 0 0] 37)
                        rw [← hv] at hHeld hV oz ⊢
                        clear hv hg
                        have J := And.intro hHeld (And.intro oz (And.intro hV (hgl)))
                        clear hHeld hV hgl oz ox
                        revert J
                        revert g
                        revert cz
                        revert Az
                        revert kx
                        revert Ax
                        revert v
                        exact st310
                      · skip
                        rw [if_pos (by rfl)]
                        refine wp_alloc_drum rfl zero_Drum ?_
                        have hU := Var.new u (drumV zD) 38
                        obtain ⟨q, hg⟩ : ∃ g : Nat, g = u.heap.size := ⟨_, rfl⟩
                        have hql : w1.heap.size ≤ q := by rw [hg]; exact hHeld.size
                        rw [← hg] at hU ⊢
                        refine hK.out _ _ (balloc hHeld (.cells (drumV zD) 38)) (fun hHeld => ?_)
                        clear hK K
                        try simp only [Act.put, List.setIfInBounds_toArray, List.set_cons_zero, List.set_cons_succ]
                        obtain ⟨v, hv⟩ : ∃ x, x = u.alloc (.cells (drumV zD) 38) := ⟨_, rfl⟩
                        have oz := ox.alloc (.cells (drumV zD) 38)
                        rw [← hv] at hHeld hU oz ⊢
                        clear hv hg
                        have J := And.intro hHeld (And.intro oz (And.intro hU (hql)))
                        clear hHeld hU hql oz ox
                        revert J
                        revert q
                        revert cz
                        revert Az
                        revert kx
                        revert Ax
                        revert v
                        exact st301
                  · skip
                    intro u Ax kx g J
                    obtain ⟨hHeld, ox, hV, hgl⟩ := J
                    refine wpAnyH_ready (rs := [6, 12]) (by kernel_rfl) (by simp) ?_
                    refine readyL rfl (fun K hK => ?_) (readyL rfl (fun K hK => ?_) AllReadyH.nil)
                    · skip
                      go_simp
                      refine (hspec Ax kx _ ox).mono ?_
                      rintro e v ⟨Az, cz, rfl, oy, hbk⟩
                      go_wp2_with fail
                      replace oy := oy.base_le hHeld.size
                      refine hK.out _ _ (bstep hHeld hbk) (fun hHeld => ?_)
                      clear hK K
                      try simp only [Act.put, List.setIfInBounds_toArray, List.set_cons_zero, List.set_cons_succ]
                      have hV2 := hV.below hbk
                      refine takeL (i := 7) (v := .tuple #[.agg #[.int .i16 SS, .slice Az FF.length cz], .agg (drumV DD), .int .i64 CC]) rfl (by kernel_rfl) (by kernel_rfl) (by kernel_rfl) (fun _ _ _ h => h) (Or.inl ⟨by rfl, by intro w' hS; clear hS; go_simp⟩) hHeld ?_
                      simp only [Act.put, List.setIfInBounds_toArray, List.set_cons_zero, List.set_cons_succ]
                      refine takeL (i := 8) (v := .agg #[.int .i16 SS, .slice Az FF.length cz]) rfl (by kernel_rfl) (by kernel_rfl) (by kernel_rfl) (fun _ _ _ h => h) (Or.inl ⟨by rfl, by intro w' hS; clear hS; go_simp⟩) hHeld ?_
                      simp only [Act.put, List.setIfInBounds_toArray, List.set_cons_zero, List.set_cons_succ]
                      refine takeL (i := 9) (v := .agg (drumV DD)) rfl (by kernel_rfl) (by kernel_rfl) (by kernel_rfl) (fun _ _ _ h => h) (Or.inl ⟨by rfl, by intro w' hS; clear hS; go_simp⟩) hHeld ?_
                      simp only [Act.put, List.setIfInBounds_toArray, List.set_cons_zero, List.set_cons_succ]
                      refine takeL (i := 10) (v := .int .i64 CC) rfl (by kernel_rfl) (by kernel_rfl) (by kernel_rfl) (fun _ _ _ h => h) (Or.inl ⟨by rfl, by intro w' hS; clear hS; go_simp⟩) hHeld ?_
                      simp only [Act.put, List.setIfInBounds_toArray, List.set_cons_zero, List.set_cons_succ]
                      have J := And.intro hHeld (And.intro oy (And.intro hV2 (hgl)))
                      clear hbk hHeld oy hV2 ox hV hgl
                      revert J
                      revert g
                      revert cz
                      revert Az
                      revert kx
                      revert Ax
                      revert v
                      exact st310
                    · skip
                      rw [if_pos (by rfl)]
                      refine wp_alloc_drum rfl zero_Drum ?_
                      have hU := Var.new u (drumV zD) 38
                      obtain ⟨q, hg⟩ : ∃ g : Nat, g = u.heap.size := ⟨_, rfl⟩
                      have hql : w1.heap.size ≤ q := by rw [hg]; exact hHeld.size
                      have hgq : g ≠ q := by have := hV.lt; omega
                      rw [← hg] at hU ⊢
                      refine hK.out _ _ (balloc hHeld (.cells (drumV zD) 38)) (fun hHeld => ?_)
                      clear hK K
                      try simp only [Act.put, List.setIfInBounds_toArray, List.set_cons_zero, List.set_cons_succ]
                      obtain ⟨v, hv⟩ : ∃ x, x = u.alloc (.cells (drumV zD) 38) := ⟨_, rfl⟩
                      have oz := ox.alloc (.cells (drumV zD) 38)
                      have hV2 := hV.old (.cells (drumV zD) 38)
                      rw [← hv] at hHeld hU oz hV2 ⊢
                      clear hv hg
                      have J := And.intro hHeld (And.intro oz (And.intro hV2 (And.intro hgl (And.intro hU (And.intro hql (hgq))))))
                      clear hHeld hU hql oz hV2 hgq ox hV hgl
                      revert J
                      revert q
                      revert g
                      revert kx
                      revert Ax
                      revert v
                      exact st211
                · skip
                  intro u Ax kx q J
                  obtain ⟨hHeld, ox, hU, hql⟩ := J
                  refine wpAnyH_ready (rs := [6, 11]) (by kernel_rfl) (by simp) ?_
                  refine readyL rfl (fun K hK => ?_) (readyL rfl (fun K hK => ?_) AllReadyH.nil)
                  · skip
                    go_simp
                    refine (hspec Ax kx _ ox).mono ?_
                    rintro e v ⟨Az, cz, rfl, oy, hbk⟩
                    go_wp2_with fail
                    replace oy := oy.base_le hHeld.size
                    refine hK.out _ _ (bstep hHeld hbk) (fun hHeld => ?_)
                    clear hK K
                    try simp only [Act.put, List.setIfInBounds_toArray, List.set_cons_zero, List.set_cons_succ]
                    have hU2 := hU.below hbk
                    refine takeL (i := 7) (v := .tuple #[.agg #[.int .i16 SS, .slice Az FF.length cz], .agg (drumV DD), .int .i64 CC]) rfl (by kernel_rfl) (by kernel_rfl) (by kernel_rfl) (fun _ _ _ h => h) (Or.inl ⟨by rfl, by intro w' hS; clear hS; go_simp⟩) hHeld ?_
                    simp only [Act.put, List.setIfInBounds_toArray, List.set_cons_zero, List.set_cons_succ]
                    refine takeL (i := 8) (v := .agg #[.int .i16 SS, .slice Az FF.length cz]) rfl (by kernel_rfl) (by kernel_rfl) (by kernel_rfl) (fun _ _ _ h => h) (Or.inl ⟨by rfl, by intro w' hS; clear hS; go_simp⟩) hHeld ?_
                    simp only [Act.put, List.setIfInBounds_toArray, List.set_cons_zero, List.set_cons_succ]
                    refine takeL (i := 9) (v := .agg (drumV DD)) rfl (by kernel_rfl) (by kernel_rfl) (by kernel_rfl) (fun _ _ _ h => h) (Or.inl ⟨by rfl, by intro w' hS; clear hS; go_simp⟩) hHeld ?_
                    simp only [Act.put, List.setIfInBounds_toArray, List.set_cons_zero, List.set_cons_succ]
                    refine takeL (i := 10) (v := .int .i64 CC) rfl (by kernel_rfl) (by kernel_rfl) (by kernel_rfl) (fun _ _ _ h => h) (Or.inl ⟨by rfl, by intro w' hS; clear hS; go_simp⟩) hHeld ?_
                    simp only [Act.put, List.setIfInBounds_toArray, List.set_cons_zero, List.set_cons_succ]
                    have J := And.intro hHeld (And.intro oy (And.intro hU2 (hql)))
                    clear hbk hHeld oy hU2 ox hU hql
                    revert J
                    revert q
                    revert cz
                    revert Az
                    revert kx
                    revert Ax
                    revert v
                    exact st301
                  · skip
                    go_simp
                    have hV := Var.new u #[.int .i16 0, .slice none 0 0] 37
                    obtain ⟨g, hg⟩ : ∃ g : Nat, g = u.heap.size := ⟨_, rfl⟩
                    have hgl : w1.heap.size ≤ g := by rw [hg]; exact hHeld.size
                    have hgq : g ≠ q := by have := hU.lt; omega
                    rw [← hg] at hV ⊢
                    refine hK.out _ _ (balloc hHeld (.cells #[.int .i16 0, .slice none 0 0] 37)) (fun hHeld => ?_)
                    clear hK K
                    try simp only [Act.put, List.setIfInBounds_toArray, List.set_cons_zero, List.set_cons_succ]
                    obtain ⟨v, hv⟩ : ∃ x, x = u.alloc (.cells #[.int .i16 0, .slice none 0 0] 37) := ⟨_, rfl⟩
                    have oz := ox.alloc (.cells #[.int .i16 0, .slice none 0 0] 37)
                    have hU2 := hU.old (.cells #[.int .i16 0, .slice none 0 0] 37)
                    rw [← hv] at hHeld hV oz hU2 ⊢
                    clear hv hg
                    have J := And.intro hHeld (And.intro oz (And.intro hV (And.intro hgl (And.intro hU2 (And.intro hql (hgq))))))
                    clear hHeld hV hgl oz hU2 hgq ox hU hql
                    revert J
                    revert q
                    revert g
                    revert kx
                    revert Ax
                    revert v
                    exact st211
              · skip
                intro u Ax kx g q J
                obtain ⟨hHeld, ox, hV, hgl, hU, hql, hgq⟩ := J
                refine wpAnyH_ready (rs := [3]) (by kernel_rfl) (by simp) ?_
                refine readyL rfl (fun K hK => ?_) AllReadyH.nil
                · skip
                  go_simp
                  refine (c_toDrum d _ hd).mono ?_
                  rintro e v ⟨rfl, hbk⟩
                  go_wp2_with fail
                  refine hK.out _ _ (bstep hHeld hbk) (fun hHeld => ?_)
                  clear hK K
                  try simp only [Act.put, List.setIfInBounds_toArray, List.set_cons_zero, List.set_cons_succ]
                  have oz := ox.below hbk
                  have hV2 := hV.below hbk
                  have hU2 := hU.below hbk
                  have J := And.intro hHeld (And.intro oz (And.intro hV2 (And.intro hgl (And.intro hU2 (And.intro hql (hgq))))))
                  clear hbk hHeld oz hV2 hU2 ox hV hgl hU hql hgq
                  revert J
                  revert q
                  revert g
                  revert kx
                  revert Ax
                  revert v
                  exact st211
            · skip
              intro u Ax kx Az cz g J
              obtain ⟨hHeld, ox, hV, hgl⟩ := J
              refine wpAnyH_ready (rs := [12]) (by kernel_rfl) (by simp) ?_
              refine readyL rfl (fun K hK => ?_) AllReadyH.nil
              · skip
                rw [if_pos (by rfl)]
                refine wp_alloc_drum rfl zero_Drum ?_
                have hU := Var.new u (drumV zD) 38
                obtain ⟨q, hg⟩ : ∃ g : Nat, g = u.heap.size := ⟨_, rfl⟩
                have hql : w1.heap.size ≤ q := by rw [hg]; exact hHeld.size
                have hgq : g ≠ q := by have := hV.lt; omega
                rw [← hg] at hU ⊢
                refine hK.out _ _ (balloc hHeld (.cells (drumV zD) 38)) (fun hHeld => ?_)
                clear hK K
                try simp only [Act.put, List.setIfInBounds_toArray, List.set_cons_zero, List.set_cons_succ]
                obtain ⟨v, hv⟩ : ∃ x, x = u.alloc (.cells (drumV zD) 38) := ⟨_, rfl⟩
                have oz := ox.alloc (.cells (drumV zD) 38)
                have hV2 := hV.old (.cells (drumV zD) 38)
                rw [← hv] at hHeld hU oz hV2 ⊢
                clear hv hg
                have J := And.intro hHeld (And.intro oz (And.intro hV2 (And.intro hgl (And.intro hU (And.intro hql (hgq))))))
                clear hHeld hU hql oz hV2 hgq ox hV hgl
                revert J
                revert q
                revert g
                revert cz
                revert Az
                revert kx
                revert Ax
                revert v
                exact st311
          · skip
            intro u Ax kx Az cz q J
            obtain ⟨hHeld, ox, hU, hql⟩ := J
            refine wpAnyH_ready (rs := [11]) (by kernel_rfl) (by simp) ?_
            refine readyL rfl (fun K hK => ?_) AllReadyH.nil
            · skip
              go_simp
              have hV := Var.new u #[.int .i16 0, .slice none 0 0] 37
              obtain ⟨g, hg⟩ : ∃ g : Nat, g = u.heap.size := ⟨_, rfl⟩
              have hgl : w1.heap.size ≤ g := by rw [hg]; exact hHeld.size
              have hgq : g ≠ q := by have := hU.lt; omega
              rw [← hg] at hV ⊢
              refine hK.out _ _ (balloc hHeld (.cells #[.int .i16 0, .slice none 0 0] 37)) (fun hHeld => ?_)
              clear hK K
              try simp only [Act.put, List.setIfInBounds_toArray, List.set_cons_zero, List.set_cons_succ]
              obtain ⟨v, hv⟩ : ∃ x, x = u.alloc (.cells #[.int .i16 0, .slice none 0 0] 37) := ⟨_, rfl⟩
              have oz := ox.alloc (.cells #[.int .i16 0, .slice none 0 0] 37)
              have hU2 := hU.old (.cells #[.int .i16 0, .slice none 0 0] 37)
              rw [← hv] at hHeld hV oz hU2 ⊢
              clear hv hg
              have J := And.intro hHeld (And.intro oz (And.intro hV (And.intro hgl (And.intro hU2 (And.intro hql (hgq))))))
              clear hHeld hV hgl oz hU2 hgq ox hU hql
              revert J
              revert q
              revert g
              revert cz
              revert Az
              revert kx
              revert Ax
              revert v
              exact st311
        · skip
          intro u Ax kx g q J
          obtain ⟨hHeld, ox, hV, hgl, hU, hql, hgq⟩ := J
          refine wpAnyH_ready (rs := [6]) (by kernel_rfl) (by simp) ?_
          refine readyL rfl (fun K hK => ?_) AllReadyH.nil
          · skip
            go_simp
            refine (hspec Ax kx _ ox).mono ?_
            rintro e v ⟨Az, cz, rfl, oy, hbk⟩
            go_wp2_with fail
            replace oy := oy.base_le hHeld.size
            refine hK.out _ _ (bstep hHeld hbk) (fun hHeld => ?_)
            clear hK K
            try simp only [Act.put, List.setIfInBounds_toArray, List.set_cons_zero, List.set_cons_succ]
            have hV2 := hV.below hbk
            have hU2 := hU.below hbk
            refine takeL (i := 7) (v := .tuple #[.agg #[.int .i16 SS, .slice Az FF.length cz], .agg (drumV DD), .int .i64 CC]) rfl (by kernel_rfl) (by kernel_rfl) (by kernel_rfl) (fun _ _ _ h => h) (Or.inl ⟨by rfl, by intro w' hS; clear hS; go_simp⟩) hHeld ?_
            simp only [Act.put, List.setIfInBounds_toArray, List.set_cons_zero, List.set_cons_succ]
            refine takeL (i := 8) (v := .agg #[.int .i16 SS, .slice Az FF.length cz]) rfl (by kernel_rfl) (by kernel_rfl) (by kernel_rfl) (fun _ _ _ h => h) (Or.inl ⟨by rfl, by intro w' hS; clear hS; go_simp⟩) hHeld ?_
            simp only [Act.put, List.setIfInBounds_toArray, List.set_cons_zero, List.set_cons_succ]
            refine takeL (i := 9) (v := .agg (drumV DD)) rfl (by kernel_rfl) (by kernel_rfl) (by kernel_rfl) (fun _ _ _ h => h) (Or.inl ⟨by rfl, by intro w' hS; clear hS; go_simp⟩) hHeld ?_
            simp only [Act.put, List.setIfInBounds_toArray, List.set_cons_zero, List.set_cons_succ]
            refine takeL (i := 10) (v := .int .i64 CC) rfl (by kernel_rfl) (by kernel_rfl) (by kernel_rfl) (fun _ _ _ h => h) (Or.inl ⟨by rfl, by intro w' hS; clear hS; go_simp⟩) hHeld ?_
            simp only [Act.put, List.setIfInBounds_toArray, List.set_cons_zero, List.set_cons_succ]
            have J := And.intro hHeld (And.intro oy (And.intro hV2 (And.intro hgl (And.intro hU2 (And.intro hql (hgq))))))
            clear hbk hHeld oy hV2 hU2 ox hV hgl hU hql hgq
            revert J
            revert q
            revert g
            revert cz
            revert Az
            revert kx
            revert Ax
            revert v
            exact st311
      · skip
        intro u Ax kx Az cz g q J
        obtain ⟨hHeld, ox, hV, hgl, hU, hql, hgq⟩ := J
        refine wpAnyH_ready (rs := [13]) (by kernel_rfl) (by simp) ?_
        refine readyL rfl (fun K hK => ?_) AllReadyH.nil
        have z1 := hV.cell (i := 0) rfl
        have z2 := hV.cell (i := 1) rfl
        have z3 := hV.frozen 0
        have z4 := hV.frozen 1
        go_simp
        refine hK.out _ _ (bset (bset hHeld (by simp <;> omega) _) (by simp <;> omega) _) (fun hHeld => ?_)
        clear hK K
        try simp only [Act.put, List.setIfInBounds_toArray, List.set_cons_zero, List.set_cons_succ]
        clear z1 z2 z3 z4
        have hV2 := (hV.set 0 (.int .i16 SS)).set 1 (.slice Az FF.length cz)
        have hU2 := (hU.other (p := ⟨g, 0, none⟩) (by simpa using hgq.symm) (.int .i16 SS)).other (p := ⟨g, 1, none⟩) (by simpa using hgq.symm) (.slice Az FF.length cz)
        have oy := (ox.beside hV (by decide) 0 (.int .i16 SS)).beside (hV.set 0 (.int .i16 SS)) (by decide) 1 (.slice Az FF.length cz)
        refine wpAnyH_ready (rs := [14]) (by kernel_rfl) (by simp) ?_
        refine readyL rfl (fun K hK => ?_) AllReadyH.nil
        rw [if_pos (by rfl)]
        refine wp_storeD rfl hU2 rfl rfl size_Drum hDl zD_len ?_
        have oz := oy.rowBeside hU2 (by decide) (drumV DD)
        have hV3 := hV2.rowOther (drumV DD) hgq
        have hU3 := hU2.row (drumV DD)
        refine hK.out _ _ (brow hHeld hql _) (fun hHeld => ?_)
        clear hK K
        try simp only [Act.put, List.setIfInBounds_toArray, List.set_cons_zero, List.set_cons_succ]
        refine wpAnyH_ready (rs := [15]) (by kernel_rfl) (by simp) ?_
        refine readyL rfl (fun K hK => ?_) AllReadyH.nil
        go_simp
        refine hK.out _ _ (hHeld) (fun hHeld => ?_)
        clear hK K
        try simp only [Act.put, List.setIfInBounds_toArray, List.set_cons_zero, List.set_cons_succ]
        refine wpAnyH_done (by kernel_rfl) ?_ _
        have HH := Lib.hid (And.intro oz (And.intro hV3 (And.intro hU3 hHeld)))
        clear oz hV3 hU3 hHeld hV2 hU2 oy hV hU ox
        go_wp2_with fail
        go_meet
        case rel => exact ⟨g, q, Az, cz, rfl, rfl, rfl, HH.out.2.1, HH.out.2.2.1, HH.out.1, hgl, hql, HH.out.2.2.2⟩
    obtain ⟨gZ, qZ, A3, c3, rfl, rfl, rfl, hV, hU, ho, hglZ, hqlZ, b3⟩ := hcut
    obtain ⟨w3, rfl⟩ : ∃ x, x = wc := ⟨_, rfl⟩
    have Z3 := Lib.hid hV
    have ZD3 := Lib.hid hU
    have OZ3 := Lib.hid ho
    clear hV hU ho
    have H3 := Lib.hid (H1.out.below b3)
    have D3 := Lib.hid (D1.out.below b3)
    have B3 := bstep B1 b3
    clear H1 D1
    clear b3
    have c1 := H3.out.cell (i := 0) rfl
    have c2 := H3.out.cell (i := 1) rfl
    go_wp2_with fail
    refine (c_toFrame sf Af kf f _ (hf.below B3) hLf).mono ?_
    rintro e w4 ⟨A4, k4, rfl, o4, b4⟩
    clear c1 c2
    have hOZ := OZ3.out
    have hNZ : ∀ j, (Value.slice A4 f.length k4).ownBlock = some j → (Value.slice A3 FF.length c3).ownBlock ≠ some j := fun j hj hj2 => by have := hOZ.high (k := j) hj2; have := o4.low hj; omega
    have NZ := Lib.hid hNZ
    clear hOZ hNZ
    have LG := Lib.hid (show ∀ j, (Value.slice A4 f.length k4).ownBlock = some j → w.heap.size ≤ j from fun j hj => Nat.le_trans B3.size (o4.low hj))
    have OG4 := Lib.hid o4
    clear o4
    have B4 := bstep B3 b4
    have H4 := Lib.hid (H3.out.below b4)
    have D4 := Lib.hid (D3.out.below b4)
    have Z4 := Lib.hid (Z3.out.below b4)
    have ZD4 := Lib.hid (ZD3.out.below b4)
    have OZ4 := Lib.hid (OZ3.out.below b4)
    clear H3 D3 Z3 ZD3 OZ3 b4
    have v2 : Var (w4.alloc (.cells #[.int .i16 sf, .slice A4 f.length k4] 37)) w4.heap.size #[.int .i16 sf, .slice A4 f.length k4] 37 := Var.new _ _ _
    have Ga := Lib.hid v2
    clear v2
    have Ha := Lib.hid (H4.out.old (.cells #[.int .i16 sf, .slice A4 f.length k4] 37))
    have Da := Lib.hid (D4.out.old (.cells #[.int .i16 sf, .slice A4 f.length k4] 37))
    have Za := Lib.hid (Z4.out.old (.cells #[.int .i16 sf, .slice A4 f.length k4] 37))
    have ZDa := Lib.hid (ZD4.out.old (.cells #[.int .i16 sf, .slice A4 f.length k4] 37))
    have OZa := Lib.hid (OZ4.out.alloc (.cells #[.int .i16 sf, .slice A4 f.length k4] 37))
    have OGa := Lib.hid (OG4.out.alloc (.cells #[.int .i16 sf, .slice A4 f.length k4] 37))
    have Ba := balloc B4 (.cells #[.int .i16 sf, .slice A4 f.length k4] 37)
    clear H4 D4 Z4 ZD4 OZ4 OG4
    go_upto_region 7 with fail
    obtain ⟨wf, hwf2⟩ : ∃ u, u = w4.alloc (.cells #[.int .i16 sf, .slice A4 f.length k4] 37) := ⟨_, rfl⟩
    obtain ⟨g13, hg13⟩ : ∃ n, n = w4.heap.size := ⟨_, rfl⟩
    rw [← hwf2, ← hg13] at Ga
    rw [← hwf2] at Ha Da Za ZDa OZa OGa Ba
    rw [← hwf2, ← hg13]
    clear hwf2 hg13
    have hOGa := OGa.out
    go_cut [14, 15, 16] from 23 (fun s t c w' => ∃ g q Az cz, s = .pointer (some ⟨g, 0, none⟩) ∧ t = .pointer (some ⟨q, 0, none⟩) ∧ c = .int .i64 CC ∧ Var w' g #[.int .i16 SS, .slice Az FF.length cz] 37 ∧ Var w' q (drumV DD) 38 ∧ Own2 .i8 .i8 71 w' wf.heap.size (.slice Az FF.length cz) FF ∧ wf.heap.size ≤ g ∧ wf.heap.size ≤ q ∧ Below wf.heap.size wf w')
    case first => as_aux_lemma =>
      refine wp_region_held_drew (S := (Below wf.heap.size wf)) (by kernel_rfl) (bdrew (Below.refl _ _)) (fun hHeld => ?_)
      refine takeL (i := 0) (v := .agg #[.int .i16 sf, .slice A4 f.length k4]) rfl (by kernel_rfl) (by kernel_rfl) (by kernel_rfl) (fun _ _ _ h => h) (Or.inl ⟨by rfl, by intro w' hS; have y1 := (Ga.out.below hS).cell (i := 0) rfl; have y2 := (Ga.out.below hS).cell (i := 1) rfl; clear hS; go_simp⟩) hHeld ?_
      simp only [Act.put, List.setIfInBounds_toArray, List.set_cons_zero, List.set_cons_succ]
      refine takeL (i := 1) (v := .agg (drumV d)) rfl (by kernel_rfl) (by kernel_rfl) (by kernel_rfl) (fun _ _ _ h => h) (by simpa using yieldsIf_load_mid (S := (Below wf.heap.size wf)) (by rfl) _ _ rfl _ _ rfl (drumV d).toList _ (fun w' hS => (Da.out.below hS).range) hud rfl hlnd) hHeld ?_
      simp only [Act.put, List.setIfInBounds_toArray, List.set_cons_zero, List.set_cons_succ]
      refine takeL (i := 3) (v := .int .i64 p) rfl (by kernel_rfl) (by kernel_rfl) (by kernel_rfl) (fun _ _ _ h => h) (Or.inl ⟨by rfl, by intro w' hS; clear hS; go_simp⟩) hHeld ?_
      simp only [Act.put, List.setIfInBounds_toArray, List.set_cons_zero, List.set_cons_succ]
      refine takeL (i := 4) (v := .int .i64 q) rfl (by kernel_rfl) (by kernel_rfl) (by kernel_rfl) (fun _ _ _ h => h) (Or.inl ⟨by rfl, by intro w' hS; clear hS; go_simp⟩) hHeld ?_
      simp only [Act.put, List.setIfInBounds_toArray, List.set_cons_zero, List.set_cons_succ]
      obtain ⟨v, hv⟩ : ∃ x, wf.drew = x := ⟨_, rfl⟩
      rw [hv] at hHeld ⊢
      clear hv
      revert hHeld
      revert v
      apply share
      · intro st211
        apply share
        · intro st111
          apply share
          · intro st201
            apply share
            · intro st210
              apply share
              · intro st011
                apply share
                · intro st101
                  apply share
                  · intro st110
                    apply share
                    · intro st200
                      apply share
                      · intro st001
                        apply share
                        · intro st010
                          apply share
                          · intro st100
                            intro u J
                            have hHeld := J; clear J
                            refine wpAnyH_ready (rs := [2, 10, 11]) (by kernel_rfl) (by simp) ?_
                            refine readyL rfl (fun K hK => ?_) (readyL rfl (fun K hK => ?_) (readyL rfl (fun K hK => ?_) AllReadyH.nil))
                            · skip
                              go_simp
                              refine (c_toDrum d _ hd).mono ?_
                              rintro e v ⟨rfl, hbk⟩
                              go_wp2_with fail
                              refine hK.out _ _ (bstep hHeld hbk) (fun hHeld => ?_)
                              clear hK K
                              try simp only [Act.put, List.setIfInBounds_toArray, List.set_cons_zero, List.set_cons_succ]
                              have J := hHeld
                              clear hbk hHeld
                              revert J
                              revert v
                              exact st100
                            · skip
                              go_simp
                              have hV := Var.new u #[.int .i16 0, .slice none 0 0] 37
                              obtain ⟨g, hg⟩ : ∃ g : Nat, g = u.heap.size := ⟨_, rfl⟩
                              have hgl : wf.heap.size ≤ g := by rw [hg]; exact hHeld.size
                              rw [← hg] at hV ⊢
                              refine hK.out _ _ (balloc hHeld (.cells #[.int .i16 0, .slice none 0 0] 37)) (fun hHeld => ?_)
                              clear hK K
                              try simp only [Act.put, List.setIfInBounds_toArray, List.set_cons_zero, List.set_cons_succ]
                              obtain ⟨v, hv⟩ : ∃ x, x = u.alloc (.cells #[.int .i16 0, .slice none 0 0] 37) := ⟨_, rfl⟩
                              rw [← hv] at hHeld hV ⊢
                              clear hv hg
                              have J := And.intro hHeld (And.intro hV (hgl))
                              clear hHeld hV hgl
                              revert J
                              revert g
                              revert v
                              exact st010
                            · skip
                              rw [if_pos (by rfl)]
                              refine wp_alloc_drum rfl zero_Drum ?_
                              have hU := Var.new u (drumV zD) 38
                              obtain ⟨q, hg⟩ : ∃ g : Nat, g = u.heap.size := ⟨_, rfl⟩
                              have hql : wf.heap.size ≤ q := by rw [hg]; exact hHeld.size
                              rw [← hg] at hU ⊢
                              refine hK.out _ _ (balloc hHeld (.cells (drumV zD) 38)) (fun hHeld => ?_)
                              clear hK K
                              try simp only [Act.put, List.setIfInBounds_toArray, List.set_cons_zero, List.set_cons_succ]
                              obtain ⟨v, hv⟩ : ∃ x, x = u.alloc (.cells (drumV zD) 38) := ⟨_, rfl⟩
                              rw [← hv] at hHeld hU ⊢
                              clear hv hg
                              have J := And.intro hHeld (And.intro hU (hql))
                              clear hHeld hU hql
                              revert J
                              revert q
                              revert v
                              exact st001
                          · skip
                            intro u J
                            have hHeld := J; clear J
                            refine wpAnyH_ready (rs := [5, 10, 11]) (by kernel_rfl) (by simp) ?_
                            refine readyL rfl (fun K hK => ?_) (readyL rfl (fun K hK => ?_) (readyL rfl (fun K hK => ?_) AllReadyH.nil))
                            · skip
                              go_simp
                              refine (himpl A4 k4 _ (hOGa.at_.below hHeld)).mono ?_
                              rintro e v ⟨Az, cz, rfl, oy, hbk⟩
                              go_wp2_with fail
                              replace oy := oy.base_le hHeld.size
                              refine hK.out _ _ (bstep hHeld hbk) (fun hHeld => ?_)
                              clear hK K
                              try simp only [Act.put, List.setIfInBounds_toArray, List.set_cons_zero, List.set_cons_succ]
                              refine takeL (i := 6) (v := .tuple #[.agg #[.int .i16 SS, .slice Az FF.length cz], .agg (drumV DD), .int .i64 CC]) rfl (by kernel_rfl) (by kernel_rfl) (by kernel_rfl) (fun _ _ _ h => h) (Or.inl ⟨by rfl, by intro w' hS; clear hS; go_simp⟩) hHeld ?_
                              simp only [Act.put, List.setIfInBounds_toArray, List.set_cons_zero, List.set_cons_succ]
                              refine takeL (i := 7) (v := .agg #[.int .i16 SS, .slice Az FF.length cz]) rfl (by kernel_rfl) (by kernel_rfl) (by kernel_rfl) (fun _ _ _ h => h) (Or.inl ⟨by rfl, by intro w' hS; clear hS; go_simp⟩) hHeld ?_
                              simp only [Act.put, List.setIfInBounds_toArray, List.set_cons_zero, List.set_cons_succ]
                              refine takeL (i := 8) (v := .agg (drumV DD)) rfl (by kernel_rfl) (by kernel_rfl) (by kernel_rfl) (fun _ _ _ h => h) (Or.inl ⟨by rfl, by intro w' hS; clear hS; go_simp⟩) hHeld ?_
                              simp only [Act.put, List.setIfInBounds_toArray, List.set_cons_zero, List.set_cons_succ]
                              refine takeL (i := 9) (v := .int .i64 CC) rfl (by kernel_rfl) (by kernel_rfl) (by kernel_rfl) (fun _ _ _ h => h) (Or.inl ⟨by rfl, by intro w' hS; clear hS; go_simp⟩) hHeld ?_
                              simp only [Act.put, List.setIfInBounds_toArray, List.set_cons_zero, List.set_cons_succ]
                              have J := And.intro hHeld (oy)
                              clear hbk hHeld oy
                              revert J
                              revert cz
                              revert Az
                              revert v
                              exact st200
                            · skip
                              go_simp
                              have hV := Var.new u #[.int .i16 0, .slice none 0 0] 37
                              obtain ⟨g, hg⟩ : ∃ g : Nat, g = u.heap.size := ⟨_, rfl⟩
                              have hgl : wf.heap.size ≤ g := by rw [hg]; exact hHeld.size
                              rw [← hg] at hV ⊢
                              refine hK.out _ _ (balloc hHeld (.cells #[.int .i16 0, .slice none 0 0] 37)) (fun hHeld => ?_)
                              clear hK K
                              try simp only [Act.put, List.setIfInBounds_toArray, List.set_cons_zero, List.set_cons_succ]
                              obtain ⟨v, hv⟩ : ∃ x, x = u.alloc (.cells #[.int .i16 0, .slice none 0 0] 37) := ⟨_, rfl⟩
                              rw [← hv] at hHeld hV ⊢
                              clear hv hg
                              have J := And.intro hHeld (And.intro hV (hgl))
                              clear hHeld hV hgl
                              revert J
                              revert g
                              revert v
                              exact st110
                            · skip
                              rw [if_pos (by rfl)]
                              refine wp_alloc_drum rfl zero_Drum ?_
                              have hU := Var.new u (drumV zD) 38
                              obtain ⟨q, hg⟩ : ∃ g : Nat, g = u.heap.size := ⟨_, rfl⟩
                              have hql : wf.heap.size ≤ q := by rw [hg]; exact hHeld.size
                              rw [← hg] at hU ⊢
                              refine hK.out _ _ (balloc hHeld (.cells (drumV zD) 38)) (fun hHeld => ?_)
                              clear hK K
                              try simp only [Act.put, List.setIfInBounds_toArray, List.set_cons_zero, List.set_cons_succ]
                              obtain ⟨v, hv⟩ : ∃ x, x = u.alloc (.cells (drumV zD) 38) := ⟨_, rfl⟩
                              rw [← hv] at hHeld hU ⊢
                              clear hv hg
                              have J := And.intro hHeld (And.intro hU (hql))
                              clear hHeld hU hql
                              revert J
                              revert q
                              revert v
                              exact st101
                        · skip
                          intro u g J
                          obtain ⟨hHeld, hV, hgl⟩ := J
                          refine wpAnyH_ready (rs := [2, 11]) (by kernel_rfl) (by simp) ?_
                          refine readyL rfl (fun K hK => ?_) (readyL rfl (fun K hK => ?_) AllReadyH.nil)
                          · skip
                            go_simp
                            refine (c_toDrum d _ hd).mono ?_
                            rintro e v ⟨rfl, hbk⟩
                            go_wp2_with fail
                            refine hK.out _ _ (bstep hHeld hbk) (fun hHeld => ?_)
                            clear hK K
                            try simp only [Act.put, List.setIfInBounds_toArray, List.set_cons_zero, List.set_cons_succ]
                            have hV2 := hV.below hbk
                            have J := And.intro hHeld (And.intro hV2 (hgl))
                            clear hbk hHeld hV2 hV hgl
                            revert J
                            revert g
                            revert v
                            exact st110
                          · skip
                            rw [if_pos (by rfl)]
                            refine wp_alloc_drum rfl zero_Drum ?_
                            have hU := Var.new u (drumV zD) 38
                            obtain ⟨q, hg⟩ : ∃ g : Nat, g = u.heap.size := ⟨_, rfl⟩
                            have hql : wf.heap.size ≤ q := by rw [hg]; exact hHeld.size
                            have hgq : g ≠ q := by have := hV.lt; omega
                            rw [← hg] at hU ⊢
                            refine hK.out _ _ (balloc hHeld (.cells (drumV zD) 38)) (fun hHeld => ?_)
                            clear hK K
                            try simp only [Act.put, List.setIfInBounds_toArray, List.set_cons_zero, List.set_cons_succ]
                            obtain ⟨v, hv⟩ : ∃ x, x = u.alloc (.cells (drumV zD) 38) := ⟨_, rfl⟩
                            have hV2 := hV.old (.cells (drumV zD) 38)
                            rw [← hv] at hHeld hU hV2 ⊢
                            clear hv hg
                            have J := And.intro hHeld (And.intro hV2 (And.intro hgl (And.intro hU (And.intro hql (hgq)))))
                            clear hHeld hU hql hV2 hgq hV hgl
                            revert J
                            revert q
                            revert g
                            revert v
                            exact st011
                      · skip
                        intro u q J
                        obtain ⟨hHeld, hU, hql⟩ := J
                        refine wpAnyH_ready (rs := [2, 10]) (by kernel_rfl) (by simp) ?_
                        refine readyL rfl (fun K hK => ?_) (readyL rfl (fun K hK => ?_) AllReadyH.nil)
                        · skip
                          go_simp
                          refine (c_toDrum d _ hd).mono ?_
                          rintro e v ⟨rfl, hbk⟩
                          go_wp2_with fail
                          refine hK.out _ _ (bstep hHeld hbk) (fun hHeld => ?_)
                          clear hK K
                          try simp only [Act.put, List.setIfInBounds_toArray, List.set_cons_zero, List.set_cons_succ]
                          have hU2 := hU.below hbk
                          have J := And.intro hHeld (And.intro hU2 (hql))
                          clear hbk hHeld hU2 hU hql
                          revert J
                          revert q
                          revert v
                          exact st101
                        · skip
                          go_simp
                          have hV := Var.new u #[.int .i16 0, .slice none 0 0] 37
                          obtain ⟨g, hg⟩ : ∃ g : Nat, g = u.heap.size := ⟨_, rfl⟩
                          have hgl : wf.heap.size ≤ g := by rw [hg]; exact hHeld.size
                          have hgq : g ≠ q := by have := hU.lt; omega
                          rw [← hg] at hV ⊢
                          refine hK.out _ _ (balloc hHeld (.cells #[.int .i16 0, .slice none 0 0] 37)) (fun hHeld => ?_)
                          clear hK K
                          try simp only [Act.put, List.setIfInBounds_toArray, List.set_cons_zero, List.set_cons_succ]
                          obtain ⟨v, hv⟩ : ∃ x, x = u.alloc (.cells #[.int .i16 0, .slice none 0 0] 37) := ⟨_, rfl⟩
                          have hU2 := hU.old (.cells #[.int .i16 0, .slice none 0 0] 37)
                          rw [← hv] at hHeld hV hU2 ⊢
                          clear hv hg
                          have J := And.intro hHeld (And.intro hV (And.intro hgl (And.intro hU2 (And.intro hql (hgq)))))
                          clear hHeld hV hgl hU2 hgq hU hql
                          revert J
                          revert q
                          revert g
                          revert v
                          exact st011
                    · skip
                      intro u Az cz J
                      obtain ⟨hHeld, ox⟩ := J
                      refine wpAnyH_ready (rs := [10, 11]) (by kernel_rfl) (by simp) ?_
                      refine readyL rfl (fun K hK => ?_) (readyL rfl (fun K hK => ?_) AllReadyH.nil)
                      · skip
                        go_simp
                        have hV := Var.new u #[.int .i16 0, .slice none 0 0] 37
                        obtain ⟨g, hg⟩ : ∃ g : Nat, g = u.heap.size := ⟨_, rfl⟩
                        have hgl : wf.heap.size ≤ g := by rw [hg]; exact hHeld.size
                        rw [← hg] at hV ⊢
                        refine hK.out _ _ (balloc hHeld (.cells #[.int .i16 0, .slice none 0 0] 37)) (fun hHeld => ?_)
                        clear hK K
                        try simp only [Act.put, List.setIfInBounds_toArray, List.set_cons_zero, List.set_cons_succ]
                        obtain ⟨v, hv⟩ : ∃ x, x = u.alloc (.cells #[.int .i16 0, .slice none 0 0] 37) := ⟨_, rfl⟩
                        have oz := ox.alloc (.cells #[.int .i16 0, .slice none 0 0] 37)
                        rw [← hv] at hHeld hV oz ⊢
                        clear hv hg
                        have J := And.intro hHeld (And.intro oz (And.intro hV (hgl)))
                        clear hHeld hV hgl oz ox
                        revert J
                        revert g
                        revert cz
                        revert Az
                        revert v
                        exact st210
                      · skip
                        rw [if_pos (by rfl)]
                        refine wp_alloc_drum rfl zero_Drum ?_
                        have hU := Var.new u (drumV zD) 38
                        obtain ⟨q, hg⟩ : ∃ g : Nat, g = u.heap.size := ⟨_, rfl⟩
                        have hql : wf.heap.size ≤ q := by rw [hg]; exact hHeld.size
                        rw [← hg] at hU ⊢
                        refine hK.out _ _ (balloc hHeld (.cells (drumV zD) 38)) (fun hHeld => ?_)
                        clear hK K
                        try simp only [Act.put, List.setIfInBounds_toArray, List.set_cons_zero, List.set_cons_succ]
                        obtain ⟨v, hv⟩ : ∃ x, x = u.alloc (.cells (drumV zD) 38) := ⟨_, rfl⟩
                        have oz := ox.alloc (.cells (drumV zD) 38)
                        rw [← hv] at hHeld hU oz ⊢
                        clear hv hg
                        have J := And.intro hHeld (And.intro oz (And.intro hU (hql)))
                        clear hHeld hU hql oz ox
                        revert J
                        revert q
                        revert cz
                        revert Az
                        revert v
                        exact st201
                  · skip
                    intro u g J
                    obtain ⟨hHeld, hV, hgl⟩ := J
                    refine wpAnyH_ready (rs := [5, 11]) (by kernel_rfl) (by simp) ?_
                    refine readyL rfl (fun K hK => ?_) (readyL rfl (fun K hK => ?_) AllReadyH.nil)
                    · skip
                      go_simp
                      refine (himpl A4 k4 _ (hOGa.at_.below hHeld)).mono ?_
                      rintro e v ⟨Az, cz, rfl, oy, hbk⟩
                      go_wp2_with fail
                      replace oy := oy.base_le hHeld.size
                      refine hK.out _ _ (bstep hHeld hbk) (fun hHeld => ?_)
                      clear hK K
                      try simp only [Act.put, List.setIfInBounds_toArray, List.set_cons_zero, List.set_cons_succ]
                      have hV2 := hV.below hbk
                      refine takeL (i := 6) (v := .tuple #[.agg #[.int .i16 SS, .slice Az FF.length cz], .agg (drumV DD), .int .i64 CC]) rfl (by kernel_rfl) (by kernel_rfl) (by kernel_rfl) (fun _ _ _ h => h) (Or.inl ⟨by rfl, by intro w' hS; clear hS; go_simp⟩) hHeld ?_
                      simp only [Act.put, List.setIfInBounds_toArray, List.set_cons_zero, List.set_cons_succ]
                      refine takeL (i := 7) (v := .agg #[.int .i16 SS, .slice Az FF.length cz]) rfl (by kernel_rfl) (by kernel_rfl) (by kernel_rfl) (fun _ _ _ h => h) (Or.inl ⟨by rfl, by intro w' hS; clear hS; go_simp⟩) hHeld ?_
                      simp only [Act.put, List.setIfInBounds_toArray, List.set_cons_zero, List.set_cons_succ]
                      refine takeL (i := 8) (v := .agg (drumV DD)) rfl (by kernel_rfl) (by kernel_rfl) (by kernel_rfl) (fun _ _ _ h => h) (Or.inl ⟨by rfl, by intro w' hS; clear hS; go_simp⟩) hHeld ?_
                      simp only [Act.put, List.setIfInBounds_toArray, List.set_cons_zero, List.set_cons_succ]
                      refine takeL (i := 9) (v := .int .i64 CC) rfl (by kernel_rfl) (by kernel_rfl) (by kernel_rfl) (fun _ _ _ h => h) (Or.inl ⟨by rfl, by intro w' hS; clear hS; go_simp⟩) hHeld ?_
                      simp only [Act.put, List.setIfInBounds_toArray, List.set_cons_zero, List.set_cons_succ]
                      have J := And.intro hHeld (And.intro oy (And.intro hV2 (hgl)))
                      clear hbk hHeld oy hV2 hV hgl
                      revert J
                      revert g
                      revert cz
                      revert Az
                      revert v
                      exact st210
                    · skip
                      rw [if_pos (by rfl)]
                      refine wp_alloc_drum rfl zero_Drum ?_
                      have hU := Var.new u (drumV zD) 38
                      obtain ⟨q, hg⟩ : ∃ g : Nat, g = u.heap.size := ⟨_, rfl⟩
                      have hql : wf.heap.size ≤ q := by rw [hg]; exact hHeld.size
                      have hgq : g ≠ q := by have := hV.lt; omega
                      rw [← hg] at hU ⊢
                      refine hK.out _ _ (balloc hHeld (.cells (drumV zD) 38)) (fun hHeld => ?_)
                      clear hK K
                      try simp only [Act.put, List.setIfInBounds_toArray, List.set_cons_zero, List.set_cons_succ]
                      obtain ⟨v, hv⟩ : ∃ x, x = u.alloc (.cells (drumV zD) 38) := ⟨_, rfl⟩
                      have hV2 := hV.old (.cells (drumV zD) 38)
                      rw [← hv] at hHeld hU hV2 ⊢
                      clear hv hg
                      have J := And.intro hHeld (And.intro hV2 (And.intro hgl (And.intro hU (And.intro hql (hgq)))))
                      clear hHeld hU hql hV2 hgq hV hgl
                      revert J
                      revert q
                      revert g
                      revert v
                      exact st111
                · skip
                  intro u q J
                  obtain ⟨hHeld, hU, hql⟩ := J
                  refine wpAnyH_ready (rs := [5, 10]) (by kernel_rfl) (by simp) ?_
                  refine readyL rfl (fun K hK => ?_) (readyL rfl (fun K hK => ?_) AllReadyH.nil)
                  · skip
                    go_simp
                    refine (himpl A4 k4 _ (hOGa.at_.below hHeld)).mono ?_
                    rintro e v ⟨Az, cz, rfl, oy, hbk⟩
                    go_wp2_with fail
                    replace oy := oy.base_le hHeld.size
                    refine hK.out _ _ (bstep hHeld hbk) (fun hHeld => ?_)
                    clear hK K
                    try simp only [Act.put, List.setIfInBounds_toArray, List.set_cons_zero, List.set_cons_succ]
                    have hU2 := hU.below hbk
                    refine takeL (i := 6) (v := .tuple #[.agg #[.int .i16 SS, .slice Az FF.length cz], .agg (drumV DD), .int .i64 CC]) rfl (by kernel_rfl) (by kernel_rfl) (by kernel_rfl) (fun _ _ _ h => h) (Or.inl ⟨by rfl, by intro w' hS; clear hS; go_simp⟩) hHeld ?_
                    simp only [Act.put, List.setIfInBounds_toArray, List.set_cons_zero, List.set_cons_succ]
                    refine takeL (i := 7) (v := .agg #[.int .i16 SS, .slice Az FF.length cz]) rfl (by kernel_rfl) (by kernel_rfl) (by kernel_rfl) (fun _ _ _ h => h) (Or.inl ⟨by rfl, by intro w' hS; clear hS; go_simp⟩) hHeld ?_
                    simp only [Act.put, List.setIfInBounds_toArray, List.set_cons_zero, List.set_cons_succ]
                    refine takeL (i := 8) (v := .agg (drumV DD)) rfl (by kernel_rfl) (by kernel_rfl) (by kernel_rfl) (fun _ _ _ h => h) (Or.inl ⟨by rfl, by intro w' hS; clear hS; go_simp⟩) hHeld ?_
                    simp only [Act.put, List.setIfInBounds_toArray, List.set_cons_zero, List.set_cons_succ]
                    refine takeL (i := 9) (v := .int .i64 CC) rfl (by kernel_rfl) (by kernel_rfl) (by kernel_rfl) (fun _ _ _ h => h) (Or.inl ⟨by rfl, by intro w' hS; clear hS; go_simp⟩) hHeld ?_
                    simp only [Act.put, List.setIfInBounds_toArray, List.set_cons_zero, List.set_cons_succ]
                    have J := And.intro hHeld (And.intro oy (And.intro hU2 (hql)))
                    clear hbk hHeld oy hU2 hU hql
                    revert J
                    revert q
                    revert cz
                    revert Az
                    revert v
                    exact st201
                  · skip
                    go_simp
                    have hV := Var.new u #[.int .i16 0, .slice none 0 0] 37
                    obtain ⟨g, hg⟩ : ∃ g : Nat, g = u.heap.size := ⟨_, rfl⟩
                    have hgl : wf.heap.size ≤ g := by rw [hg]; exact hHeld.size
                    have hgq : g ≠ q := by have := hU.lt; omega
                    rw [← hg] at hV ⊢
                    refine hK.out _ _ (balloc hHeld (.cells #[.int .i16 0, .slice none 0 0] 37)) (fun hHeld => ?_)
                    clear hK K
                    try simp only [Act.put, List.setIfInBounds_toArray, List.set_cons_zero, List.set_cons_succ]
                    obtain ⟨v, hv⟩ : ∃ x, x = u.alloc (.cells #[.int .i16 0, .slice none 0 0] 37) := ⟨_, rfl⟩
                    have hU2 := hU.old (.cells #[.int .i16 0, .slice none 0 0] 37)
                    rw [← hv] at hHeld hV hU2 ⊢
                    clear hv hg
                    have J := And.intro hHeld (And.intro hV (And.intro hgl (And.intro hU2 (And.intro hql (hgq)))))
                    clear hHeld hV hgl hU2 hgq hU hql
                    revert J
                    revert q
                    revert g
                    revert v
                    exact st111
              · skip
                intro u g q J
                obtain ⟨hHeld, hV, hgl, hU, hql, hgq⟩ := J
                refine wpAnyH_ready (rs := [2]) (by kernel_rfl) (by simp) ?_
                refine readyL rfl (fun K hK => ?_) AllReadyH.nil
                · skip
                  go_simp
                  refine (c_toDrum d _ hd).mono ?_
                  rintro e v ⟨rfl, hbk⟩
                  go_wp2_with fail
                  refine hK.out _ _ (bstep hHeld hbk) (fun hHeld => ?_)
                  clear hK K
                  try simp only [Act.put, List.setIfInBounds_toArray, List.set_cons_zero, List.set_cons_succ]
                  have hV2 := hV.below hbk
                  have hU2 := hU.below hbk
                  have J := And.intro hHeld (And.intro hV2 (And.intro hgl (And.intro hU2 (And.intro hql (hgq)))))
                  clear hbk hHeld hV2 hU2 hV hgl hU hql hgq
                  revert J
                  revert q
                  revert g
                  revert v
                  exact st111
            · skip
              intro u Az cz g J
              obtain ⟨hHeld, ox, hV, hgl⟩ := J
              refine wpAnyH_ready (rs := [11]) (by kernel_rfl) (by simp) ?_
              refine readyL rfl (fun K hK => ?_) AllReadyH.nil
              · skip
                rw [if_pos (by rfl)]
                refine wp_alloc_drum rfl zero_Drum ?_
                have hU := Var.new u (drumV zD) 38
                obtain ⟨q, hg⟩ : ∃ g : Nat, g = u.heap.size := ⟨_, rfl⟩
                have hql : wf.heap.size ≤ q := by rw [hg]; exact hHeld.size
                have hgq : g ≠ q := by have := hV.lt; omega
                rw [← hg] at hU ⊢
                refine hK.out _ _ (balloc hHeld (.cells (drumV zD) 38)) (fun hHeld => ?_)
                clear hK K
                try simp only [Act.put, List.setIfInBounds_toArray, List.set_cons_zero, List.set_cons_succ]
                obtain ⟨v, hv⟩ : ∃ x, x = u.alloc (.cells (drumV zD) 38) := ⟨_, rfl⟩
                have oz := ox.alloc (.cells (drumV zD) 38)
                have hV2 := hV.old (.cells (drumV zD) 38)
                rw [← hv] at hHeld hU oz hV2 ⊢
                clear hv hg
                have J := And.intro hHeld (And.intro oz (And.intro hV2 (And.intro hgl (And.intro hU (And.intro hql (hgq))))))
                clear hHeld hU hql oz hV2 hgq ox hV hgl
                revert J
                revert q
                revert g
                revert cz
                revert Az
                revert v
                exact st211
          · skip
            intro u Az cz q J
            obtain ⟨hHeld, ox, hU, hql⟩ := J
            refine wpAnyH_ready (rs := [10]) (by kernel_rfl) (by simp) ?_
            refine readyL rfl (fun K hK => ?_) AllReadyH.nil
            · skip
              go_simp
              have hV := Var.new u #[.int .i16 0, .slice none 0 0] 37
              obtain ⟨g, hg⟩ : ∃ g : Nat, g = u.heap.size := ⟨_, rfl⟩
              have hgl : wf.heap.size ≤ g := by rw [hg]; exact hHeld.size
              have hgq : g ≠ q := by have := hU.lt; omega
              rw [← hg] at hV ⊢
              refine hK.out _ _ (balloc hHeld (.cells #[.int .i16 0, .slice none 0 0] 37)) (fun hHeld => ?_)
              clear hK K
              try simp only [Act.put, List.setIfInBounds_toArray, List.set_cons_zero, List.set_cons_succ]
              obtain ⟨v, hv⟩ : ∃ x, x = u.alloc (.cells #[.int .i16 0, .slice none 0 0] 37) := ⟨_, rfl⟩
              have oz := ox.alloc (.cells #[.int .i16 0, .slice none 0 0] 37)
              have hU2 := hU.old (.cells #[.int .i16 0, .slice none 0 0] 37)
              rw [← hv] at hHeld hV oz hU2 ⊢
              clear hv hg
              have J := And.intro hHeld (And.intro oz (And.intro hV (And.intro hgl (And.intro hU2 (And.intro hql (hgq))))))
              clear hHeld hV hgl oz hU2 hgq ox hU hql
              revert J
              revert q
              revert g
              revert cz
              revert Az
              revert v
              exact st211
        · skip
          intro u g q J
          obtain ⟨hHeld, hV, hgl, hU, hql, hgq⟩ := J
          refine wpAnyH_ready (rs := [5]) (by kernel_rfl) (by simp) ?_
          refine readyL rfl (fun K hK => ?_) AllReadyH.nil
          · skip
            go_simp
            refine (himpl A4 k4 _ (hOGa.at_.below hHeld)).mono ?_
            rintro e v ⟨Az, cz, rfl, oy, hbk⟩
            go_wp2_with fail
            replace oy := oy.base_le hHeld.size
            refine hK.out _ _ (bstep hHeld hbk) (fun hHeld => ?_)
            clear hK K
            try simp only [Act.put, List.setIfInBounds_toArray, List.set_cons_zero, List.set_cons_succ]
            have hV2 := hV.below hbk
            have hU2 := hU.below hbk
            refine takeL (i := 6) (v := .tuple #[.agg #[.int .i16 SS, .slice Az FF.length cz], .agg (drumV DD), .int .i64 CC]) rfl (by kernel_rfl) (by kernel_rfl) (by kernel_rfl) (fun _ _ _ h => h) (Or.inl ⟨by rfl, by intro w' hS; clear hS; go_simp⟩) hHeld ?_
            simp only [Act.put, List.setIfInBounds_toArray, List.set_cons_zero, List.set_cons_succ]
            refine takeL (i := 7) (v := .agg #[.int .i16 SS, .slice Az FF.length cz]) rfl (by kernel_rfl) (by kernel_rfl) (by kernel_rfl) (fun _ _ _ h => h) (Or.inl ⟨by rfl, by intro w' hS; clear hS; go_simp⟩) hHeld ?_
            simp only [Act.put, List.setIfInBounds_toArray, List.set_cons_zero, List.set_cons_succ]
            refine takeL (i := 8) (v := .agg (drumV DD)) rfl (by kernel_rfl) (by kernel_rfl) (by kernel_rfl) (fun _ _ _ h => h) (Or.inl ⟨by rfl, by intro w' hS; clear hS; go_simp⟩) hHeld ?_
            simp only [Act.put, List.setIfInBounds_toArray, List.set_cons_zero, List.set_cons_succ]
            refine takeL (i := 9) (v := .int .i64 CC) rfl (by kernel_rfl) (by kernel_rfl) (by kernel_rfl) (fun _ _ _ h => h) (Or.inl ⟨by rfl, by intro w' hS; clear hS; go_simp⟩) hHeld ?_
            simp only [Act.put, List.setIfInBounds_toArray, List.set_cons_zero, List.set_cons_succ]
            have J := And.intro hHeld (And.intro oy (And.intro hV2 (And.intro hgl (And.intro hU2 (And.intro hql (hgq))))))
            clear hbk hHeld oy hV2 hU2 hV hgl hU hql hgq
            revert J
            revert q
            revert g
            revert cz
            revert Az
            revert v
            exact st211
      · skip
        intro u Az cz g q J
        obtain ⟨hHeld, ox, hV, hgl, hU, hql, hgq⟩ := J
        refine wpAnyH_ready (rs := [12]) (by kernel_rfl) (by simp) ?_
        refine readyL rfl (fun K hK => ?_) AllReadyH.nil
        have z1 := hV.cell (i := 0) rfl
        have z2 := hV.cell (i := 1) rfl
        have z3 := hV.frozen 0
        have z4 := hV.frozen 1
        go_simp
        refine hK.out _ _ (bset (bset hHeld (by simp <;> omega) _) (by simp <;> omega) _) (fun hHeld => ?_)
        clear hK K
        try simp only [Act.put, List.setIfInBounds_toArray, List.set_cons_zero, List.set_cons_succ]
        clear z1 z2 z3 z4
        have hV2 := (hV.set 0 (.int .i16 SS)).set 1 (.slice Az FF.length cz)
        have hU2 := (hU.other (p := ⟨g, 0, none⟩) (by simpa using hgq.symm) (.int .i16 SS)).other (p := ⟨g, 1, none⟩) (by simpa using hgq.symm) (.slice Az FF.length cz)
        have oy := (ox.beside hV (by decide) 0 (.int .i16 SS)).beside (hV.set 0 (.int .i16 SS)) (by decide) 1 (.slice Az FF.length cz)
        refine wpAnyH_ready (rs := [13]) (by kernel_rfl) (by simp) ?_
        refine readyL rfl (fun K hK => ?_) AllReadyH.nil
        rw [if_pos (by rfl)]
        refine wp_storeD rfl hU2 rfl rfl size_Drum hDl zD_len ?_
        have oz := oy.rowBeside hU2 (by decide) (drumV DD)
        have hV3 := hV2.rowOther (drumV DD) hgq
        have hU3 := hU2.row (drumV DD)
        refine hK.out _ _ (brow hHeld hql _) (fun hHeld => ?_)
        clear hK K
        try simp only [Act.put, List.setIfInBounds_toArray, List.set_cons_zero, List.set_cons_succ]
        refine wpAnyH_ready (rs := [14]) (by kernel_rfl) (by simp) ?_
        refine readyL rfl (fun K hK => ?_) AllReadyH.nil
        go_simp
        refine hK.out _ _ (hHeld) (fun hHeld => ?_)
        clear hK K
        try simp only [Act.put, List.setIfInBounds_toArray, List.set_cons_zero, List.set_cons_succ]
        refine wpAnyH_done (by kernel_rfl) ?_ _
        have HH := Lib.hid (And.intro oz (And.intro hV3 (And.intro hU3 hHeld)))
        clear oz hV3 hU3 hHeld hV2 hU2 oy hV hU ox
        go_wp2_with fail
        go_meet
        case rel => exact ⟨g, q, Az, cz, rfl, rfl, rfl, HH.out.2.1, HH.out.2.2.1, HH.out.1, hgl, hql, HH.out.2.2.2⟩
    obtain ⟨gY, qY, A5, c5, rfl, rfl, rfl, hV, hU, ho, hglY, hqlY, b5⟩ := hcut
    obtain ⟨w5, rfl⟩ : ∃ x, x = wc := ⟨_, rfl⟩
    have Y5 := Lib.hid hV
    have YD5 := Lib.hid hU
    have OY5 := Lib.hid ho
    clear hV hU ho
    clear hOGa
    have hOZ := OZa.out
    have hOG := OGa.out
    have hOY := OY5.out
    have NY := Lib.hid (show ∀ j, (Value.slice A5 FF.length c5).ownBlock = some j → (Value.slice A3 FF.length c3).ownBlock ≠ some j from fun j hj hj2 => by have := hOZ.high (k := j) hj2; have := hOY.low (k := j) hj; omega)
    have NG := Lib.hid (show ∀ j, (Value.slice A4 f.length k4).ownBlock = some j → (Value.slice A5 FF.length c5).ownBlock ≠ some j from fun j hj hj2 => by have := hOG.high (k := j) hj; have := hOY.low (k := j) hj2; omega)
    have LY := Lib.hid (show ∀ j, (Value.slice A5 FF.length c5).ownBlock = some j → w.heap.size ≤ j from fun j hj => Nat.le_trans Ba.size (hOY.low hj))
    clear hOZ hOG hOY
    have H5 := Lib.hid (Ha.out.below b5)
    have D5 := Lib.hid (Da.out.below b5)
    have Z5 := Lib.hid (Za.out.below b5)
    have ZD5 := Lib.hid (ZDa.out.below b5)
    have OZ5 := Lib.hid (OZa.out.below b5)
    have G5 := Lib.hid (Ga.out.below b5)
    have OG5 := Lib.hid (OGa.out.below b5)
    have B5 := bstep Ba b5
    clear Ha Da Za ZDa OZa Ga OGa
    clear b5
    have hE := eqL_self FF
    have hE2 := eqL_self f
    have zc1 := Y5.out.cell (i := 0) rfl
    have zc2 := Y5.out.cell (i := 1) rfl
    have zc3 := Z5.out.cell (i := 0) rfl
    have zc4 := Z5.out.cell (i := 1) rfl
    go_wp2_with fail
    refine (c_eqFrame SS SS A5 A3 c5 c3 FF FF _ OY5.out.at_ OZ5.out.at_ hFl hFl).mono ?_
    rintro e w6 ⟨rfl, b6⟩
    rw [hE, decide_self]
    clear zc1 zc2 zc3 zc4
    have H6 := Lib.hid (H5.out.below b6)
    have D6 := Lib.hid (D5.out.below b6)
    have Z6 := Lib.hid (Z5.out.below b6)
    have ZD6 := Lib.hid (ZD5.out.below b6)
    have OZ6 := Lib.hid (OZ5.out.below b6)
    have G6 := Lib.hid (G5.out.below b6)
    have OG6 := Lib.hid (OG5.out.below b6)
    have Y6 := Lib.hid (Y5.out.below b6)
    have YD6 := Lib.hid (YD5.out.below b6)
    have OY6 := Lib.hid (OY5.out.below b6)
    have B6 := bstep B5 b6
    clear H5 D5 Z5 ZD5 OZ5 G5 OG5 Y5 YD5 OY5
    clear b6
    go_wp2_with (first | (refine wpList_loadD (by rfl) rfl YD6.out rfl Try.underlying38 size_Drum hDl ?_) | (refine wpList_loadD (by rfl) rfl ZD6.out rfl Try.underlying38 size_Drum hDl ?_))
    refine (c_eqDrum DD DD _ hDl hDl).mono ?_
    rintro e w7 ⟨rfl, b7⟩
    rw [decide_self]
    have H7 := Lib.hid (H6.out.below b7)
    have D7 := Lib.hid (D6.out.below b7)
    have Z7 := Lib.hid (Z6.out.below b7)
    have ZD7 := Lib.hid (ZD6.out.below b7)
    have OZ7 := Lib.hid (OZ6.out.below b7)
    have G7 := Lib.hid (G6.out.below b7)
    have OG7 := Lib.hid (OG6.out.below b7)
    have Y7 := Lib.hid (Y6.out.below b7)
    have YD7 := Lib.hid (YD6.out.below b7)
    have OY7 := Lib.hid (OY6.out.below b7)
    have B7 := bstep B6 b7
    clear H6 D6 Z6 ZD6 OZ6 G6 OG6 Y6 YD6 OY6
    clear b7
    go_upto_region 10 with fail
    go_cut [70] from 66 to 69 (fun x w' => x = .bool false ∧ Below w7.heap.size w7 w')
    case first => as_aux_lemma =>
      have hOG := OG7.out
      refine wp_region_held_drew (S := (Below w7.heap.size w7)) (by kernel_rfl) (bdrew (Below.refl _ _)) (fun hHeld => ?_)
      refine takeL (i := 0) (v := .agg #[.int .i16 sf, .slice A4 f.length k4]) rfl (by kernel_rfl) (by kernel_rfl) (by kernel_rfl) (fun _ _ _ h => h) (Or.inl ⟨by rfl, by intro w' hS; have y1 := (G7.out.below hS).cell (i := 0) rfl; have y2 := (G7.out.below hS).cell (i := 1) rfl; clear hS; go_simp⟩) hHeld ?_
      simp only [Act.put, List.setIfInBounds_toArray, List.set_cons_zero, List.set_cons_succ]
      refine takeL (i := 1) (v := .agg #[.int .i16 sf, .slice Af f.length kf]) rfl (by kernel_rfl) (by kernel_rfl) (by kernel_rfl) (fun _ _ _ h => h) (Or.inl ⟨by rfl, by intro w' hS; have y1 := (H7.out.below hS).cell (i := 0) rfl; have y2 := (H7.out.below hS).cell (i := 1) rfl; clear hS; go_simp⟩) hHeld ?_
      simp only [Act.put, List.setIfInBounds_toArray, List.set_cons_zero, List.set_cons_succ]
      refine wpAnyH_ready (rs := [2]) (by kernel_rfl) (by simp) ?_
      refine readyL rfl (fun K hK => ?_) AllReadyH.nil
      go_simp
      refine (c_toFrame sf Af kf f _ (hf.below (bstep B7 hHeld)) hLf).mono ?_
      rintro e wa ⟨Ax, kx, rfl, ox, hbk⟩
      go_wp2_with fail
      refine hK.out _ _ (bstep hHeld hbk) (fun hHeld => ?_)
      clear hK K
      try simp only [Act.put, List.setIfInBounds_toArray, List.set_cons_zero, List.set_cons_succ]
      refine wpAnyH_ready (rs := [3]) (by kernel_rfl) (by simp) ?_
      refine readyL rfl (fun K hK => ?_) AllReadyH.nil
      go_simp
      refine (c_eqFrame sf sf A4 Ax k4 kx f f _ (hOG.at_.below hHeld) ox.at_ hLf hLf).mono ?_
      rintro e w8 ⟨rfl, hbk⟩
      rw [hE2, decide_self]
      go_wp2_with fail
      refine hK.out _ _ (bstep hHeld hbk) (fun hHeld => ?_)
      clear hK K
      try simp only [Act.put, List.setIfInBounds_toArray, List.set_cons_zero, List.set_cons_succ]
      refine takeL (i := 4) (v := .bool false) rfl (by kernel_rfl) (by kernel_rfl) (by kernel_rfl) (fun _ _ _ h => h) (Or.inl ⟨by rfl, by intro w' hS; clear hS; go_simp⟩) hHeld ?_
      simp only [Act.put, List.setIfInBounds_toArray, List.set_cons_zero, List.set_cons_succ]
      refine wpAnyH_done (by kernel_rfl) ?_ _
      have HH := Lib.hid hHeld
      clear hHeld
      go_wp2_with fail
      go_meet
      case rel => exact ⟨rfl, HH.out⟩
    obtain ⟨rfl, b8⟩ := hcut
    obtain ⟨w8, rfl⟩ : ∃ x, x = wc := ⟨_, rfl⟩
    have H8 := Lib.hid (H7.out.below b8)
    have D8 := Lib.hid (D7.out.below b8)
    have Z8 := Lib.hid (Z7.out.below b8)
    have ZD8 := Lib.hid (ZD7.out.below b8)
    have OZ8 := Lib.hid (OZ7.out.below b8)
    have G8 := Lib.hid (G7.out.below b8)
    have OG8 := Lib.hid (OG7.out.below b8)
    have Y8 := Lib.hid (Y7.out.below b8)
    have YD8 := Lib.hid (YD7.out.below b8)
    have OY8 := Lib.hid (OY7.out.below b8)
    have B8 := bstep B7 b8
    clear H7 D7 Z7 ZD7 OZ7 G7 OG7 Y7 YD7 OY7
    clear b8
    have zc1 := G8.out.cell (i := 0) rfl
    have zc2 := G8.out.cell (i := 1) rfl
    go_wp2_with fail
    refine (c_markFrameH sf A4 k4 f 1 _ _ OG8.out hLf (by omega)).mono ?_
    rintro e w9 ⟨rfl, _, hg⟩
    clear zc1 zc2
    have H9 := Lib.hid (H8.out.grown hg (OG8.out.ne_var H8.out (by decide)))
    have D9 := Lib.hid (D8.out.grown hg (OG8.out.ne_var D8.out (by decide)))
    have Z9 := Lib.hid (Z8.out.grown hg (OG8.out.ne_var Z8.out (by decide)))
    have ZD9 := Lib.hid (ZD8.out.grown hg (OG8.out.ne_var ZD8.out (by decide)))
    have OZ9 := Lib.hid (OZ8.out.apart hg (fun j hj => fun hj2 => NZ.out j hj2 hj))
    have Y9 := Lib.hid (Y8.out.grown hg (OG8.out.ne_var Y8.out (by decide)))
    have YD9 := Lib.hid (YD8.out.grown hg (OG8.out.ne_var YD8.out (by decide)))
    have OY9 := Lib.hid (OY8.out.apart hg (fun j hj => fun hj2 => NG.out j hj2 hj))
    have B9 := bgrown B8 hg (fun j hj => LG.out j hj)
    clear H8 D8 Z8 ZD8 OZ8 Y8 YD8 OY8 hg
    clear OG8 G8
    have hk0 : decide (((1 + 2 * f.length : Nat) : Int) < 0) = false := decide_eq_false (by omega)
    have zc1 := Y9.out.cell (i := 0) rfl
    have zc2 := Y9.out.cell (i := 1) rfl
    have zc3 := Z9.out.cell (i := 0) rfl
    have zc4 := Z9.out.cell (i := 1) rfl
    go_wp2_with fail
    refine (c_eqFrame SS SS A5 A3 c5 c3 FF FF _ OY9.out.at_ OZ9.out.at_ hFl hFl).mono ?_
    rintro e w10 ⟨rfl, b10⟩
    rw [hE, decide_self]
    clear zc1 zc2 zc3 zc4
    have H10 := Lib.hid (H9.out.below b10)
    have D10 := Lib.hid (D9.out.below b10)
    have Z10 := Lib.hid (Z9.out.below b10)
    have ZD10 := Lib.hid (ZD9.out.below b10)
    have OZ10 := Lib.hid (OZ9.out.below b10)
    have Y10 := Lib.hid (Y9.out.below b10)
    have YD10 := Lib.hid (YD9.out.below b10)
    have OY10 := Lib.hid (OY9.out.below b10)
    have B10 := bstep B9 b10
    clear H9 D9 Z9 ZD9 OZ9 Y9 YD9 OY9
    clear b10
    go_wp2_with (first | (refine wpList_loadD (by rfl) rfl YD10.out rfl Try.underlying38 size_Drum hDl ?_) | (refine wpList_loadD (by rfl) rfl ZD10.out rfl Try.underlying38 size_Drum hDl ?_))
    refine (c_eqDrum DD DD _ hDl hDl).mono ?_
    rintro e w11 ⟨rfl, b11⟩
    rw [decide_self]
    have H11 := Lib.hid (H10.out.below b11)
    have D11 := Lib.hid (D10.out.below b11)
    have Z11 := Lib.hid (Z10.out.below b11)
    have ZD11 := Lib.hid (ZD10.out.below b11)
    have OZ11 := Lib.hid (OZ10.out.below b11)
    have Y11 := Lib.hid (Y10.out.below b11)
    have YD11 := Lib.hid (YD10.out.below b11)
    have OY11 := Lib.hid (OY10.out.below b11)
    have B11 := bstep B10 b11
    clear H10 D10 Z10 ZD10 OZ10 Y10 YD10 OY10
    clear b11
    have zc1 := Y11.out.cell (i := 0) rfl
    have zc2 := Y11.out.cell (i := 1) rfl
    go_wp2_with fail
    refine (c_markFrameH SS A5 c5 FF 1 _ _ OY11.out hFl (by omega)).mono ?_
    rintro e w12 ⟨rfl, hoy, hg⟩
    clear zc1 zc2
    have OY12 := Lib.hid hoy
    clear hoy
    have H12 := Lib.hid (H11.out.grown hg (OY11.out.ne_var H11.out (by decide)))
    have D12 := Lib.hid (D11.out.grown hg (OY11.out.ne_var D11.out (by decide)))
    have Z12 := Lib.hid (Z11.out.grown hg (OY11.out.ne_var Z11.out (by decide)))
    have ZD12 := Lib.hid (ZD11.out.grown hg (OY11.out.ne_var ZD11.out (by decide)))
    have OZ12 := Lib.hid (OZ11.out.apart hg (fun j hj => fun hj2 => NY.out j hj2 hj))
    have Y12 := Lib.hid (Y11.out.grown hg (OY11.out.ne_var Y11.out (by decide)))
    have YD12 := Lib.hid (YD11.out.grown hg (OY11.out.ne_var YD11.out (by decide)))
    have B12 := bgrown B11 hg (fun j hj => LY.out j hj)
    clear H11 D11 Z11 ZD11 OZ11 Y11 YD11 hg
    clear OY11
    clear YD12
    have hk1 : decide (((1 + 2 * FF.length : Nat) : Int) < 0) = false := decide_eq_false (by omega)
    have zc1 := Y12.out.cell (i := 0) rfl
    have zc2 := Y12.out.cell (i := 1) rfl
    go_wp2_with fail
    refine (c_heldFrameH SS A5 c5 FF.length 1 _ OY12.out.at_ hFl (by omega)).mono ?_
    rintro e w13 ⟨rfl, b13⟩
    clear zc1 zc2
    have H13 := Lib.hid (H12.out.below b13)
    have D13 := Lib.hid (D12.out.below b13)
    have Z13 := Lib.hid (Z12.out.below b13)
    have ZD13 := Lib.hid (ZD12.out.below b13)
    have OZ13 := Lib.hid (OZ12.out.below b13)
    have Y13 := Lib.hid (Y12.out.below b13)
    have OY13 := Lib.hid (OY12.out.below b13)
    have B13 := bstep B12 b13
    clear H12 D12 Z12 ZD12 OZ12 Y12 OY12
    clear b13
    go_upto_region 24 with fail
    go_cut [20, 21, 22] from 23 (fun s t c w' => ∃ g q Az cz, s = .pointer (some ⟨g, 0, none⟩) ∧ t = .pointer (some ⟨q, 0, none⟩) ∧ c = .int .i64 CC ∧ Var w' g #[.int .i16 SS, .slice Az FF.length cz] 37 ∧ Var w' q (drumV DD) 38 ∧ Own2 .i8 .i8 71 w' w13.heap.size (.slice Az FF.length cz) FF ∧ w13.heap.size ≤ g ∧ w13.heap.size ≤ q ∧ Below w13.heap.size w13 w')
    case first => as_aux_lemma =>
      refine wp_region_held_drew (S := (Below w13.heap.size w13)) (by kernel_rfl) (bdrew (Below.refl _ _)) (fun hHeld => ?_)
      refine takeL (i := 0) (v := .agg #[.int .i16 sf, .slice Af f.length kf]) rfl (by kernel_rfl) (by kernel_rfl) (by kernel_rfl) (fun _ _ _ h => h) (Or.inl ⟨by rfl, by intro w' hS; have y1 := (H13.out.below hS).cell (i := 0) rfl; have y2 := (H13.out.below hS).cell (i := 1) rfl; clear hS; go_simp⟩) hHeld ?_
      simp only [Act.put, List.setIfInBounds_toArray, List.set_cons_zero, List.set_cons_succ]
      refine takeL (i := 2) (v := .agg (drumV d)) rfl (by kernel_rfl) (by kernel_rfl) (by kernel_rfl) (fun _ _ _ h => h) (by simpa using yieldsIf_load_mid (S := (Below w13.heap.size w13)) (by rfl) _ _ rfl _ _ rfl (drumV d).toList _ (fun w' hS => (D13.out.below hS).range) hud rfl hlnd) hHeld ?_
      simp only [Act.put, List.setIfInBounds_toArray, List.set_cons_zero, List.set_cons_succ]
      refine takeL (i := 4) (v := .int .i64 p) rfl (by kernel_rfl) (by kernel_rfl) (by kernel_rfl) (fun _ _ _ h => h) (Or.inl ⟨by rfl, by intro w' hS; clear hS; go_simp⟩) hHeld ?_
      simp only [Act.put, List.setIfInBounds_toArray, List.set_cons_zero, List.set_cons_succ]
      refine takeL (i := 5) (v := .int .i64 q) rfl (by kernel_rfl) (by kernel_rfl) (by kernel_rfl) (fun _ _ _ h => h) (Or.inl ⟨by rfl, by intro w' hS; clear hS; go_simp⟩) hHeld ?_
      simp only [Act.put, List.setIfInBounds_toArray, List.set_cons_zero, List.set_cons_succ]
      obtain ⟨v, hv⟩ : ∃ x, w13.drew = x := ⟨_, rfl⟩
      rw [hv] at hHeld ⊢
      clear hv
      revert hHeld
      revert v
      apply share
      · intro st311
        apply share
        · intro st211
          apply share
          · intro st301
            apply share
            · intro st310
              apply share
              · intro st111
                apply share
                · intro st201
                  apply share
                  · intro st210
                    apply share
                    · intro st300
                      apply share
                      · intro st011
                        apply share
                        · intro st101
                          apply share
                          · intro st110
                            apply share
                            · intro st200
                              apply share
                              · intro st001
                                apply share
                                · intro st010
                                  apply share
                                  · intro st100
                                    intro u J
                                    have hHeld := J; clear J
                                    refine wpAnyH_ready (rs := [1, 11, 12]) (by kernel_rfl) (by simp) ?_
                                    refine readyL rfl (fun K hK => ?_) (readyL rfl (fun K hK => ?_) (readyL rfl (fun K hK => ?_) AllReadyH.nil))
                                    · skip
                                      go_simp
                                      refine (c_toFrame sf Af kf f _ (hf.below (bstep B13 hHeld)) hLf).mono ?_
                                      rintro e v ⟨Ax, kx, rfl, oy, hbk⟩
                                      go_wp2_with fail
                                      refine hK.out _ _ (bstep hHeld hbk) (fun hHeld => ?_)
                                      clear hK K
                                      try simp only [Act.put, List.setIfInBounds_toArray, List.set_cons_zero, List.set_cons_succ]
                                      have oz := oy.at_
                                      have J := And.intro hHeld (oz)
                                      clear hbk hHeld oy oz
                                      revert J
                                      revert kx
                                      revert Ax
                                      revert v
                                      exact st100
                                    · skip
                                      go_simp
                                      have hV := Var.new u #[.int .i16 0, .slice none 0 0] 37
                                      obtain ⟨g, hg⟩ : ∃ g : Nat, g = u.heap.size := ⟨_, rfl⟩
                                      have hgl : w13.heap.size ≤ g := by rw [hg]; exact hHeld.size
                                      rw [← hg] at hV ⊢
                                      refine hK.out _ _ (balloc hHeld (.cells #[.int .i16 0, .slice none 0 0] 37)) (fun hHeld => ?_)
                                      clear hK K
                                      try simp only [Act.put, List.setIfInBounds_toArray, List.set_cons_zero, List.set_cons_succ]
                                      obtain ⟨v, hv⟩ : ∃ x, x = u.alloc (.cells #[.int .i16 0, .slice none 0 0] 37) := ⟨_, rfl⟩
                                      rw [← hv] at hHeld hV ⊢
                                      clear hv hg
                                      have J := And.intro hHeld (And.intro hV (hgl))
                                      clear hHeld hV hgl
                                      revert J
                                      revert g
                                      revert v
                                      exact st010
                                    · skip
                                      rw [if_pos (by rfl)]
                                      refine wp_alloc_drum rfl zero_Drum ?_
                                      have hU := Var.new u (drumV zD) 38
                                      obtain ⟨q, hg⟩ : ∃ g : Nat, g = u.heap.size := ⟨_, rfl⟩
                                      have hql : w13.heap.size ≤ q := by rw [hg]; exact hHeld.size
                                      rw [← hg] at hU ⊢
                                      refine hK.out _ _ (balloc hHeld (.cells (drumV zD) 38)) (fun hHeld => ?_)
                                      clear hK K
                                      try simp only [Act.put, List.setIfInBounds_toArray, List.set_cons_zero, List.set_cons_succ]
                                      obtain ⟨v, hv⟩ : ∃ x, x = u.alloc (.cells (drumV zD) 38) := ⟨_, rfl⟩
                                      rw [← hv] at hHeld hU ⊢
                                      clear hv hg
                                      have J := And.intro hHeld (And.intro hU (hql))
                                      clear hHeld hU hql
                                      revert J
                                      revert q
                                      revert v
                                      exact st001
                                  · skip
                                    intro u Ax kx J
                                    obtain ⟨hHeld, ox⟩ := J
                                    refine wpAnyH_ready (rs := [3, 11, 12]) (by kernel_rfl) (by simp) ?_
                                    refine readyL rfl (fun K hK => ?_) (readyL rfl (fun K hK => ?_) (readyL rfl (fun K hK => ?_) AllReadyH.nil))
                                    · skip
                                      go_simp
                                      refine (c_toDrum d _ hd).mono ?_
                                      rintro e v ⟨rfl, hbk⟩
                                      go_wp2_with fail
                                      refine hK.out _ _ (bstep hHeld hbk) (fun hHeld => ?_)
                                      clear hK K
                                      try simp only [Act.put, List.setIfInBounds_toArray, List.set_cons_zero, List.set_cons_succ]
                                      have oz := ox.below hbk
                                      have J := And.intro hHeld (oz)
                                      clear hbk hHeld oz ox
                                      revert J
                                      revert kx
                                      revert Ax
                                      revert v
                                      exact st200
                                    · skip
                                      go_simp
                                      have hV := Var.new u #[.int .i16 0, .slice none 0 0] 37
                                      obtain ⟨g, hg⟩ : ∃ g : Nat, g = u.heap.size := ⟨_, rfl⟩
                                      have hgl : w13.heap.size ≤ g := by rw [hg]; exact hHeld.size
                                      rw [← hg] at hV ⊢
                                      refine hK.out _ _ (balloc hHeld (.cells #[.int .i16 0, .slice none 0 0] 37)) (fun hHeld => ?_)
                                      clear hK K
                                      try simp only [Act.put, List.setIfInBounds_toArray, List.set_cons_zero, List.set_cons_succ]
                                      obtain ⟨v, hv⟩ : ∃ x, x = u.alloc (.cells #[.int .i16 0, .slice none 0 0] 37) := ⟨_, rfl⟩
                                      have oz := ox.alloc (.cells #[.int .i16 0, .slice none 0 0] 37)
                                      rw [← hv] at hHeld hV oz ⊢
                                      clear hv hg
                                      have J := And.intro hHeld (And.intro oz (And.intro hV (hgl)))
                                      clear hHeld hV hgl oz ox
                                      revert J
                                      revert g
                                      revert kx
                                      revert Ax
                                      revert v
                                      exact st110
                                    · skip
                                      rw [if_pos (by rfl)]
                                      refine wp_alloc_drum rfl zero_Drum ?_
                                      have hU := Var.new u (drumV zD) 38
                                      obtain ⟨q, hg⟩ : ∃ g : Nat, g = u.heap.size := ⟨_, rfl⟩
                                      have hql : w13.heap.size ≤ q := by rw [hg]; exact hHeld.size
                                      rw [← hg] at hU ⊢
                                      refine hK.out _ _ (balloc hHeld (.cells (drumV zD) 38)) (fun hHeld => ?_)
                                      clear hK K
                                      try simp only [Act.put, List.setIfInBounds_toArray, List.set_cons_zero, List.set_cons_succ]
                                      obtain ⟨v, hv⟩ : ∃ x, x = u.alloc (.cells (drumV zD) 38) := ⟨_, rfl⟩
                                      have oz := ox.alloc (.cells (drumV zD) 38)
                                      rw [← hv] at hHeld hU oz ⊢
                                      clear hv hg
                                      have J := And.intro hHeld (And.intro oz (And.intro hU (hql)))
                                      clear hHeld hU hql oz ox
                                      revert J
                                      revert q
                                      revert kx
                                      revert Ax
                                      revert v
                                      exact st101
                                · skip
                                  intro u g J
                                  obtain ⟨hHeld, hV, hgl⟩ := J
                                  refine wpAnyH_ready (rs := [1, 12]) (by kernel_rfl) (by simp) ?_
                                  refine readyL rfl (fun K hK => ?_) (readyL rfl (fun K hK => ?_) AllReadyH.nil)
                                  · skip
                                    go_simp
                                    refine (c_toFrame sf Af kf f _ (hf.below (bstep B13 hHeld)) hLf).mono ?_
                                    rintro e v ⟨Ax, kx, rfl, oy, hbk⟩
                                    go_wp2_with fail
                                    refine hK.out _ _ (bstep hHeld hbk) (fun hHeld => ?_)
                                    clear hK K
                                    try simp only [Act.put, List.setIfInBounds_toArray, List.set_cons_zero, List.set_cons_succ]
                                    have oz := oy.at_
                                    have hV2 := hV.below hbk
                                    have J := And.intro hHeld (And.intro oz (And.intro hV2 (hgl)))
                                    clear hbk hHeld oy oz hV2 hV hgl
                                    revert J
                                    revert g
                                    revert kx
                                    revert Ax
                                    revert v
                                    exact st110
                                  · skip
                                    rw [if_pos (by rfl)]
                                    refine wp_alloc_drum rfl zero_Drum ?_
                                    have hU := Var.new u (drumV zD) 38
                                    obtain ⟨q, hg⟩ : ∃ g : Nat, g = u.heap.size := ⟨_, rfl⟩
                                    have hql : w13.heap.size ≤ q := by rw [hg]; exact hHeld.size
                                    have hgq : g ≠ q := by have := hV.lt; omega
                                    rw [← hg] at hU ⊢
                                    refine hK.out _ _ (balloc hHeld (.cells (drumV zD) 38)) (fun hHeld => ?_)
                                    clear hK K
                                    try simp only [Act.put, List.setIfInBounds_toArray, List.set_cons_zero, List.set_cons_succ]
                                    obtain ⟨v, hv⟩ : ∃ x, x = u.alloc (.cells (drumV zD) 38) := ⟨_, rfl⟩
                                    have hV2 := hV.old (.cells (drumV zD) 38)
                                    rw [← hv] at hHeld hU hV2 ⊢
                                    clear hv hg
                                    have J := And.intro hHeld (And.intro hV2 (And.intro hgl (And.intro hU (And.intro hql (hgq)))))
                                    clear hHeld hU hql hV2 hgq hV hgl
                                    revert J
                                    revert q
                                    revert g
                                    revert v
                                    exact st011
                              · skip
                                intro u q J
                                obtain ⟨hHeld, hU, hql⟩ := J
                                refine wpAnyH_ready (rs := [1, 11]) (by kernel_rfl) (by simp) ?_
                                refine readyL rfl (fun K hK => ?_) (readyL rfl (fun K hK => ?_) AllReadyH.nil)
                                · skip
                                  go_simp
                                  refine (c_toFrame sf Af kf f _ (hf.below (bstep B13 hHeld)) hLf).mono ?_
                                  rintro e v ⟨Ax, kx, rfl, oy, hbk⟩
                                  go_wp2_with fail
                                  refine hK.out _ _ (bstep hHeld hbk) (fun hHeld => ?_)
                                  clear hK K
                                  try simp only [Act.put, List.setIfInBounds_toArray, List.set_cons_zero, List.set_cons_succ]
                                  have oz := oy.at_
                                  have hU2 := hU.below hbk
                                  have J := And.intro hHeld (And.intro oz (And.intro hU2 (hql)))
                                  clear hbk hHeld oy oz hU2 hU hql
                                  revert J
                                  revert q
                                  revert kx
                                  revert Ax
                                  revert v
                                  exact st101
                                · skip
                                  go_simp
                                  have hV := Var.new u #[.int .i16 0, .slice none 0 0] 37
                                  obtain ⟨g, hg⟩ : ∃ g : Nat, g = u.heap.size := ⟨_, rfl⟩
                                  have hgl : w13.heap.size ≤ g := by rw [hg]; exact hHeld.size
                                  have hgq : g ≠ q := by have := hU.lt; omega
                                  rw [← hg] at hV ⊢
                                  refine hK.out _ _ (balloc hHeld (.cells #[.int .i16 0, .slice none 0 0] 37)) (fun hHeld => ?_)
                                  clear hK K
                                  try simp only [Act.put, List.setIfInBounds_toArray, List.set_cons_zero, List.set_cons_succ]
                                  obtain ⟨v, hv⟩ : ∃ x, x = u.alloc (.cells #[.int .i16 0, .slice none 0 0] 37) := ⟨_, rfl⟩
                                  have hU2 := hU.old (.cells #[.int .i16 0, .slice none 0 0] 37)
                                  rw [← hv] at hHeld hV hU2 ⊢
                                  clear hv hg
                                  have J := And.intro hHeld (And.intro hV (And.intro hgl (And.intro hU2 (And.intro hql (hgq)))))
                                  clear hHeld hV hgl hU2 hgq hU hql
                                  revert J
                                  revert q
                                  revert g
                                  revert v
                                  exact st011
                            · skip
                              intro u Ax kx J
                              obtain ⟨hHeld, ox⟩ := J
                              refine wpAnyH_ready (rs := [6, 11, 12]) (by kernel_rfl) (by simp) ?_
                              refine readyL rfl (fun K hK => ?_) (readyL rfl (fun K hK => ?_) (readyL rfl (fun K hK => ?_) AllReadyH.nil))
                              · skip
                                go_simp
                                refine (himpl Ax kx _ ox).mono ?_
                                rintro e v ⟨Az, cz, rfl, oy, hbk⟩
                                go_wp2_with fail
                                replace oy := oy.base_le hHeld.size
                                refine hK.out _ _ (bstep hHeld hbk) (fun hHeld => ?_)
                                clear hK K
                                try simp only [Act.put, List.setIfInBounds_toArray, List.set_cons_zero, List.set_cons_succ]
                                refine takeL (i := 7) (v := .tuple #[.agg #[.int .i16 SS, .slice Az FF.length cz], .agg (drumV DD), .int .i64 CC]) rfl (by kernel_rfl) (by kernel_rfl) (by kernel_rfl) (fun _ _ _ h => h) (Or.inl ⟨by rfl, by intro w' hS; clear hS; go_simp⟩) hHeld ?_
                                simp only [Act.put, List.setIfInBounds_toArray, List.set_cons_zero, List.set_cons_succ]
                                refine takeL (i := 8) (v := .agg #[.int .i16 SS, .slice Az FF.length cz]) rfl (by kernel_rfl) (by kernel_rfl) (by kernel_rfl) (fun _ _ _ h => h) (Or.inl ⟨by rfl, by intro w' hS; clear hS; go_simp⟩) hHeld ?_
                                simp only [Act.put, List.setIfInBounds_toArray, List.set_cons_zero, List.set_cons_succ]
                                refine takeL (i := 9) (v := .agg (drumV DD)) rfl (by kernel_rfl) (by kernel_rfl) (by kernel_rfl) (fun _ _ _ h => h) (Or.inl ⟨by rfl, by intro w' hS; clear hS; go_simp⟩) hHeld ?_
                                simp only [Act.put, List.setIfInBounds_toArray, List.set_cons_zero, List.set_cons_succ]
                                refine takeL (i := 10) (v := .int .i64 CC) rfl (by kernel_rfl) (by kernel_rfl) (by kernel_rfl) (fun _ _ _ h => h) (Or.inl ⟨by rfl, by intro w' hS; clear hS; go_simp⟩) hHeld ?_
                                simp only [Act.put, List.setIfInBounds_toArray, List.set_cons_zero, List.set_cons_succ]
                                have J := And.intro hHeld (oy)
                                clear hbk hHeld oy ox
                                revert J
                                revert cz
                                revert Az
                                revert kx
                                revert Ax
                                revert v
                                exact st300
                              · skip
                                go_simp
                                have hV := Var.new u #[.int .i16 0, .slice none 0 0] 37
                                obtain ⟨g, hg⟩ : ∃ g : Nat, g = u.heap.size := ⟨_, rfl⟩
                                have hgl : w13.heap.size ≤ g := by rw [hg]; exact hHeld.size
                                rw [← hg] at hV ⊢
                                refine hK.out _ _ (balloc hHeld (.cells #[.int .i16 0, .slice none 0 0] 37)) (fun hHeld => ?_)
                                clear hK K
                                try simp only [Act.put, List.setIfInBounds_toArray, List.set_cons_zero, List.set_cons_succ]
                                obtain ⟨v, hv⟩ : ∃ x, x = u.alloc (.cells #[.int .i16 0, .slice none 0 0] 37) := ⟨_, rfl⟩
                                have oz := ox.alloc (.cells #[.int .i16 0, .slice none 0 0] 37)
                                rw [← hv] at hHeld hV oz ⊢
                                clear hv hg
                                have J := And.intro hHeld (And.intro oz (And.intro hV (hgl)))
                                clear hHeld hV hgl oz ox
                                revert J
                                revert g
                                revert kx
                                revert Ax
                                revert v
                                exact st210
                              · skip
                                rw [if_pos (by rfl)]
                                refine wp_alloc_drum rfl zero_Drum ?_
                                have hU := Var.new u (drumV zD) 38
                                obtain ⟨q, hg⟩ : ∃ g : Nat, g = u.heap.size := ⟨_, rfl⟩
                                have hql : w13.heap.size ≤ q := by rw [hg]; exact hHeld.size
                                rw [← hg] at hU ⊢
                                refine hK.out _ _ (balloc hHeld (.cells (drumV zD) 38)) (fun hHeld => ?_)
                                clear hK K
                                try simp only [Act.put, List.setIfInBounds_toArray, List.set_cons_zero, List.set_cons_succ]
                                obtain ⟨v, hv⟩ : ∃ x, x = u.alloc (.cells (drumV zD) 38) := ⟨_, rfl⟩
                                have oz := ox.alloc (.cells (drumV zD) 38)
                                rw [← hv] at hHeld hU oz ⊢
                                clear hv hg
                                have J := And.intro hHeld (And.intro oz (And.intro hU (hql)))
                                clear hHeld hU hql oz ox
                                revert J
                                revert q
                                revert kx
                                revert Ax
                                revert v
                                exact st201
                          · skip
                            intro u Ax kx g J
                            obtain ⟨hHeld, ox, hV, hgl⟩ := J
                            refine wpAnyH_ready (rs := [3, 12]) (by kernel_rfl) (by simp) ?_
                            refine readyL rfl (fun K hK => ?_) (readyL rfl (fun K hK => ?_) AllReadyH.nil)
                            · skip
                              go_simp
                              refine (c_toDrum d _ hd).mono ?_
                              rintro e v ⟨rfl, hbk⟩
                              go_wp2_with fail
                              refine hK.out _ _ (bstep hHeld hbk) (fun hHeld => ?_)
                              clear hK K
                              try simp only [Act.put, List.setIfInBounds_toArray, List.set_cons_zero, List.set_cons_succ]
                              have oz := ox.below hbk
                              have hV2 := hV.below hbk
                              have J := And.intro hHeld (And.intro oz (And.intro hV2 (hgl)))
                              clear hbk hHeld oz hV2 ox hV hgl
                              revert J
                              revert g
                              revert kx
                              revert Ax
                              revert v
                              exact st210
                            · skip
                              rw [if_pos (by rfl)]
                              refine wp_alloc_drum rfl zero_Drum ?_
                              have hU := Var.new u (drumV zD) 38
                              obtain ⟨q, hg⟩ : ∃ g : Nat, g = u.heap.size := ⟨_, rfl⟩
                              have hql : w13.heap.size ≤ q := by rw [hg]; exact hHeld.size
                              have hgq : g ≠ q := by have := hV.lt; omega
                              rw [← hg] at hU ⊢
                              refine hK.out _ _ (balloc hHeld (.cells (drumV zD) 38)) (fun hHeld => ?_)
                              clear hK K
                              try simp only [Act.put, List.setIfInBounds_toArray, List.set_cons_zero, List.set_cons_succ]
                              obtain ⟨v, hv⟩ : ∃ x, x = u.alloc (.cells (drumV zD) 38) := ⟨_, rfl⟩
                              have oz := ox.alloc (.cells (drumV zD) 38)
                              have hV2 := hV.old (.cells (drumV zD) 38)
                              rw [← hv] at hHeld hU oz hV2 ⊢
                              clear hv hg
                              have J := And.intro hHeld (And.intro oz (And.intro hV2 (And.intro hgl (And.intro hU (And.intro hql (hgq))))))
                              clear hHeld hU hql oz hV2 hgq ox hV hgl
                              revert J
                              revert q
                              revert g
                              revert kx
                              revert Ax
                              revert v
                              exact st111
                        · skip
                          intro u Ax kx q J
                          obtain ⟨hHeld, ox, hU, hql⟩ := J
                          refine wpAnyH_ready (rs := [3, 11]) (by kernel_rfl) (by simp) ?_
                          refine readyL rfl (fun K hK => ?_) (readyL rfl (fun K hK => ?_) AllReadyH.nil)
                          · skip
                            go_simp
                            refine (c_toDrum d _ hd).mono ?_
                            rintro e v ⟨rfl, hbk⟩
                            go_wp2_with fail
                            refine hK.out _ _ (bstep hHeld hbk) (fun hHeld => ?_)
                            clear hK K
                            try simp only [Act.put, List.setIfInBounds_toArray, List.set_cons_zero, List.set_cons_succ]
                            have oz := ox.below hbk
                            have hU2 := hU.below hbk
                            have J := And.intro hHeld (And.intro oz (And.intro hU2 (hql)))
                            clear hbk hHeld oz hU2 ox hU hql
                            revert J
                            revert q
                            revert kx
                            revert Ax
                            revert v
                            exact st201
                          · skip
                            go_simp
                            have hV := Var.new u #[.int .i16 0, .slice none 0 0] 37
                            obtain ⟨g, hg⟩ : ∃ g : Nat, g = u.heap.size := ⟨_, rfl⟩
                            have hgl : w13.heap.size ≤ g := by rw [hg]; exact hHeld.size
                            have hgq : g ≠ q := by have := hU.lt; omega
                            rw [← hg] at hV ⊢
                            refine hK.out _ _ (balloc hHeld (.cells #[.int .i16 0, .slice none 0 0] 37)) (fun hHeld => ?_)
                            clear hK K
                            try simp only [Act.put, List.setIfInBounds_toArray, List.set_cons_zero, List.set_cons_succ]
                            obtain ⟨v, hv⟩ : ∃ x, x = u.alloc (.cells #[.int .i16 0, .slice none 0 0] 37) := ⟨_, rfl⟩
                            have oz := ox.alloc (.cells #[.int .i16 0, .slice none 0 0] 37)
                            have hU2 := hU.old (.cells #[.int .i16 0, .slice none 0 0] 37)
                            rw [← hv] at hHeld hV oz hU2 ⊢
                            clear hv hg
                            have J := And.intro hHeld (And.intro oz (And.intro hV (And.intro hgl (And.intro hU2 (And.intro hql (hgq))))))
                            clear hHeld hV hgl oz hU2 hgq ox hU hql
                            revert J
                            revert q
                            revert g
                            revert kx
                            revert Ax
                            revert v
                            exact st111
                      · skip
                        intro u g q J
                        obtain ⟨hHeld, hV, hgl, hU, hql, hgq⟩ := J
                        refine wpAnyH_ready (rs := [1]) (by kernel_rfl) (by simp) ?_
                        refine readyL rfl (fun K hK => ?_) AllReadyH.nil
                        · skip
                          go_simp
                          refine (c_toFrame sf Af kf f _ (hf.below (bstep B13 hHeld)) hLf).mono ?_
                          rintro e v ⟨Ax, kx, rfl, oy, hbk⟩
                          go_wp2_with fail
                          refine hK.out _ _ (bstep hHeld hbk) (fun hHeld => ?_)
                          clear hK K
                          try simp only [Act.put, List.setIfInBounds_toArray, List.set_cons_zero, List.set_cons_succ]
                          have oz := oy.at_
                          have hV2 := hV.below hbk
                          have hU2 := hU.below hbk
                          have J := And.intro hHeld (And.intro oz (And.intro hV2 (And.intro hgl (And.intro hU2 (And.intro hql (hgq))))))
                          clear hbk hHeld oy oz hV2 hU2 hV hgl hU hql hgq
                          revert J
                          revert q
                          revert g
                          revert kx
                          revert Ax
                          revert v
                          exact st111
                    · skip
                      intro u Ax kx Az cz J
                      obtain ⟨hHeld, ox⟩ := J
                      refine wpAnyH_ready (rs := [11, 12]) (by kernel_rfl) (by simp) ?_
                      refine readyL rfl (fun K hK => ?_) (readyL rfl (fun K hK => ?_) AllReadyH.nil)
                      · skip
                        go_simp
                        have hV := Var.new u #[.int .i16 0, .slice none 0 0] 37
                        obtain ⟨g, hg⟩ : ∃ g : Nat, g = u.heap.size := ⟨_, rfl⟩
                        have hgl : w13.heap.size ≤ g := by rw [hg]; exact hHeld.size
                        rw [← hg] at hV ⊢
                        refine hK.out _ _ (balloc hHeld (.cells #[.int .i16 0, .slice none 0 0] 37)) (fun hHeld => ?_)
                        clear hK K
                        try simp only [Act.put, List.setIfInBounds_toArray, List.set_cons_zero, List.set_cons_succ]
                        obtain ⟨v, hv⟩ : ∃ x, x = u.alloc (.cells #[.int .i16 0, .slice none 0 0] 37) := ⟨_, rfl⟩
                        have oz := ox.alloc (.cells #[.int .i16 0, .slice none 0 0] 37)
                        rw [← hv] at hHeld hV oz ⊢
                        clear hv hg
                        have J := And.intro hHeld (And.intro oz (And.intro hV (hgl)))
                        clear hHeld hV hgl oz ox
                        revert J
                        revert g
                        revert cz
                        revert Az
                        revert kx
                        revert Ax
                        revert v
                        exact st310
                      · skip
                        rw [if_pos (by rfl)]
                        refine wp_alloc_drum rfl zero_Drum ?_
                        have hU := Var.new u (drumV zD) 38
                        obtain ⟨q, hg⟩ : ∃ g : Nat, g = u.heap.size := ⟨_, rfl⟩
                        have hql : w13.heap.size ≤ q := by rw [hg]; exact hHeld.size
                        rw [← hg] at hU ⊢
                        refine hK.out _ _ (balloc hHeld (.cells (drumV zD) 38)) (fun hHeld => ?_)
                        clear hK K
                        try simp only [Act.put, List.setIfInBounds_toArray, List.set_cons_zero, List.set_cons_succ]
                        obtain ⟨v, hv⟩ : ∃ x, x = u.alloc (.cells (drumV zD) 38) := ⟨_, rfl⟩
                        have oz := ox.alloc (.cells (drumV zD) 38)
                        rw [← hv] at hHeld hU oz ⊢
                        clear hv hg
                        have J := And.intro hHeld (And.intro oz (And.intro hU (hql)))
                        clear hHeld hU hql oz ox
                        revert J
                        revert q
                        revert cz
                        revert Az
                        revert kx
                        revert Ax
                        revert v
                        exact st301
                  · skip
                    intro u Ax kx g J
                    obtain ⟨hHeld, ox, hV, hgl⟩ := J
                    refine wpAnyH_ready (rs := [6, 12]) (by kernel_rfl) (by simp) ?_
                    refine readyL rfl (fun K hK => ?_) (readyL rfl (fun K hK => ?_) AllReadyH.nil)
                    · skip
                      go_simp
                      refine (himpl Ax kx _ ox).mono ?_
                      rintro e v ⟨Az, cz, rfl, oy, hbk⟩
                      go_wp2_with fail
                      replace oy := oy.base_le hHeld.size
                      refine hK.out _ _ (bstep hHeld hbk) (fun hHeld => ?_)
                      clear hK K
                      try simp only [Act.put, List.setIfInBounds_toArray, List.set_cons_zero, List.set_cons_succ]
                      have hV2 := hV.below hbk
                      refine takeL (i := 7) (v := .tuple #[.agg #[.int .i16 SS, .slice Az FF.length cz], .agg (drumV DD), .int .i64 CC]) rfl (by kernel_rfl) (by kernel_rfl) (by kernel_rfl) (fun _ _ _ h => h) (Or.inl ⟨by rfl, by intro w' hS; clear hS; go_simp⟩) hHeld ?_
                      simp only [Act.put, List.setIfInBounds_toArray, List.set_cons_zero, List.set_cons_succ]
                      refine takeL (i := 8) (v := .agg #[.int .i16 SS, .slice Az FF.length cz]) rfl (by kernel_rfl) (by kernel_rfl) (by kernel_rfl) (fun _ _ _ h => h) (Or.inl ⟨by rfl, by intro w' hS; clear hS; go_simp⟩) hHeld ?_
                      simp only [Act.put, List.setIfInBounds_toArray, List.set_cons_zero, List.set_cons_succ]
                      refine takeL (i := 9) (v := .agg (drumV DD)) rfl (by kernel_rfl) (by kernel_rfl) (by kernel_rfl) (fun _ _ _ h => h) (Or.inl ⟨by rfl, by intro w' hS; clear hS; go_simp⟩) hHeld ?_
                      simp only [Act.put, List.setIfInBounds_toArray, List.set_cons_zero, List.set_cons_succ]
                      refine takeL (i := 10) (v := .int .i64 CC) rfl (by kernel_rfl) (by kernel_rfl) (by kernel_rfl) (fun _ _ _ h => h) (Or.inl ⟨by rfl, by intro w' hS; clear hS; go_simp⟩) hHeld ?_
                      simp only [Act.put, List.setIfInBounds_toArray, List.set_cons_zero, List.set_cons_succ]
                      have J := And.intro hHeld (And.intro oy (And.intro hV2 (hgl)))
                      clear hbk hHeld oy hV2 ox hV hgl
                      revert J
                      revert g
                      revert cz
                      revert Az
                      revert kx
                      revert Ax
                      revert v
                      exact st310
                    · skip
                      rw [if_pos (by rfl)]
                      refine wp_alloc_drum rfl zero_Drum ?_
                      have hU := Var.new u (drumV zD) 38
                      obtain ⟨q, hg⟩ : ∃ g : Nat, g = u.heap.size := ⟨_, rfl⟩
                      have hql : w13.heap.size ≤ q := by rw [hg]; exact hHeld.size
                      have hgq : g ≠ q := by have := hV.lt; omega
                      rw [← hg] at hU ⊢
                      refine hK.out _ _ (balloc hHeld (.cells (drumV zD) 38)) (fun hHeld => ?_)
                      clear hK K
                      try simp only [Act.put, List.setIfInBounds_toArray, List.set_cons_zero, List.set_cons_succ]
                      obtain ⟨v, hv⟩ : ∃ x, x = u.alloc (.cells (drumV zD) 38) := ⟨_, rfl⟩
                      have oz := ox.alloc (.cells (drumV zD) 38)
                      have hV2 := hV.old (.cells (drumV zD) 38)
                      rw [← hv] at hHeld hU oz hV2 ⊢
                      clear hv hg
                      have J := And.intro hHeld (And.intro oz (And.intro hV2 (And.intro hgl (And.intro hU (And.intro hql (hgq))))))
                      clear hHeld hU hql oz hV2 hgq ox hV hgl
                      revert J
                      revert q
                      revert g
                      revert kx
                      revert Ax
                      revert v
                      exact st211
                · skip
                  intro u Ax kx q J
                  obtain ⟨hHeld, ox, hU, hql⟩ := J
                  refine wpAnyH_ready (rs := [6, 11]) (by kernel_rfl) (by simp) ?_
                  refine readyL rfl (fun K hK => ?_) (readyL rfl (fun K hK => ?_) AllReadyH.nil)
                  · skip
                    go_simp
                    refine (himpl Ax kx _ ox).mono ?_
                    rintro e v ⟨Az, cz, rfl, oy, hbk⟩
                    go_wp2_with fail
                    replace oy := oy.base_le hHeld.size
                    refine hK.out _ _ (bstep hHeld hbk) (fun hHeld => ?_)
                    clear hK K
                    try simp only [Act.put, List.setIfInBounds_toArray, List.set_cons_zero, List.set_cons_succ]
                    have hU2 := hU.below hbk
                    refine takeL (i := 7) (v := .tuple #[.agg #[.int .i16 SS, .slice Az FF.length cz], .agg (drumV DD), .int .i64 CC]) rfl (by kernel_rfl) (by kernel_rfl) (by kernel_rfl) (fun _ _ _ h => h) (Or.inl ⟨by rfl, by intro w' hS; clear hS; go_simp⟩) hHeld ?_
                    simp only [Act.put, List.setIfInBounds_toArray, List.set_cons_zero, List.set_cons_succ]
                    refine takeL (i := 8) (v := .agg #[.int .i16 SS, .slice Az FF.length cz]) rfl (by kernel_rfl) (by kernel_rfl) (by kernel_rfl) (fun _ _ _ h => h) (Or.inl ⟨by rfl, by intro w' hS; clear hS; go_simp⟩) hHeld ?_
                    simp only [Act.put, List.setIfInBounds_toArray, List.set_cons_zero, List.set_cons_succ]
                    refine takeL (i := 9) (v := .agg (drumV DD)) rfl (by kernel_rfl) (by kernel_rfl) (by kernel_rfl) (fun _ _ _ h => h) (Or.inl ⟨by rfl, by intro w' hS; clear hS; go_simp⟩) hHeld ?_
                    simp only [Act.put, List.setIfInBounds_toArray, List.set_cons_zero, List.set_cons_succ]
                    refine takeL (i := 10) (v := .int .i64 CC) rfl (by kernel_rfl) (by kernel_rfl) (by kernel_rfl) (fun _ _ _ h => h) (Or.inl ⟨by rfl, by intro w' hS; clear hS; go_simp⟩) hHeld ?_
                    simp only [Act.put, List.setIfInBounds_toArray, List.set_cons_zero, List.set_cons_succ]
                    have J := And.intro hHeld (And.intro oy (And.intro hU2 (hql)))
                    clear hbk hHeld oy hU2 ox hU hql
                    revert J
                    revert q
                    revert cz
                    revert Az
                    revert kx
                    revert Ax
                    revert v
                    exact st301
                  · skip
                    go_simp
                    have hV := Var.new u #[.int .i16 0, .slice none 0 0] 37
                    obtain ⟨g, hg⟩ : ∃ g : Nat, g = u.heap.size := ⟨_, rfl⟩
                    have hgl : w13.heap.size ≤ g := by rw [hg]; exact hHeld.size
                    have hgq : g ≠ q := by have := hU.lt; omega
                    rw [← hg] at hV ⊢
                    refine hK.out _ _ (balloc hHeld (.cells #[.int .i16 0, .slice none 0 0] 37)) (fun hHeld => ?_)
                    clear hK K
                    try simp only [Act.put, List.setIfInBounds_toArray, List.set_cons_zero, List.set_cons_succ]
                    obtain ⟨v, hv⟩ : ∃ x, x = u.alloc (.cells #[.int .i16 0, .slice none 0 0] 37) := ⟨_, rfl⟩
                    have oz := ox.alloc (.cells #[.int .i16 0, .slice none 0 0] 37)
                    have hU2 := hU.old (.cells #[.int .i16 0, .slice none 0 0] 37)
                    rw [← hv] at hHeld hV oz hU2 ⊢
                    clear hv hg
                    have J := And.intro hHeld (And.intro oz (And.intro hV (And.intro hgl (And.intro hU2 (And.intro hql (hgq))))))
                    clear hHeld hV hgl oz hU2 hgq ox hU hql
                    revert J
                    revert q
                    revert g
                    revert kx
                    revert Ax
                    revert v
                    exact st211
              · skip
                intro u Ax kx g q J
                obtain ⟨hHeld, ox, hV, hgl, hU, hql, hgq⟩ := J
                refine wpAnyH_ready (rs := [3]) (by kernel_rfl) (by simp) ?_
                refine readyL rfl (fun K hK => ?_) AllReadyH.nil
                · skip
                  go_simp
                  refine (c_toDrum d _ hd).mono ?_
                  rintro e v ⟨rfl, hbk⟩
                  go_wp2_with fail
                  refine hK.out _ _ (bstep hHeld hbk) (fun hHeld => ?_)
                  clear hK K
                  try simp only [Act.put, List.setIfInBounds_toArray, List.set_cons_zero, List.set_cons_succ]
                  have oz := ox.below hbk
                  have hV2 := hV.below hbk
                  have hU2 := hU.below hbk
                  have J := And.intro hHeld (And.intro oz (And.intro hV2 (And.intro hgl (And.intro hU2 (And.intro hql (hgq))))))
                  clear hbk hHeld oz hV2 hU2 ox hV hgl hU hql hgq
                  revert J
                  revert q
                  revert g
                  revert kx
                  revert Ax
                  revert v
                  exact st211
            · skip
              intro u Ax kx Az cz g J
              obtain ⟨hHeld, ox, hV, hgl⟩ := J
              refine wpAnyH_ready (rs := [12]) (by kernel_rfl) (by simp) ?_
              refine readyL rfl (fun K hK => ?_) AllReadyH.nil
              · skip
                rw [if_pos (by rfl)]
                refine wp_alloc_drum rfl zero_Drum ?_
                have hU := Var.new u (drumV zD) 38
                obtain ⟨q, hg⟩ : ∃ g : Nat, g = u.heap.size := ⟨_, rfl⟩
                have hql : w13.heap.size ≤ q := by rw [hg]; exact hHeld.size
                have hgq : g ≠ q := by have := hV.lt; omega
                rw [← hg] at hU ⊢
                refine hK.out _ _ (balloc hHeld (.cells (drumV zD) 38)) (fun hHeld => ?_)
                clear hK K
                try simp only [Act.put, List.setIfInBounds_toArray, List.set_cons_zero, List.set_cons_succ]
                obtain ⟨v, hv⟩ : ∃ x, x = u.alloc (.cells (drumV zD) 38) := ⟨_, rfl⟩
                have oz := ox.alloc (.cells (drumV zD) 38)
                have hV2 := hV.old (.cells (drumV zD) 38)
                rw [← hv] at hHeld hU oz hV2 ⊢
                clear hv hg
                have J := And.intro hHeld (And.intro oz (And.intro hV2 (And.intro hgl (And.intro hU (And.intro hql (hgq))))))
                clear hHeld hU hql oz hV2 hgq ox hV hgl
                revert J
                revert q
                revert g
                revert cz
                revert Az
                revert kx
                revert Ax
                revert v
                exact st311
          · skip
            intro u Ax kx Az cz q J
            obtain ⟨hHeld, ox, hU, hql⟩ := J
            refine wpAnyH_ready (rs := [11]) (by kernel_rfl) (by simp) ?_
            refine readyL rfl (fun K hK => ?_) AllReadyH.nil
            · skip
              go_simp
              have hV := Var.new u #[.int .i16 0, .slice none 0 0] 37
              obtain ⟨g, hg⟩ : ∃ g : Nat, g = u.heap.size := ⟨_, rfl⟩
              have hgl : w13.heap.size ≤ g := by rw [hg]; exact hHeld.size
              have hgq : g ≠ q := by have := hU.lt; omega
              rw [← hg] at hV ⊢
              refine hK.out _ _ (balloc hHeld (.cells #[.int .i16 0, .slice none 0 0] 37)) (fun hHeld => ?_)
              clear hK K
              try simp only [Act.put, List.setIfInBounds_toArray, List.set_cons_zero, List.set_cons_succ]
              obtain ⟨v, hv⟩ : ∃ x, x = u.alloc (.cells #[.int .i16 0, .slice none 0 0] 37) := ⟨_, rfl⟩
              have oz := ox.alloc (.cells #[.int .i16 0, .slice none 0 0] 37)
              have hU2 := hU.old (.cells #[.int .i16 0, .slice none 0 0] 37)
              rw [← hv] at hHeld hV oz hU2 ⊢
              clear hv hg
              have J := And.intro hHeld (And.intro oz (And.intro hV (And.intro hgl (And.intro hU2 (And.intro hql (hgq))))))
              clear hHeld hV hgl oz hU2 hgq ox hU hql
              revert J
              revert q
              revert g
              revert cz
              revert Az
              revert kx
              revert Ax
              revert v
              exact st311
        · skip
          intro u Ax kx g q J
          obtain ⟨hHeld, ox, hV, hgl, hU, hql, hgq⟩ := J
          refine wpAnyH_ready (rs := [6]) (by kernel_rfl) (by simp) ?_
          refine readyL rfl (fun K hK => ?_) AllReadyH.nil
          · skip
            go_simp
            refine (himpl Ax kx _ ox).mono ?_
            rintro e v ⟨Az, cz, rfl, oy, hbk⟩
            go_wp2_with fail
            replace oy := oy.base_le hHeld.size
            refine hK.out _ _ (bstep hHeld hbk) (fun hHeld => ?_)
            clear hK K
            try simp only [Act.put, List.setIfInBounds_toArray, List.set_cons_zero, List.set_cons_succ]
            have hV2 := hV.below hbk
            have hU2 := hU.below hbk
            refine takeL (i := 7) (v := .tuple #[.agg #[.int .i16 SS, .slice Az FF.length cz], .agg (drumV DD), .int .i64 CC]) rfl (by kernel_rfl) (by kernel_rfl) (by kernel_rfl) (fun _ _ _ h => h) (Or.inl ⟨by rfl, by intro w' hS; clear hS; go_simp⟩) hHeld ?_
            simp only [Act.put, List.setIfInBounds_toArray, List.set_cons_zero, List.set_cons_succ]
            refine takeL (i := 8) (v := .agg #[.int .i16 SS, .slice Az FF.length cz]) rfl (by kernel_rfl) (by kernel_rfl) (by kernel_rfl) (fun _ _ _ h => h) (Or.inl ⟨by rfl, by intro w' hS; clear hS; go_simp⟩) hHeld ?_
            simp only [Act.put, List.setIfInBounds_toArray, List.set_cons_zero, List.set_cons_succ]
            refine takeL (i := 9) (v := .agg (drumV DD)) rfl (by kernel_rfl) (by kernel_rfl) (by kernel_rfl) (fun _ _ _ h => h) (Or.inl ⟨by rfl, by intro w' hS; clear hS; go_simp⟩) hHeld ?_
            simp only [Act.put, List.setIfInBounds_toArray, List.set_cons_zero, List.set_cons_succ]
            refine takeL (i := 10) (v := .int .i64 CC) rfl (by kernel_rfl) (by kernel_rfl) (by kernel_rfl) (fun _ _ _ h => h) (Or.inl ⟨by rfl, by intro w' hS; clear hS; go_simp⟩) hHeld ?_
            simp only [Act.put, List.setIfInBounds_toArray, List.set_cons_zero, List.set_cons_succ]
            have J := And.intro hHeld (And.intro oy (And.intro hV2 (And.intro hgl (And.intro hU2 (And.intro hql (hgq))))))
            clear hbk hHeld oy hV2 hU2 ox hV hgl hU hql hgq
            revert J
            revert q
            revert g
            revert cz
            revert Az
            revert kx
            revert Ax
            revert v
            exact st311
      · skip
        intro u Ax kx Az cz g q J
        obtain ⟨hHeld, ox, hV, hgl, hU, hql, hgq⟩ := J
        refine wpAnyH_ready (rs := [13]) (by kernel_rfl) (by simp) ?_
        refine readyL rfl (fun K hK => ?_) AllReadyH.nil
        have z1 := hV.cell (i := 0) rfl
        have z2 := hV.cell (i := 1) rfl
        have z3 := hV.frozen 0
        have z4 := hV.frozen 1
        go_simp
        refine hK.out _ _ (bset (bset hHeld (by simp <;> omega) _) (by simp <;> omega) _) (fun hHeld => ?_)
        clear hK K
        try simp only [Act.put, List.setIfInBounds_toArray, List.set_cons_zero, List.set_cons_succ]
        clear z1 z2 z3 z4
        have hV2 := (hV.set 0 (.int .i16 SS)).set 1 (.slice Az FF.length cz)
        have hU2 := (hU.other (p := ⟨g, 0, none⟩) (by simpa using hgq.symm) (.int .i16 SS)).other (p := ⟨g, 1, none⟩) (by simpa using hgq.symm) (.slice Az FF.length cz)
        have oy := (ox.beside hV (by decide) 0 (.int .i16 SS)).beside (hV.set 0 (.int .i16 SS)) (by decide) 1 (.slice Az FF.length cz)
        refine wpAnyH_ready (rs := [14]) (by kernel_rfl) (by simp) ?_
        refine readyL rfl (fun K hK => ?_) AllReadyH.nil
        rw [if_pos (by rfl)]
        refine wp_storeD rfl hU2 rfl rfl size_Drum hDl zD_len ?_
        have oz := oy.rowBeside hU2 (by decide) (drumV DD)
        have hV3 := hV2.rowOther (drumV DD) hgq
        have hU3 := hU2.row (drumV DD)
        refine hK.out _ _ (brow hHeld hql _) (fun hHeld => ?_)
        clear hK K
        try simp only [Act.put, List.setIfInBounds_toArray, List.set_cons_zero, List.set_cons_succ]
        refine wpAnyH_ready (rs := [15]) (by kernel_rfl) (by simp) ?_
        refine readyL rfl (fun K hK => ?_) AllReadyH.nil
        go_simp
        refine hK.out _ _ (hHeld) (fun hHeld => ?_)
        clear hK K
        try simp only [Act.put, List.setIfInBounds_toArray, List.set_cons_zero, List.set_cons_succ]
        refine wpAnyH_done (by kernel_rfl) ?_ _
        have HH := Lib.hid (And.intro oz (And.intro hV3 (And.intro hU3 hHeld)))
        clear oz hV3 hU3 hHeld hV2 hU2 oy hV hU ox
        go_wp2_with fail
        go_meet
        case rel => exact ⟨g, q, Az, cz, rfl, rfl, rfl, HH.out.2.1, HH.out.2.2.1, HH.out.1, hgl, hql, HH.out.2.2.2⟩
    obtain ⟨gX, qX, A6, c6, rfl, rfl, rfl, hV, hU, ho, hglX, hqlX, b14⟩ := hcut
    obtain ⟨w14, rfl⟩ : ∃ x, x = wc := ⟨_, rfl⟩
    have X14 := Lib.hid hV
    have XD14 := Lib.hid hU
    have OX14 := Lib.hid ho
    clear hV hU ho
    have H14 := Lib.hid (H13.out.below b14)
    have D14 := Lib.hid (D13.out.below b14)
    have Z14 := Lib.hid (Z13.out.below b14)
    have ZD14 := Lib.hid (ZD13.out.below b14)
    have OZ14 := Lib.hid (OZ13.out.below b14)
    have Y14 := Lib.hid (Y13.out.below b14)
    have OY14 := Lib.hid (OY13.out.below b14)
    have B14 := bstep B13 b14
    clear H13 D13 Z13 ZD13 OZ13 Y13 OY13
    clear b14
    have zc1 := X14.out.cell (i := 0) rfl
    have zc2 := X14.out.cell (i := 1) rfl
    have zc3 := Z14.out.cell (i := 0) rfl
    have zc4 := Z14.out.cell (i := 1) rfl
    go_wp2_with fail
    refine (c_eqFrame SS SS A6 A3 c6 c3 FF FF _ OX14.out.at_ OZ14.out.at_ hFl hFl).mono ?_
    rintro e w15 ⟨rfl, b15⟩
    rw [hE, decide_self]
    clear zc1 zc2 zc3 zc4
    have H15 := Lib.hid (H14.out.below b15)
    have D15 := Lib.hid (D14.out.below b15)
    have Z15 := Lib.hid (Z14.out.below b15)
    have ZD15 := Lib.hid (ZD14.out.below b15)
    have OZ15 := Lib.hid (OZ14.out.below b15)
    have Y15 := Lib.hid (Y14.out.below b15)
    have OY15 := Lib.hid (OY14.out.below b15)
    have X15 := Lib.hid (X14.out.below b15)
    have XD15 := Lib.hid (XD14.out.below b15)
    have OX15 := Lib.hid (OX14.out.below b15)
    have B15 := bstep B14 b15
    clear H14 D14 Z14 ZD14 OZ14 Y14 OY14 X14 XD14 OX14
    clear b15
    go_wp2_with (first | (refine wpList_loadD (by rfl) rfl XD15.out rfl Try.underlying38 size_Drum hDl ?_) | (refine wpList_loadD (by rfl) rfl ZD15.out rfl Try.underlying38 size_Drum hDl ?_))
    refine (c_eqDrum DD DD _ hDl hDl).mono ?_
    rintro e w16 ⟨rfl, b16⟩
    rw [decide_self]
    have H16 := Lib.hid (H15.out.below b16)
    have D16 := Lib.hid (D15.out.below b16)
    have Z16 := Lib.hid (Z15.out.below b16)
    have ZD16 := Lib.hid (ZD15.out.below b16)
    have OZ16 := Lib.hid (OZ15.out.below b16)
    have Y16 := Lib.hid (Y15.out.below b16)
    have OY16 := Lib.hid (OY15.out.below b16)
    have X16 := Lib.hid (X15.out.below b16)
    have XD16 := Lib.hid (XD15.out.below b16)
    have OX16 := Lib.hid (OX15.out.below b16)
    have B16 := bstep B15 b16
    clear H15 D15 Z15 ZD15 OZ15 Y15 OY15 X15 XD15 OX15
    clear b16
    have zc1 := Y16.out.cell (i := 0) rfl
    have zc2 := Y16.out.cell (i := 1) rfl
    go_wp2_with fail
    refine (c_heldFrameH SS A5 c5 FF.length 1 _ OY16.out.at_ hFl (by omega)).mono ?_
    rintro e w17 ⟨rfl, b17⟩
    clear zc1 zc2
    have H17 := Lib.hid (H16.out.below b17)
    have D17 := Lib.hid (D16.out.below b17)
    have Z17 := Lib.hid (Z16.out.below b17)
    have ZD17 := Lib.hid (ZD16.out.below b17)
    have OZ17 := Lib.hid (OZ16.out.below b17)
    have Y17 := Lib.hid (Y16.out.below b17)
    have OY17 := Lib.hid (OY16.out.below b17)
    have X17 := Lib.hid (X16.out.below b17)
    have XD17 := Lib.hid (XD16.out.below b17)
    have OX17 := Lib.hid (OX16.out.below b17)
    have B17 := bstep B16 b17
    clear H16 D16 Z16 ZD16 OZ16 Y16 OY16 X16 XD16 OX16
    clear b17
    go_wp2
    go_ret
    exact ⟨rfl, B17⟩
  · have hsz : szI 1048576 f.length = -1 := by unfold szI; split <;> omega
    go_enter Try.func4, Try.ntmps4
    go_wp2_with fail
    refine (c_szFrame sf Af kf f.length (1048576) _ (by omega) (by omega) hnf).mono ?_
    rintro e w1 ⟨rfl, b1⟩
    rw [hsz]
    go_wp2
    go_ret
    exact ⟨rfl, bstep (balloc (balloc (Below.refl _ w) _) _) b1⟩
end Go.Proofs.Ytobpnlhfinnfkaa
namespace Go.Proofs.Ytobpnlhfinnfkaa.ofSwapTracks
open Go.ChangeShapes Go.WideShapes Go.ChangeAt Go.RowKit
theorem own : ownKnob Try.prog.godebug = none := by kernel_rfl
theorem laidOut : laidOutB Try.prog = true := by kernel_rfl
set_option maxRecDepth 100000 in
theorem lifted (os : Os) (started : os.Started) (H : Type) (enc : TypeId × Value → H) :
    ReturnsInHanded {} Try.checked os 4 .any (Rows.fnExactSwapTracksSpec.pre6 enc Try.prog Try.f4 Rows.fnExactSwapTracksRow.domain false) (Rows.fnExactSwapTracksSpec.post enc Try.prog Try.f4 false true false false) := by
  refine returnsInHanded_of_change (C := Try.checked) own started (by kernel_rfl) Try.func4
    (ChangeSpec.witness6 (enc := enc) (C := Try.checked) false ⟨#[], #[.agg #[.int .i16 0, .slice none 0 0], .agg (Array.replicate 96 (.int .u32 0)), .int .i64 0, .int .i64 0], []⟩ 8 (by kernel_rfl) (by kernel_rfl) (by kernel_rfl) (by kernel_rfl)) ?_
  intro W base args ds gs before hval0 hW hcnd _
  have hval : ∀ (j : Nat) t v, Try.f4.params[j]? = some t → args[j]? = some v → Value.okWide Try.prog W .any base t v := hval0
  have hW' := hW
  have hlt := fun p (hp : p ∈ before) => hW.lt p hp
  obtain ⟨p, q, hA0, hV, rfl, hfz, hnd⟩ := hW
  have hA : DataW.TrodAll enc Try.prog W 0 (fun _ => true) true Try.f4.params.toList args.toList ds p := hA0
  obtain ⟨rfl, rfl⟩ := trodVars_none hV
  simp only [List.append_nil] at hlt hW'
  have hback := fun W' hb => trodAll_below (W' := W') laidOut hb (by rw [Try.params4]; decide +kernel) hlt hA
  rw [Try.params4] at hA hval
  obtain ⟨v0, vs0, d0, ds0, p0, q0, hargs, rfl, rfl, h0, r0⟩ := trodAll_cons hA
  obtain ⟨v1, vs1, d1, ds1, p1, q1, rfl, rfl, rfl, h1, r1⟩ := trodAll_cons r0
  obtain ⟨v2, vs2, d2, ds2, p2, q2, rfl, rfl, rfl, h2, r2⟩ := trodAll_cons r1
  obtain ⟨v3, vs3, d3, ds3, p3, q3, rfl, rfl, rfl, h3, r3⟩ := trodAll_cons r2
  obtain ⟨rfl, rfl, rfl⟩ := trodAll_nil r3
  obtain rfl : args = #[v0, v1, v2, v3] := by cases args; simp_all
  obtain ⟨sf, Af, kf, f, rfl, hw_s, hn_f, hr_f, hl_f⟩ := open_frame Try.underlying31 (by kernel_rfl) (by kernel_rfl) Try.underlying28 rfl Try.underlying29 Try.underlying99 Try.underlying49 Try.underlying49 (by kernel_rfl) (by kernel_rfl) (hval 0 _ _ rfl rfl) h0
  obtain ⟨d, rfl, hn_d, hr_d⟩ := open_drum Try.underlying33 Try.underlying32 (by kernel_rfl) (by kernel_rfl) (hval 1 _ _ rfl rfl) h1
  obtain ⟨p, rfl, rfl, rfl, wfp⟩ := open_int Try.underlying2 (hval 2 _ _ rfl rfl) h2
  obtain ⟨q, rfl, rfl, rfl, wfq⟩ := open_int Try.underlying2 (hval 3 _ _ rfl rfl) h3
  refine (law_SwapTracks sf Af kf f d p q W hr_f hw_s hl_f hn_f hn_d hr_d (by simpa [Lit.wf, IntKind.min, IntKind.max, IntKind.signed, IntKind.bits] using wfp) (by simpa [Lit.wf, IntKind.min, IntKind.max, IntKind.signed, IntKind.bits] using wfq)).mono fun e W' ⟨he, bel⟩ => ?_
  subst he
  exact ⟨_, rfl, _, _, _, [], _, [], hW', trodAll_mk1 (shut_bool Try.underlying4 _), hback W' bel, rfl, bel.frame _, fun h => by cases h⟩
theorem over : Rows.fnExactSwapTracksRow.holds Try.pinned (OpenSpec.ofChange Rows.fnExactSwapTracksSpec) :=
  OpenClaim.holds_of_wide 4 Try.f4 rfl rfl rfl rfl rfl rfl rfl ⟨rfl, rfl, rfl, rfl, rfl⟩ rfl rfl rfl rfl rfl (by kernel_rfl) Try.func4 (by kernel_rfl)
    (of_decide_eq_true (by kernel_rfl)) (by unfold Func.isWrapper; first | (rw [if_pos (by decide +kernel)]; kernel_rfl) | (rw [if_neg (by decide +kernel)]; exact ⟨rfl, rfl⟩))
    (fun os started H enc _ => lifted os started H enc)
end Go.Proofs.Ytobpnlhfinnfkaa.ofSwapTracks
namespace Go.Proofs.Ytobpnlhfinnfkaa
theorem fnExactSwapTracks_holds : Rows.FnExactSwapTracksSaid := ofSwapTracks.over
#print axioms fnExactSwapTracks_holds
end Go.Proofs.Ytobpnlhfinnfkaa
