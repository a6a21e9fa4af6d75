/-
  SwapTracks, the program's.
-/
import Derived.Test.YtnakdlfjjeligaaGreatWalkSW
import Derived.Test.YtnakdlfjjeligaaGreatWalkDP
namespace Go.Proofs.YtnakdlfjjeligaaGreat
open Go.RowKit
set_option linter.unusedVariables false
set_option linter.unusedSimpArgs false
set_option maxRecDepth 4000

theorem c_CloneH (A : Option Addr) (c : Nat) (l : List (Int × Int)) (w : World) (h : At2 .i8 .i8 w A l) (hn : l.length ≤ 1073741824) :
    Calls Tryz.prog 46 #[.slice A l.length c] w fun e w' => ∃ A' c', e = .returned (.slice A' l.length c') ∧ Own2 .i8 .i8 56 w' w.heap.size (.slice A' l.length c') l ∧ Below w.heap.size w w' := by
  cases A with
  | none =>
    have hl : l = [] := by
      cases l with
      | nil => rfl
      | cons p l => obtain ⟨g, off, h1, _⟩ := At2.get h (by simp); cases h1
    subst hl
    have hq : ∀ w, (Go.binOp .eql 25 (.slice none 0 c) (.slice none 0 0)).run Tryz.prog w = .ok (.bool true) w := fun w => Go.run_eql_slice_nil w _ _ none 0 c Tryz.underlying25
    go_enter Tryz.func46, Tryz.ntmps46
    go_wp2
    go_ret
    exact ⟨none, 0, rfl, World.ownsRow_nil _ _ _ _, Below.refl _ _⟩
  | some ad =>
    have hAt := At2.below h (Below.refl _ w |>.alloc (Nat.le_refl _) (.cells #[] 56))
    have hown2 := Own2.lit0 (k1 := .i8) (k2 := .i8) (E := 56) (w := w) (base := w.heap.size) (Nat.le_refl _)
    have B3 := balloc (Below.refl _ w) (.cells #[] 56)
    have hbs := B3.size
    have hn2 : ([] : List (Int × Int)).length + l.length ≤ 1073741824 := by simpa using hn
    have hq : ∀ w, (Go.binOp .eql 25 (.slice (some ad) l.length c) (.slice none 0 0)).run Tryz.prog w = .ok (.bool false) w := fun w => Go.run_eql_slice_nil w _ _ (some ad) _ _ Tryz.underlying25
    clear h
    go_enter Tryz.func46, Tryz.ntmps46
    go_wp2_with (at_builtin; refine append_pairs rfl (.tmp 5) (.tmp 6) 25 rfl 56 .i8 .i8 2 Tryz.underlying25 info_Hammer (by decide) w.heap.size _ [] rfl hown2 _ _ l rfl hAt hn2 hbs ?_; intro A3 c3 w3 ho3 hg3)
    go_ret
    exact ⟨A3, c3, rfl, ho3, bgrown B3 hg3 (fun j hj => hown2.low hj)⟩

set_option maxHeartbeats 1600000 in
theorem c_implSwapTracks (s : Int) (A : Option Addr) (c : Nat) (l : List (Int × Int)) (d : List Int) (a b : Int) (w : World) (h : At2 .i8 .i8 w A l) (hs : W16 s) (hl : Whs l) (hn : l.length ≤ 1073741824) (hd : d.length = 96) (hr : ∀ x ∈ d, 0 ≤ x ∧ x ≤ 4294967295) (hba : -9223372036854775808 ≤ a ∧ a ≤ 9223372036854775807) (hbb : -9223372036854775808 ≤ b ∧ b ≤ 9223372036854775807) :
    Calls Tryz.prog 17 #[.agg #[.int .i16 s, .slice A l.length c], .agg (drumV d), .int .i64 a, .int .i64 b] w fun e w' => ∃ A' c', e = .returned (.tuple #[.agg #[.int .i16 (sSw s l d a b), .slice A' (fSw s l d a b).length c'], .agg (drumV (dSw s l d a b)), .int .i64 (cSw s l d a b)]) ∧ Own2 .i8 .i8 56 w' w.heap.size (.slice A' (fSw s l d a b).length c') (fSw s l d a b) ∧ Below w.heap.size w w' := by
  have hu2 := Tryz.underlying27
  have v0 : Var ((((w.alloc (.cells #[.int .i16 s, .slice A l.length c] 27)).alloc (.cells (drumV d) 31)).alloc (.cells #[.int .i16 0, .slice none 0 0] 27)).alloc (.cells (drumV zD) 31)) w.heap.size #[.int .i16 s, .slice A l.length c] 27 := (((Var.new w _ _).old _).old _).old _
  have v1 : Var ((((w.alloc (.cells #[.int .i16 s, .slice A l.length c] 27)).alloc (.cells (drumV d) 31)).alloc (.cells #[.int .i16 0, .slice none 0 0] 27)).alloc (.cells (drumV zD) 31)) (w.heap.size + 1) (drumV d) 31 := by simpa using ((Var.new (w.alloc (.cells #[.int .i16 s, .slice A l.length c] 27)) (drumV d) 31).old (.cells #[.int .i16 0, .slice none 0 0] 27)).old (.cells (drumV zD) 31)
  have v2 : Var ((((w.alloc (.cells #[.int .i16 s, .slice A l.length c] 27)).alloc (.cells (drumV d) 31)).alloc (.cells #[.int .i16 0, .slice none 0 0] 27)).alloc (.cells (drumV zD) 31)) (w.heap.size + 1 + 1) #[.int .i16 0, .slice none 0 0] 27 := by simpa using (Var.new ((w.alloc (.cells #[.int .i16 s, .slice A l.length c] 27)).alloc (.cells (drumV d) 31)) #[.int .i16 0, .slice none 0 0] 27).old (.cells (drumV zD) 31)
  have v3 : Var ((((w.alloc (.cells #[.int .i16 s, .slice A l.length c] 27)).alloc (.cells (drumV d) 31)).alloc (.cells #[.int .i16 0, .slice none 0 0] 27)).alloc (.cells (drumV zD) 31)) (w.heap.size + 1 + 1 + 1) (drumV zD) 31 := by simpa using Var.new (((w.alloc (.cells #[.int .i16 s, .slice A l.length c] 27)).alloc (.cells (drumV d) 31)).alloc (.cells #[.int .i16 0, .slice none 0 0] 27)) (drumV zD) 31
  have B : Below w.heap.size w ((((w.alloc (.cells #[.int .i16 s, .slice A l.length c] 27)).alloc (.cells (drumV d) 31)).alloc (.cells #[.int .i16 0, .slice none 0 0] 27)).alloc (.cells (drumV zD) 31)) := balloc (balloc (balloc (balloc (Below.refl _ w) _) _) _) _
  by_cases hx : cSw s l d a b = 0
  · obtain ⟨hxa, hxb⟩ := cSw_zero hx
    obtain ⟨hf, hdd, _, a1, a2⟩ := cP_zero hxa
    obtain ⟨_, _, _, b1, b2⟩ := cP_zero hxb
    obtain ⟨⟨s1, s2⟩, ⟨n1, n2⟩, _⟩ := okF_iff.1 hf
    obtain ⟨ka, rfl⟩ := Int.eq_ofNat_of_zero_le a1
    obtain ⟨kb, rfl⟩ := Int.eq_ofNat_of_zero_le b1
    obtain ⟨n, rfl⟩ := Int.eq_ofNat_of_zero_le (show 0 ≤ s by omega)
    have HC := Lib.hid hx
    have HS := Lib.hid (show sSw (n : Int) l d (ka : Int) (kb : Int) = n by unfold sSw; rw [if_pos hx])
    have HF := Lib.hid (show fSw (n : Int) l d (ka : Int) (kb : Int) = swH l ka kb by unfold fSw; rw [if_pos hx, Int.toNat_natCast, Int.toNat_natCast])
    have HD := Lib.hid (show dSw (n : Int) l d (ka : Int) (kb : Int) = swT d ka kb n by unfold dSw; rw [if_pos hx, Int.toNat_natCast, Int.toNat_natCast, Int.toNat_natCast])
    have hka : ka < l.length := by omega
    have hkb : kb < l.length := by omega
    have hl24 : l.length ≤ 24 := by omega
    have hn96 : n ≤ 96 := by omega
    clear hx hxa hxb hf hdd a1 a2 b1 b2 s1 s2 n1 n2 hba hbb
    go_enter Tryz.func17, Tryz.ntmps17
    go_upto_region 1 with (refine wpList_alloc_row rfl 31 rfl (.agg (drumV zD)) zero_Drum ?_)
    obtain ⟨w0, hw0⟩ : ∃ u, ((((w.alloc (.cells #[.int .i16 (n : Int), .slice A l.length c] 27)).alloc (.cells (drumV d) 31)).alloc (.cells #[.int .i16 0, .slice none 0 0] 27)).alloc (.cells (drumV zD) 31)) = u := ⟨_, rfl⟩
    rw [hw0] at v0 v1 v2 v3 B ⊢
    clear hw0
    have V0 := Lib.hid v0
    have V1 := Lib.hid v1
    have V2 := Lib.hid v2
    have V3 := Lib.hid v3
    clear v0 v1 v2 v3
    have hln : (Tryz.prog.info? 31).map (·.size) = some (drumV d).toList.length := by rw [drumV_len, hd]; exact size_Drum
    go_cut [11] from 16 to 25 (fun x w' => x = .int .i64 (cSw (n : Int) l d (ka : Int) (kb : Int)) ∧ Below w0.heap.size w0 w')
    case first =>
      have HA := Lib.hid (h.below B)
      refine wp_region_held_drew (S := (Below w0.heap.size w0)) (by kernel_rfl) (bdrew (Below.refl _ _)) (fun hHeld => ?_)
      refine takeL (i := 0) (v := .agg #[.int .i16 (n : Int), .slice A l.length c]) rfl (by kernel_rfl) (by kernel_rfl) (by kernel_rfl) (fun _ _ _ h => h) (Or.inl ⟨by rfl, by intro w' hS; have y1 := (V0.out.below hS).cell (i := 0) rfl; have y2 := (V0.out.below hS).cell (i := 1) rfl; clear hS; go_simp⟩) hHeld ?_
      simp only [Act.put, List.setIfInBounds_toArray, List.set_cons_zero, List.set_cons_succ]
      refine takeL (i := 1) (v := .agg (drumV d)) rfl (by kernel_rfl) (by kernel_rfl) (by kernel_rfl) (fun _ _ _ h => h) (by simpa using yieldsIf_load_mid (S := (Below w0.heap.size w0)) (by rfl) _ _ rfl _ _ rfl (drumV d).toList _ (fun w' hS => (V1.out.below hS).range) Tryz.underlying31 rfl hln) hHeld ?_
      simp only [Act.put, List.setIfInBounds_toArray, List.set_cons_zero, List.set_cons_succ]
      refine takeL (i := 2) (v := .int .i64 (ka : Int)) rfl (by kernel_rfl) (by kernel_rfl) (by kernel_rfl) (fun _ _ _ h => h) (Or.inl ⟨by rfl, by intro w' hS; clear hS; go_simp⟩) hHeld ?_
      simp only [Act.put, List.setIfInBounds_toArray, List.set_cons_zero, List.set_cons_succ]
      refine takeL (i := 4) (v := .agg #[.int .i16 (n : Int), .slice A l.length c]) rfl (by kernel_rfl) (by kernel_rfl) (by kernel_rfl) (fun _ _ _ h => h) (Or.inl ⟨by rfl, by intro w' hS; have y1 := (V0.out.below hS).cell (i := 0) rfl; have y2 := (V0.out.below hS).cell (i := 1) rfl; clear hS; go_simp⟩) hHeld ?_
      simp only [Act.put, List.setIfInBounds_toArray, List.set_cons_zero, List.set_cons_succ]
      refine takeL (i := 5) (v := .agg (drumV d)) rfl (by kernel_rfl) (by kernel_rfl) (by kernel_rfl) (fun _ _ _ h => h) (by simpa using yieldsIf_load_mid (S := (Below w0.heap.size w0)) (by rfl) _ _ rfl _ _ rfl (drumV d).toList _ (fun w' hS => (V1.out.below hS).range) Tryz.underlying31 rfl hln) hHeld ?_
      simp only [Act.put, List.setIfInBounds_toArray, List.set_cons_zero, List.set_cons_succ]
      refine takeL (i := 6) (v := .int .i64 (kb : Int)) rfl (by kernel_rfl) (by kernel_rfl) (by kernel_rfl) (fun _ _ _ h => h) (Or.inl ⟨by rfl, by intro w' hS; clear hS; go_simp⟩) hHeld ?_
      simp only [Act.put, List.setIfInBounds_toArray, List.set_cons_zero, List.set_cons_succ]
      refine wpAnyH_ready (rs := [3]) (by kernel_rfl) (by simp) ?_
      refine readyL rfl (fun K hK => ?_) AllReadyH.nil
      go_simp
      refine (c_placeCode (n : Int) A c l d _ _ _ (HA.out.below hHeld) hs hl hn hd).mono ?_
      rintro e wa ⟨rfl, hbk⟩
      go_wp2_with fail
      refine hK.out _ _ (bstep hHeld hbk) (fun hHeld => ?_)
      clear hK K
      try simp only [Act.put, List.setIfInBounds_toArray, List.set_cons_zero, List.set_cons_succ]
      clear hbk
      refine wpAnyH_ready (rs := [7]) (by kernel_rfl) (by simp) ?_
      refine readyL rfl (fun K hK => ?_) AllReadyH.nil
      go_simp
      refine (c_placeCode (n : Int) A c l d _ _ _ (HA.out.below hHeld) hs hl hn hd).mono ?_
      rintro e wb ⟨rfl, hbk⟩
      go_wp2_with fail
      refine hK.out _ _ (bstep hHeld hbk) (fun hHeld => ?_)
      clear hK K
      try simp only [Act.put, List.setIfInBounds_toArray, List.set_cons_zero, List.set_cons_succ]
      clear hbk
      have hB := hHeld
      refine wpAnyH_ready (rs := [8]) (by kernel_rfl) (by simp) ?_
      refine readyL rfl (fun K hK => ?_) AllReadyH.nil
      go_simp
      refine hK.out _ _ (balloc hHeld _) (fun hHeld => ?_)
      clear hK K
      try simp only [Act.put, List.setIfInBounds_toArray, List.set_cons_zero, List.set_cons_succ]
      refine wpAnyH_ready (rs := [9]) (by kernel_rfl) (by simp) ?_
      refine readyL rfl (fun K hK => ?_) AllReadyH.nil
      go_simp
      refine (c_firstOfD_two _ _ _ _).mono ?_
      rintro e wc ⟨rfl, hbk⟩
      rw [show (if cP (n : Int) l d 0 (ka : Int) = 0 then cP (n : Int) l d 0 (kb : Int) else cP (n : Int) l d 0 (ka : Int)) = cSw (n : Int) l d (ka : Int) (kb : Int) from rfl]
      go_wp2_with fail
      refine hK.out _ _ (bstep hB hbk) (fun hHeld => ?_)
      clear hK K
      try simp only [Act.put, List.setIfInBounds_toArray, List.set_cons_zero, List.set_cons_succ]
      clear hbk
      refine wpAnyH_ready (rs := [10]) (by kernel_rfl) (by simp) ?_
      refine readyL rfl (fun K hK => ?_) AllReadyH.nil
      go_simp
      refine hK.out _ _ (hHeld) (fun hHeld => ?_)
      clear hK K
      try simp only [Act.put, List.setIfInBounds_toArray, List.set_cons_zero, List.set_cons_succ]
      refine wpAnyH_done (by kernel_rfl) ?_ _
      have HH := Lib.hid hHeld
      clear hHeld
      go_wp2_with fail
      go_meet
      case rel => exact ⟨rfl, HH.out⟩
    obtain ⟨rfl, b1⟩ := hcut
    obtain ⟨w1, rfl⟩ : ∃ x, x = wc := ⟨_, rfl⟩
    have V0_1 := Lib.hid (V0.out.below b1)
    have V1_1 := Lib.hid (V1.out.below b1)
    have V2_1 := Lib.hid (V2.out.below b1)
    have V3_1 := Lib.hid (V3.out.below b1)
    have B_1 := bstep B b1
    clear b1
    rw [HC.out]
    go_upto_region 4 with fail
    have HA2 := Lib.hid (h.below B_1)
    go_cut [12] from 31 to 36 (fun x w' => ∃ g A' c', x = .pointer (some ⟨g, 0, none⟩) ∧ Var w' g #[.int .i16 (n : Int), .slice A' l.length c'] 27 ∧ Own2 .i8 .i8 56 w' w1.heap.size (.slice A' l.length c') l ∧ w1.heap.size ≤ g ∧ Below w1.heap.size w1 w')
    case first =>
      refine wp_region_held_drew (S := (Below w1.heap.size w1)) (by kernel_rfl) (bdrew (Below.refl _ _)) (fun hHeld => ?_)
      obtain ⟨u0, hu0⟩ : ∃ x, w1.drew = x := ⟨_, rfl⟩
      rw [hu0] at hHeld ⊢
      clear hu0
      refine takeL (i := 0) (v := .pointer (some ⟨w.heap.size, 0, none⟩)) rfl (by kernel_rfl) (by kernel_rfl) (by kernel_rfl) (fun _ _ _ h => h) (Or.inl ⟨by rfl, by intro w' hS; clear hS; go_simp⟩) hHeld ?_
      simp only [Act.put, List.setIfInBounds_toArray, List.set_cons_zero, List.set_cons_succ]
      refine takeL (i := 1) (v := .int .i16 (n : Int)) rfl (by kernel_rfl) (by kernel_rfl) (by kernel_rfl) (fun _ _ _ h => h) (Or.inl ⟨by rfl, by intro w' hS; have y1 := (V0_1.out.below hS).frame.2.1; have y2 := (V0_1.out.below hS).frame.2.2; clear hS; go_simp⟩) hHeld ?_
      simp only [Act.put, List.setIfInBounds_toArray, List.set_cons_zero, List.set_cons_succ]
      refine takeL (i := 2) (v := .pointer (some ⟨w.heap.size, 1, none⟩)) rfl (by kernel_rfl) (by kernel_rfl) (by kernel_rfl) (fun _ _ _ h => h) (Or.inl ⟨by rfl, by intro w' hS; clear hS; go_simp⟩) hHeld ?_
      simp only [Act.put, List.setIfInBounds_toArray, List.set_cons_zero, List.set_cons_succ]
      refine takeL (i := 3) (v := .slice A l.length c) rfl (by kernel_rfl) (by kernel_rfl) (by kernel_rfl) (fun _ _ _ h => h) (Or.inl ⟨by rfl, by intro w' hS; have y1 := (V0_1.out.below hS).frame.2.1; have y2 := (V0_1.out.below hS).frame.2.2; clear hS; go_simp⟩) hHeld ?_
      simp only [Act.put, List.setIfInBounds_toArray, List.set_cons_zero, List.set_cons_succ]
      refine wpAnyH_ready (rs := [4, 6]) (by kernel_rfl) (by simp) ?_
      refine readyL rfl (fun K hK => ?_) (readyL rfl (fun K hK => ?_) AllReadyH.nil)
      · skip
        go_simp
        refine (c_CloneH A c l _ (HA2.out.below hHeld) hn).mono ?_
        rintro e w3 ⟨A3, c3, rfl, ho3, hbk⟩
        go_wp2_with fail
        replace ho3 := ho3.base_le hHeld.size
        refine hK.out _ _ (bstep hHeld hbk) (fun hHeld => ?_)
        clear hK K
        try simp only [Act.put, List.setIfInBounds_toArray, List.set_cons_zero, List.set_cons_succ]
        clear hbk
        refine takeL (i := 5) (v := .agg #[.int .i16 (n : Int), .slice A3 l.length c3]) rfl (by kernel_rfl) (by kernel_rfl) (by kernel_rfl) (fun _ _ _ h => h) (Or.inl ⟨by rfl, by intro w' hS; clear hS; go_simp⟩) hHeld ?_
        simp only [Act.put, List.setIfInBounds_toArray, List.set_cons_zero, List.set_cons_succ]
        refine wpAnyH_ready (rs := [6]) (by kernel_rfl) (by simp) ?_
        refine readyL rfl (fun K hK => ?_) AllReadyH.nil
        go_simp
        have hV := Var.new w3 #[.int .i16 0, .slice none 0 0] 27
        obtain ⟨g, hg⟩ : ∃ g : Nat, g = w3.heap.size := ⟨_, rfl⟩
        have hgl : w1.heap.size ≤ g := by rw [hg]; exact hHeld.size
        rw [← hg] at hV ⊢
        replace ho3 := ho3.alloc (.cells #[.int .i16 0, .slice none 0 0] 27)
        refine hK.out _ _ (balloc hHeld (.cells #[.int .i16 0, .slice none 0 0] 27)) (fun hHeld => ?_)
        clear hK K
        try simp only [Act.put, List.setIfInBounds_toArray, List.set_cons_zero, List.set_cons_succ]
        obtain ⟨u1, huu1⟩ : ∃ x, x = w3.alloc (.cells #[.int .i16 0, .slice none 0 0] 27) := ⟨_, rfl⟩
        rw [← huu1] at hHeld hV ho3 ⊢
        clear huu1
        clear hg
        refine wpAnyH_ready (rs := [7]) (by kernel_rfl) (by simp) ?_
        refine readyL rfl (fun K hK => ?_) AllReadyH.nil
        have z1 := hV.cell (i := 0) rfl
        have z2 := hV.cell (i := 1) rfl
        have z3 := hV.frozen 0
        have z4 := hV.frozen 1
        go_simp
        refine hK.out _ _ (bset (bset hHeld (by simp <;> omega) _) (by simp <;> omega) _) (fun hHeld => ?_)
        clear hK K
        try simp only [Act.put, List.setIfInBounds_toArray, List.set_cons_zero, List.set_cons_succ]
        clear z1 z2 z3 z4
        refine wpAnyH_done (by kernel_rfl) ?_ _
        have HH := Lib.hid hHeld
        have HV := Lib.hid ((hV.set 0 (.int .i16 (n : Int))).set 1 (.slice A3 l.length c3))
        have HO := Lib.hid ((ho3.beside hV (by decide) 0 (.int .i16 (n : Int))).beside (hV.set 0 (.int .i16 (n : Int))) (by decide) 1 (.slice A3 l.length c3))
        clear hHeld hV ho3
        go_wp2_with fail
        go_meet
        case rel => exact ⟨g, A3, c3, rfl, HV.out, HO.out, hgl, HH.out⟩
      · skip
        go_simp
        have hV := Var.new u0 #[.int .i16 0, .slice none 0 0] 27
        obtain ⟨g, hg⟩ : ∃ g : Nat, g = u0.heap.size := ⟨_, rfl⟩
        have hgl : w1.heap.size ≤ g := by rw [hg]; exact hHeld.size
        rw [← hg] at hV ⊢
        refine hK.out _ _ (balloc hHeld (.cells #[.int .i16 0, .slice none 0 0] 27)) (fun hHeld => ?_)
        clear hK K
        try simp only [Act.put, List.setIfInBounds_toArray, List.set_cons_zero, List.set_cons_succ]
        obtain ⟨u2, huu2⟩ : ∃ x, x = u0.alloc (.cells #[.int .i16 0, .slice none 0 0] 27) := ⟨_, rfl⟩
        rw [← huu2] at hHeld hV ⊢
        clear huu2
        clear hg
        refine wpAnyH_ready (rs := [4]) (by kernel_rfl) (by simp) ?_
        refine readyL rfl (fun K hK => ?_) AllReadyH.nil
        go_simp
        refine (c_CloneH A c l _ (HA2.out.below hHeld) hn).mono ?_
        rintro e w3 ⟨A3, c3, rfl, ho3, hbk⟩
        go_wp2_with fail
        replace ho3 := ho3.base_le hHeld.size
        replace hV := hV.below hbk
        refine hK.out _ _ (bstep hHeld hbk) (fun hHeld => ?_)
        clear hK K
        try simp only [Act.put, List.setIfInBounds_toArray, List.set_cons_zero, List.set_cons_succ]
        clear hbk
        refine takeL (i := 5) (v := .agg #[.int .i16 (n : Int), .slice A3 l.length c3]) rfl (by kernel_rfl) (by kernel_rfl) (by kernel_rfl) (fun _ _ _ h => h) (Or.inl ⟨by rfl, by intro w' hS; clear hS; go_simp⟩) hHeld ?_
        simp only [Act.put, List.setIfInBounds_toArray, List.set_cons_zero, List.set_cons_succ]
        refine wpAnyH_ready (rs := [7]) (by kernel_rfl) (by simp) ?_
        refine readyL rfl (fun K hK => ?_) AllReadyH.nil
        have z1 := hV.cell (i := 0) rfl
        have z2 := hV.cell (i := 1) rfl
        have z3 := hV.frozen 0
        have z4 := hV.frozen 1
        go_simp
        refine hK.out _ _ (bset (bset hHeld (by simp <;> omega) _) (by simp <;> omega) _) (fun hHeld => ?_)
        clear hK K
        try simp only [Act.put, List.setIfInBounds_toArray, List.set_cons_zero, List.set_cons_succ]
        clear z1 z2 z3 z4
        refine wpAnyH_done (by kernel_rfl) ?_ _
        have HH := Lib.hid hHeld
        have HV := Lib.hid ((hV.set 0 (.int .i16 (n : Int))).set 1 (.slice A3 l.length c3))
        have HO := Lib.hid ((ho3.beside hV (by decide) 0 (.int .i16 (n : Int))).beside (hV.set 0 (.int .i16 (n : Int))) (by decide) 1 (.slice A3 l.length c3))
        clear hHeld hV ho3
        go_wp2_with fail
        go_meet
        case rel => exact ⟨g, A3, c3, rfl, HV.out, HO.out, hgl, HH.out⟩

    obtain ⟨g, A3, c3, rfl, hV3, hO3, hgl, b3⟩ := hcut
    obtain ⟨w3, rfl⟩ : ∃ x, x = wc := ⟨_, rfl⟩
    obtain ⟨gh, rfl⟩ := hO3.start (by omega)
    have HV3 := Lib.hid hV3
    have HO3 := Lib.hid hO3
    have V0_3 := Lib.hid (V0_1.out.below b3)
    have V1_3 := Lib.hid (V1_1.out.below b3)
    have V2_3 := Lib.hid (V2_1.out.below b3)
    have V3_3 := Lib.hid (V3_1.out.below b3)
    have B_3 := bstep B_1 b3
    clear hV3 hO3
    go_upto_region 5 with fail
    have hkbl : kb < (l.set ka l[kb]).length := by rw [List.length_set]; exact hkb
    go_cut [] from 37 to 54 (fun w' => Var w' g #[.int .i16 (n : Int), .slice (some ⟨gh, 0, none⟩) l.length c3] 27 ∧ Own2 .i8 .i8 56 w' w1.heap.size (.slice (some ⟨gh, 0, none⟩) l.length c3) ((l.set ka l[kb]).set kb l[ka]) ∧ Below w1.heap.size w1 w')
    case first =>
      refine wp_region_held_drew (S := fun w' => Var w' g #[.int .i16 (n : Int), .slice (some ⟨gh, 0, none⟩) l.length c3] 27 ∧ Below w1.heap.size w1 w') (by kernel_rfl) ⟨HV3.out.drew, bdrew b3⟩ (fun hHeld => ?_)
      have p5 := HO3.out.below (bdrew (Below.refl _ _))
      obtain ⟨u0, hu0⟩ : ∃ x, w3.drew = x := ⟨_, rfl⟩
      rw [hu0] at hHeld p5 ⊢
      clear hu0
      have i1 : (ka : Int) < (l.length : Int) := by omega
      have i2 : (kb : Int) < (l.length : Int) := by omega
      have i3 : (0 : Int) ≤ (ka : Int) := by omega
      have i4 : (0 : Int) ≤ (kb : Int) := by omega
      have hne : g ≠ gh := fun e => p5.ne_var hHeld.1 (by decide) (by rw [e]; rfl)
      have hlow : w1.heap.size ≤ gh := p5.low (k := gh) rfl
      have HNE := Lib.hid hne
      have HLOW := Lib.hid hlow
      clear hne hlow
      have P5 := Lib.hid p5
      clear p5
      refine takeL (i := 0) (v := .pointer (some ⟨g, 1, none⟩)) rfl (by kernel_rfl) (by kernel_rfl) (by kernel_rfl) (fun _ _ _ h => h) (Or.inl ⟨by rfl, by intro w' hS; clear hS; go_simp⟩) hHeld ?_
      simp only [Act.put, List.setIfInBounds_toArray, List.set_cons_zero, List.set_cons_succ]
      refine takeL (i := 1) (v := .slice (some ⟨gh, 0, none⟩) l.length c3) rfl (by kernel_rfl) (by kernel_rfl) (by kernel_rfl) (fun _ _ _ h => h) (Or.inl ⟨by rfl, by intro w' hS; have y1 := hS.1.cell (i := 1) rfl; clear hS; go_simp⟩) hHeld ?_
      simp only [Act.put, List.setIfInBounds_toArray, List.set_cons_zero, List.set_cons_succ]
      refine takeL (i := 2) (v := .int .i64 (ka : Int)) rfl (by kernel_rfl) (by kernel_rfl) (by kernel_rfl) (fun _ _ _ h => h) (Or.inl ⟨by rfl, by intro w' hS; clear hS; go_simp⟩) hHeld ?_
      simp only [Act.put, List.setIfInBounds_toArray, List.set_cons_zero, List.set_cons_succ]
      refine takeL (i := 3) (v := .pointer (some ⟨g, 1, none⟩)) rfl (by kernel_rfl) (by kernel_rfl) (by kernel_rfl) (fun _ _ _ h => h) (Or.inl ⟨by rfl, by intro w' hS; clear hS; go_simp⟩) hHeld ?_
      simp only [Act.put, List.setIfInBounds_toArray, List.set_cons_zero, List.set_cons_succ]
      refine takeL (i := 4) (v := .slice (some ⟨gh, 0, none⟩) l.length c3) rfl (by kernel_rfl) (by kernel_rfl) (by kernel_rfl) (fun _ _ _ h => h) (Or.inl ⟨by rfl, by intro w' hS; have y1 := hS.1.cell (i := 1) rfl; clear hS; go_simp⟩) hHeld ?_
      simp only [Act.put, List.setIfInBounds_toArray, List.set_cons_zero, List.set_cons_succ]
      refine takeL (i := 5) (v := .int .i64 (kb : Int)) rfl (by kernel_rfl) (by kernel_rfl) (by kernel_rfl) (fun _ _ _ h => h) (Or.inl ⟨by rfl, by intro w' hS; clear hS; go_simp⟩) hHeld ?_
      simp only [Act.put, List.setIfInBounds_toArray, List.set_cons_zero, List.set_cons_succ]
      refine takeL (i := 6) (v := .pointer (some ⟨g, 1, none⟩)) rfl (by kernel_rfl) (by kernel_rfl) (by kernel_rfl) (fun _ _ _ h => h) (Or.inl ⟨by rfl, by intro w' hS; clear hS; go_simp⟩) hHeld ?_
      simp only [Act.put, List.setIfInBounds_toArray, List.set_cons_zero, List.set_cons_succ]
      refine takeL (i := 7) (v := .slice (some ⟨gh, 0, none⟩) l.length c3) rfl (by kernel_rfl) (by kernel_rfl) (by kernel_rfl) (fun _ _ _ h => h) (Or.inl ⟨by rfl, by intro w' hS; have y1 := hS.1.cell (i := 1) rfl; clear hS; go_simp⟩) hHeld ?_
      simp only [Act.put, List.setIfInBounds_toArray, List.set_cons_zero, List.set_cons_succ]
      refine takeL (i := 8) (v := .int .i64 (kb : Int)) rfl (by kernel_rfl) (by kernel_rfl) (by kernel_rfl) (fun _ _ _ h => h) (Or.inl ⟨by rfl, by intro w' hS; clear hS; go_simp⟩) hHeld ?_
      simp only [Act.put, List.setIfInBounds_toArray, List.set_cons_zero, List.set_cons_succ]
      refine takeL (i := 9) (v := .pointer (some ⟨gh, kb * 2, none⟩)) rfl (by kernel_rfl) (by kernel_rfl) (by kernel_rfl) (fun _ _ _ h => h) (Or.inl ⟨by rfl, by intro w' hS; clear hS; go_simp⟩) hHeld ?_
      simp only [Act.put, List.setIfInBounds_toArray, List.set_cons_zero, List.set_cons_succ]
      refine takeL (i := 11) (v := .pointer (some ⟨g, 1, none⟩)) rfl (by kernel_rfl) (by kernel_rfl) (by kernel_rfl) (fun _ _ _ h => h) (Or.inl ⟨by rfl, by intro w' hS; clear hS; go_simp⟩) hHeld ?_
      simp only [Act.put, List.setIfInBounds_toArray, List.set_cons_zero, List.set_cons_succ]
      refine takeL (i := 12) (v := .slice (some ⟨gh, 0, none⟩) l.length c3) rfl (by kernel_rfl) (by kernel_rfl) (by kernel_rfl) (fun _ _ _ h => h) (Or.inl ⟨by rfl, by intro w' hS; have y1 := hS.1.cell (i := 1) rfl; clear hS; go_simp⟩) hHeld ?_
      simp only [Act.put, List.setIfInBounds_toArray, List.set_cons_zero, List.set_cons_succ]
      refine takeL (i := 13) (v := .int .i64 (ka : Int)) rfl (by kernel_rfl) (by kernel_rfl) (by kernel_rfl) (fun _ _ _ h => h) (Or.inl ⟨by rfl, by intro w' hS; clear hS; go_simp⟩) hHeld ?_
      simp only [Act.put, List.setIfInBounds_toArray, List.set_cons_zero, List.set_cons_succ]
      refine takeL (i := 14) (v := .pointer (some ⟨gh, ka * 2, none⟩)) rfl (by kernel_rfl) (by kernel_rfl) (by kernel_rfl) (fun _ _ _ h => h) (Or.inl ⟨by rfl, by intro w' hS; clear hS; go_simp⟩) hHeld ?_
      simp only [Act.put, List.setIfInBounds_toArray, List.set_cons_zero, List.set_cons_succ]
      refine wpAnyH_ready (rs := [10, 15]) (by kernel_rfl) (by simp) ?_
      refine readyL rfl (fun K hK => ?_) (readyL rfl (fun K hK => ?_) AllReadyH.nil)
      · skip
        obtain ⟨y1, y2, y3, y4⟩ := P5.out.cells kb (by assumption)
        go_simp
        refine hK.out _ _ (hHeld) (fun hHeld => ?_)
        clear hK K
        try simp only [Act.put, List.setIfInBounds_toArray, List.set_cons_zero, List.set_cons_succ]
        clear y1 y2 y3 y4
        refine wpAnyH_ready (rs := [15]) (by kernel_rfl) (by simp) ?_
        refine readyL rfl (fun K hK => ?_) AllReadyH.nil
        obtain ⟨y1, y2, y3, y4⟩ := P5.out.cells ka (by assumption)
        go_simp
        refine hK.out _ _ (hHeld) (fun hHeld => ?_)
        clear hK K
        try simp only [Act.put, List.setIfInBounds_toArray, List.set_cons_zero, List.set_cons_succ]
        clear y1 y2 y3 y4
        refine wpAnyH_ready (rs := [16]) (by kernel_rfl) (by simp) ?_
        refine readyL rfl (fun K hK => ?_) AllReadyH.nil
        go_simp
        refine hK.out _ _ (hHeld) (fun hHeld => ?_)
        clear hK K
        try simp only [Act.put, List.setIfInBounds_toArray, List.set_cons_zero, List.set_cons_succ]
        refine wpAnyH_ready (rs := [17]) (by kernel_rfl) (by simp) ?_
        refine readyL rfl (fun K hK => ?_) AllReadyH.nil
        obtain ⟨y1, y2, y3, y4⟩ := P5.out.cells ka hka
        go_simp
        refine hK.out _ _ (⟨(hHeld.1.other (by simpa using HNE.out) _).other (by simpa using HNE.out) _, bset (bset hHeld.2 HLOW.out _) HLOW.out _⟩) (fun hHeld => ?_)
        clear hK K
        try simp only [Act.put, List.setIfInBounds_toArray, List.set_cons_zero, List.set_cons_succ]
        clear y1 y2 y3 y4
        have p6 := P5.out.store (by simp) ka l[kb]
        obtain ⟨u1, hu1⟩ : ∃ x, (u0.setCell ⟨gh, ka * 2, none⟩ (.int .i8 l[kb].1)).setCell ⟨gh, ka * 2 + 1, none⟩ (.int .i8 l[kb].2) = x := ⟨_, rfl⟩
        rw [hu1] at hHeld p6 ⊢
        clear hu1
        have P6 := Lib.hid p6
        clear p6
        refine wpAnyH_ready (rs := [18]) (by kernel_rfl) (by simp) ?_
        refine readyL rfl (fun K hK => ?_) AllReadyH.nil
        go_simp
        refine hK.out _ _ (hHeld) (fun hHeld => ?_)
        clear hK K
        try simp only [Act.put, List.setIfInBounds_toArray, List.set_cons_zero, List.set_cons_succ]
        refine wpAnyH_ready (rs := [19]) (by kernel_rfl) (by simp) ?_
        refine readyL rfl (fun K hK => ?_) AllReadyH.nil
        obtain ⟨y1, y2, y3, y4⟩ := P6.out.cells kb hkbl
        go_simp
        refine hK.out _ _ (⟨(hHeld.1.other (by simpa using HNE.out) _).other (by simpa using HNE.out) _, bset (bset hHeld.2 HLOW.out _) HLOW.out _⟩) (fun hHeld => ?_)
        clear hK K
        try simp only [Act.put, List.setIfInBounds_toArray, List.set_cons_zero, List.set_cons_succ]
        clear y1 y2 y3 y4
        have p7 := P6.out.store (by simp) kb l[ka]
        refine wpAnyH_done (by kernel_rfl) ?_ _
        have HH := Lib.hid hHeld
        have P7 := Lib.hid p7
        clear hHeld p7
        go_wp2_with fail
        go_meet
        case rel => exact ⟨HH.out.1, P7.out, HH.out.2⟩
      · skip
        obtain ⟨y1, y2, y3, y4⟩ := P5.out.cells ka (by assumption)
        go_simp
        refine hK.out _ _ (hHeld) (fun hHeld => ?_)
        clear hK K
        try simp only [Act.put, List.setIfInBounds_toArray, List.set_cons_zero, List.set_cons_succ]
        clear y1 y2 y3 y4
        refine wpAnyH_ready (rs := [10]) (by kernel_rfl) (by simp) ?_
        refine readyL rfl (fun K hK => ?_) AllReadyH.nil
        obtain ⟨y1, y2, y3, y4⟩ := P5.out.cells kb (by assumption)
        go_simp
        refine hK.out _ _ (hHeld) (fun hHeld => ?_)
        clear hK K
        try simp only [Act.put, List.setIfInBounds_toArray, List.set_cons_zero, List.set_cons_succ]
        clear y1 y2 y3 y4
        refine wpAnyH_ready (rs := [16]) (by kernel_rfl) (by simp) ?_
        refine readyL rfl (fun K hK => ?_) AllReadyH.nil
        go_simp
        refine hK.out _ _ (hHeld) (fun hHeld => ?_)
        clear hK K
        try simp only [Act.put, List.setIfInBounds_toArray, List.set_cons_zero, List.set_cons_succ]
        refine wpAnyH_ready (rs := [17]) (by kernel_rfl) (by simp) ?_
        refine readyL rfl (fun K hK => ?_) AllReadyH.nil
        obtain ⟨y1, y2, y3, y4⟩ := P5.out.cells ka hka
        go_simp
        refine hK.out _ _ (⟨(hHeld.1.other (by simpa using HNE.out) _).other (by simpa using HNE.out) _, bset (bset hHeld.2 HLOW.out _) HLOW.out _⟩) (fun hHeld => ?_)
        clear hK K
        try simp only [Act.put, List.setIfInBounds_toArray, List.set_cons_zero, List.set_cons_succ]
        clear y1 y2 y3 y4
        have p6 := P5.out.store (by simp) ka l[kb]
        obtain ⟨u1, hu1⟩ : ∃ x, (u0.setCell ⟨gh, ka * 2, none⟩ (.int .i8 l[kb].1)).setCell ⟨gh, ka * 2 + 1, none⟩ (.int .i8 l[kb].2) = x := ⟨_, rfl⟩
        rw [hu1] at hHeld p6 ⊢
        clear hu1
        have P6 := Lib.hid p6
        clear p6
        refine wpAnyH_ready (rs := [18]) (by kernel_rfl) (by simp) ?_
        refine readyL rfl (fun K hK => ?_) AllReadyH.nil
        go_simp
        refine hK.out _ _ (hHeld) (fun hHeld => ?_)
        clear hK K
        try simp only [Act.put, List.setIfInBounds_toArray, List.set_cons_zero, List.set_cons_succ]
        refine wpAnyH_ready (rs := [19]) (by kernel_rfl) (by simp) ?_
        refine readyL rfl (fun K hK => ?_) AllReadyH.nil
        obtain ⟨y1, y2, y3, y4⟩ := P6.out.cells kb hkbl
        go_simp
        refine hK.out _ _ (⟨(hHeld.1.other (by simpa using HNE.out) _).other (by simpa using HNE.out) _, bset (bset hHeld.2 HLOW.out _) HLOW.out _⟩) (fun hHeld => ?_)
        clear hK K
        try simp only [Act.put, List.setIfInBounds_toArray, List.set_cons_zero, List.set_cons_succ]
        clear y1 y2 y3 y4
        have p7 := P6.out.store (by simp) kb l[ka]
        refine wpAnyH_done (by kernel_rfl) ?_ _
        have HH := Lib.hid hHeld
        have P7 := Lib.hid p7
        clear hHeld p7
        go_wp2_with fail
        go_meet
        case rel => exact ⟨HH.out.1, P7.out, HH.out.2⟩
    obtain ⟨hV5, hO5, b5⟩ := hcut
    obtain ⟨w5, rfl⟩ : ∃ x, x = wc := ⟨_, rfl⟩
    have hsh : (l.set ka l[kb]).set kb l[ka] = swH l ka kb := by unfold swH; simp [List.getD, hka, hkb]
    rw [hsh] at hO5
    have HV5 := Lib.hid hV5
    have HO5 := Lib.hid hO5
    have V0_5 := Lib.hid (V0_1.out.below b5)
    have V1_5 := Lib.hid (V1_1.out.below b5)
    have V2_5 := Lib.hid (V2_1.out.below b5)
    have V3_5 := Lib.hid (V3_1.out.below b5)
    have B_5 := bstep B_1 b5
    clear hV5 hO5 HV3 HO3 b3 hsh hkbl
    have HR := Lib.hid hr
    clear b5
    have g1 := V0_5.out.cell (i := 0) rfl
    go_wp2_with fail
    go_loopw [58] (fun x w' => ∃ k : Nat, x = .int .i64 (k : Int) ∧ k ≤ n ∧ Var w' (w.heap.size + 1) (drumV (swT d ka kb k)) 31 ∧ w5.grownBy w' (some (w.heap.size + 1))) (fun x _ => n - (intOf x).toNat)
    case atStart => exact ⟨0, rfl, by omega, V1_5.out, World.grownBy.refl _ _⟩
    case round =>
      obtain ⟨k, rfl, hk, q1, qg⟩ := hrel
      have Q1 := Lib.hid q1
      have QG := Lib.hid qg
      clear q1 qg g1
      obtain ⟨E, hE⟩ : ∃ E, swT d ka kb k = E := ⟨_, rfl⟩
      have hEl : E.length = 96 := by rw [← hE, swT_len, hd]
      have hEr : Wd E := by rw [← hE]; exact swT_bd HR.out ka kb k
      rw [hE] at Q1
      have HE := Lib.hid (show swT d ka kb (k + 1) = swL E k ka kb by rw [← hE]; rfl)
      have HE0 := Lib.hid hE
      clear hE
      by_cases hlt : k < n
      · have hdl : decide ((k : Int) < (n : Int)) = true := decide_eq_true (by omega)
        have hk96 : k < 96 := by omega
        have hka32 : ka < 32 := by omega
        have hkb32 : kb < 32 := by omega
        have HPP := Lib.hid (put_put hEr (show k < E.length by omega) hka32 hkb32)
        go_wp2_with fail
        refine (c_has (w.heap.size + 1) k ka E _ (Q1.out.drum hEl) hEr hk96 hka32).mono ?_
        rintro e w' ⟨rfl, rfl⟩
        obtain ⟨pa, hpa⟩ : ∃ p, pinB E k ka = p := ⟨_, rfl⟩
        rw [hpa] at HPP ⊢
        go_wp2_with fail
        refine (c_has (w.heap.size + 1) k kb E _ (Q1.out.drum hEl) hEr hk96 hkb32).mono ?_
        rintro e w' ⟨rfl, rfl⟩
        obtain ⟨pb, hpb⟩ : ∃ p, pinB E k kb = p := ⟨_, rfl⟩
        rw [hpb] at HPP ⊢
        go_wp2_with fail
        refine (c_put (w.heap.size + 1) k ka pb E 31 _ Q1.out hEl hk96 hka32).mono ?_
        rintro e wa ⟨rfl, ra, ga⟩
        have RA := Lib.hid ra
        have GA := Lib.hid (QG.out.trans ga)
        clear ra ga
        go_wp2_with fail
        refine (c_put (w.heap.size + 1) k kb pa _ 31 _ RA.out (by simp [putL_len, hEl]) hk96 hkb32).mono ?_
        rintro e wb ⟨rfl, rb, gb⟩
        rw [HPP.out] at rb
        have RB := Lib.hid rb
        have GB := Lib.hid (GA.out.trans gb)
        clear rb gb hpa hpb
        go_wp2
        go_roundw
        case rel => exact ⟨k + 1, by go_num, by omega, by rw [HE.out]; exact RB.out, GB.out⟩
        case measure => simp [intOf]; omega
      · obtain rfl : k = n := by omega
        have hdl : decide ((k : Int) < (k : Int)) = false := decide_eq_false (by omega)
        have q6 : Below w.heap.size w wr := bgrown B_5 QG.out (fun j hj => by cases hj; omega)
        have hgne : w.heap.size + 1 ≠ g := by have := V3_1.out.lt; omega
        have Q2 := Lib.hid (V2_5.out.grown QG.out (by simp))
        have Q3 := Lib.hid (V3_5.out.grown QG.out (by simp))
        have Q4 := Lib.hid (HV5.out.grown QG.out (by simpa using hgne))
        have Q5 := Lib.hid ((HO5.out.base_le B_1.size).apart QG.out (fun j hj e => (HO5.out.base_le B_1.size).ne_var V1_5.out (by decide) (hj.trans e.symm)))
        clear QG
        go_wp2_with fail
        have hln : (Tryz.prog.info? 31).map (·.size) = some (drumV E).toList.length := by rw [drumV_len, hEl]; exact size_Drum
        have HGL := Lib.hid hgl
        refine wp_region_held_drew (S := fun w' => Var w' g #[.int .i16 (k : Int), .slice (some ⟨gh, 0, none⟩) l.length c3] 27 ∧ Var w' (w.heap.size + 1) (drumV E) 31 ∧ Below w.heap.size w w') (by kernel_rfl) ⟨Q4.out.drew, Q1.out.drew, bdrew q6⟩ (fun hHeld => ?_)
        have p2 := Q2.out.drew
        have p3 := Q3.out.drew
        have p5 := Q5.out.below (bdrew (Below.refl _ _))
        obtain ⟨u0, hu0⟩ : ∃ x, wr.drew = x := ⟨_, rfl⟩
        rw [hu0] at hHeld p2 p3 p5 ⊢
        clear hu0
        have P2 := Lib.hid p2
        have P3 := Lib.hid p3
        have P5 := Lib.hid p5
        clear p2 p3 p5
        refine takeL (i := 0) (v := .agg #[.int .i16 (k : Int), .slice (some ⟨gh, 0, none⟩) l.length c3]) rfl (by kernel_rfl) (by kernel_rfl) (by kernel_rfl) (fun _ _ _ h => h) (Or.inl ⟨by rfl, by intro w' hS; have y1 := hS.1.cell (i := 0) rfl; have y2 := hS.1.cell (i := 1) rfl; clear hS; go_simp⟩) hHeld ?_
        simp only [Act.put, List.setIfInBounds_toArray, List.set_cons_zero, List.set_cons_succ]
        refine takeL (i := 1) (v := .agg (drumV E)) rfl (by kernel_rfl) (by kernel_rfl) (by kernel_rfl) (fun _ _ _ h => h) (by simpa using yieldsIf_load_mid (S := fun w' => Var w' g #[.int .i16 (k : Int), .slice (some ⟨gh, 0, none⟩) l.length c3] 27 ∧ Var w' (w.heap.size + 1) (drumV E) 31 ∧ Below w.heap.size w w') (by rfl) _ _ rfl _ _ rfl (drumV E).toList _ (fun w' hS => hS.2.1.range) Tryz.underlying31 rfl hln) hHeld ?_
        simp only [Act.put, List.setIfInBounds_toArray, List.set_cons_zero, List.set_cons_succ]
        refine wpAnyH_ready (rs := [2]) (by kernel_rfl) (by simp) ?_
        refine readyL rfl (fun K hK => ?_) AllReadyH.nil
        have z1 := P2.out.cell (i := 0) rfl
        have z2 := P2.out.cell (i := 1) rfl
        have z3 := P2.out.frozen 0
        have z4 := P2.out.frozen 1
        go_simp
        refine hK.out _ _ ⟨(hHeld.1.other (by have := V3_1.out.lt; have := HGL.out; simp; omega) _).other (by have := V3_1.out.lt; have := HGL.out; simp; omega) _, (hHeld.2.1.other (by simp <;> omega) _).other (by simp <;> omega) _, bset (bset hHeld.2.2 (by simp <;> omega) _) (by simp <;> omega) _⟩ (fun hHeld => ?_)
        clear hK K z1 z2 z3 z4
        try simp only [Act.put, List.setIfInBounds_toArray, List.set_cons_zero, List.set_cons_succ]
        have R2 := Lib.hid ((P2.out.set 0 (.int .i16 (k : Int))).set 1 (.slice (some ⟨gh, 0, none⟩) l.length c3))
        have R3 := Lib.hid ((P3.out.other (p := ⟨w.heap.size + 1 + 1, 0, none⟩) (by simp <;> omega) (.int .i16 (k : Int))).other (p := ⟨w.heap.size + 1 + 1, 1, none⟩) (by simp <;> omega) (.slice (some ⟨gh, 0, none⟩) l.length c3))
        have R5 := Lib.hid ((P5.out.beside P2.out (by decide) 0 (.int .i16 (k : Int))).beside (P2.out.set 0 (.int .i16 (k : Int))) (by decide) 1 (.slice (some ⟨gh, 0, none⟩) l.length c3))
        refine wpAnyH_ready (rs := [3]) (by kernel_rfl) (by simp) ?_
        refine readyL rfl (fun K hK => ?_) AllReadyH.nil
        rw [if_pos (by rfl)]
        refine wp_storeD rfl R3.out rfl rfl size_Drum hEl zD_len ?_
        refine hK.out _ _ ⟨hHeld.1.rowOther _ (by have := V3_1.out.lt; have := HGL.out; omega), hHeld.2.1.rowOther _ (by omega), brow hHeld.2.2 (by omega) _⟩ (fun hHeld => ?_)
        clear hK K
        try simp only [Act.put, List.setIfInBounds_toArray, List.set_cons_zero, List.set_cons_succ]
        refine wpAnyH_ready (rs := [4]) (by kernel_rfl) (by simp) ?_
        refine readyL rfl (fun K hK => ?_) AllReadyH.nil
        go_simp
        refine hK.out _ _ hHeld (fun hHeld => ?_)
        clear hK K
        try simp only [Act.put, List.setIfInBounds_toArray, List.set_cons_zero, List.set_cons_succ]
        refine wpAnyH_done (by kernel_rfl) ?_ _
        have HH := Lib.hid hHeld
        clear hHeld
        go_wp2
        refine bodyPost_ret (results_frame_drum_int Tryz.results17 _ _ (w.heap.size + 1 + 1) (w.heap.size + 1 + 1 + 1) 27 31 _ E rfl (R2.out.rowOther _ (by omega)) hu2 rfl (by kernel_rfl) rfl (R3.out.row _) Tryz.underlying31 size_Drum hEl) rfl ⟨some ⟨gh, 0, none⟩, c3, ?_, ?_, HH.out.2.2⟩
        · rw [HC.out, HS.out, HF.out, HD.out, HE0.out, swH_len]; rfl
        · rw [HF.out, swH_len]; exact R5.out.rowBeside R3.out (by decide) _
  · obtain ⟨p, hp⟩ : ∃ p, cSw s l d a b = p := ⟨_, rfl⟩
    have HC := Lib.hid hp
    have hp0 : ¬ p = 0 := by rw [← hp]; exact hx
    have HS := Lib.hid (show sSw s l d a b = 0 by unfold sSw; rw [HC.out, if_neg hp0])
    have HF := Lib.hid (show fSw s l d a b = [] by unfold fSw; rw [HC.out, if_neg hp0])
    have HD := Lib.hid (show dSw s l d a b = zD by unfold dSw; rw [HC.out, if_neg hp0])
    have hx3 : (p != 0) = true := by simpa using hp0
    clear hp hx hp0
    go_enter Tryz.func17, Tryz.ntmps17
    go_upto_region 1 with (refine wpList_alloc_row rfl 31 rfl (.agg (drumV zD)) zero_Drum ?_)
    obtain ⟨w0, hw0⟩ : ∃ u, ((((w.alloc (.cells #[.int .i16 s, .slice A l.length c] 27)).alloc (.cells (drumV d) 31)).alloc (.cells #[.int .i16 0, .slice none 0 0] 27)).alloc (.cells (drumV zD) 31)) = u := ⟨_, rfl⟩
    rw [hw0] at v0 v1 v2 v3 B ⊢
    clear hw0
    have V0 := Lib.hid v0
    have V1 := Lib.hid v1
    have V2 := Lib.hid v2
    have V3 := Lib.hid v3
    clear v0 v1 v2 v3
    have hln : (Tryz.prog.info? 31).map (·.size) = some (drumV d).toList.length := by rw [drumV_len, hd]; exact size_Drum
    go_cut [11] from 16 to 25 (fun x w' => x = .int .i64 (cSw s l d a b) ∧ Below w0.heap.size w0 w')
    case first =>
      have HA := Lib.hid (h.below B)
      refine wp_region_held_drew (S := (Below w0.heap.size w0)) (by kernel_rfl) (bdrew (Below.refl _ _)) (fun hHeld => ?_)
      refine takeL (i := 0) (v := .agg #[.int .i16 s, .slice A l.length c]) rfl (by kernel_rfl) (by kernel_rfl) (by kernel_rfl) (fun _ _ _ h => h) (Or.inl ⟨by rfl, by intro w' hS; have y1 := (V0.out.below hS).cell (i := 0) rfl; have y2 := (V0.out.below hS).cell (i := 1) rfl; clear hS; go_simp⟩) hHeld ?_
      simp only [Act.put, List.setIfInBounds_toArray, List.set_cons_zero, List.set_cons_succ]
      refine takeL (i := 1) (v := .agg (drumV d)) rfl (by kernel_rfl) (by kernel_rfl) (by kernel_rfl) (fun _ _ _ h => h) (by simpa using yieldsIf_load_mid (S := (Below w0.heap.size w0)) (by rfl) _ _ rfl _ _ rfl (drumV d).toList _ (fun w' hS => (V1.out.below hS).range) Tryz.underlying31 rfl hln) hHeld ?_
      simp only [Act.put, List.setIfInBounds_toArray, List.set_cons_zero, List.set_cons_succ]
      refine takeL (i := 2) (v := .int .i64 a) rfl (by kernel_rfl) (by kernel_rfl) (by kernel_rfl) (fun _ _ _ h => h) (Or.inl ⟨by rfl, by intro w' hS; clear hS; go_simp⟩) hHeld ?_
      simp only [Act.put, List.setIfInBounds_toArray, List.set_cons_zero, List.set_cons_succ]
      refine takeL (i := 4) (v := .agg #[.int .i16 s, .slice A l.length c]) rfl (by kernel_rfl) (by kernel_rfl) (by kernel_rfl) (fun _ _ _ h => h) (Or.inl ⟨by rfl, by intro w' hS; have y1 := (V0.out.below hS).cell (i := 0) rfl; have y2 := (V0.out.below hS).cell (i := 1) rfl; clear hS; go_simp⟩) hHeld ?_
      simp only [Act.put, List.setIfInBounds_toArray, List.set_cons_zero, List.set_cons_succ]
      refine takeL (i := 5) (v := .agg (drumV d)) rfl (by kernel_rfl) (by kernel_rfl) (by kernel_rfl) (fun _ _ _ h => h) (by simpa using yieldsIf_load_mid (S := (Below w0.heap.size w0)) (by rfl) _ _ rfl _ _ rfl (drumV d).toList _ (fun w' hS => (V1.out.below hS).range) Tryz.underlying31 rfl hln) hHeld ?_
      simp only [Act.put, List.setIfInBounds_toArray, List.set_cons_zero, List.set_cons_succ]
      refine takeL (i := 6) (v := .int .i64 b) rfl (by kernel_rfl) (by kernel_rfl) (by kernel_rfl) (fun _ _ _ h => h) (Or.inl ⟨by rfl, by intro w' hS; clear hS; go_simp⟩) hHeld ?_
      simp only [Act.put, List.setIfInBounds_toArray, List.set_cons_zero, List.set_cons_succ]
      refine wpAnyH_ready (rs := [3]) (by kernel_rfl) (by simp) ?_
      refine readyL rfl (fun K hK => ?_) AllReadyH.nil
      go_simp
      refine (c_placeCode s A c l d _ _ _ (HA.out.below hHeld) hs hl hn hd).mono ?_
      rintro e wa ⟨rfl, hbk⟩
      go_wp2_with fail
      refine hK.out _ _ (bstep hHeld hbk) (fun hHeld => ?_)
      clear hK K
      try simp only [Act.put, List.setIfInBounds_toArray, List.set_cons_zero, List.set_cons_succ]
      clear hbk
      refine wpAnyH_ready (rs := [7]) (by kernel_rfl) (by simp) ?_
      refine readyL rfl (fun K hK => ?_) AllReadyH.nil
      go_simp
      refine (c_placeCode s A c l d _ _ _ (HA.out.below hHeld) hs hl hn hd).mono ?_
      rintro e wb ⟨rfl, hbk⟩
      go_wp2_with fail
      refine hK.out _ _ (bstep hHeld hbk) (fun hHeld => ?_)
      clear hK K
      try simp only [Act.put, List.setIfInBounds_toArray, List.set_cons_zero, List.set_cons_succ]
      clear hbk
      have hB := hHeld
      refine wpAnyH_ready (rs := [8]) (by kernel_rfl) (by simp) ?_
      refine readyL rfl (fun K hK => ?_) AllReadyH.nil
      go_simp
      refine hK.out _ _ (balloc hHeld _) (fun hHeld => ?_)
      clear hK K
      try simp only [Act.put, List.setIfInBounds_toArray, List.set_cons_zero, List.set_cons_succ]
      refine wpAnyH_ready (rs := [9]) (by kernel_rfl) (by simp) ?_
      refine readyL rfl (fun K hK => ?_) AllReadyH.nil
      go_simp
      refine (c_firstOfD_two _ _ _ _).mono ?_
      rintro e wc ⟨rfl, hbk⟩
      rw [show (if cP s l d 0 a = 0 then cP s l d 0 b else cP s l d 0 a) = cSw s l d a b from rfl]
      go_wp2_with fail
      refine hK.out _ _ (bstep hB hbk) (fun hHeld => ?_)
      clear hK K
      try simp only [Act.put, List.setIfInBounds_toArray, List.set_cons_zero, List.set_cons_succ]
      clear hbk
      refine wpAnyH_ready (rs := [10]) (by kernel_rfl) (by simp) ?_
      refine readyL rfl (fun K hK => ?_) AllReadyH.nil
      go_simp
      refine hK.out _ _ (hHeld) (fun hHeld => ?_)
      clear hK K
      try simp only [Act.put, List.setIfInBounds_toArray, List.set_cons_zero, List.set_cons_succ]
      refine wpAnyH_done (by kernel_rfl) ?_ _
      have HH := Lib.hid hHeld
      clear hHeld
      go_wp2_with fail
      go_meet
      case rel => exact ⟨rfl, HH.out⟩
    obtain ⟨rfl, b1⟩ := hcut
    obtain ⟨w1, rfl⟩ : ∃ x, x = wc := ⟨_, rfl⟩
    have V0_1 := Lib.hid (V0.out.below b1)
    have V1_1 := Lib.hid (V1.out.below b1)
    have V2_1 := Lib.hid (V2.out.below b1)
    have V3_1 := Lib.hid (V3.out.below b1)
    have B_1 := bstep B b1
    clear b1
    rw [HC.out]
    have zf := V2_1.out.cell (i := 0) rfl
    have zg := V2_1.out.cell (i := 1) rfl
    have zh := V2_1.out.frozen 0
    have zi := V2_1.out.frozen 1
    have Z3 := Lib.hid ((V3_1.out.other (p := ⟨w.heap.size + 1 + 1, 0, none⟩) (by simp) (.int .i16 0)).other (p := ⟨w.heap.size + 1 + 1, 1, none⟩) (by simp) (.slice none 0 0))
    have Z2 := Lib.hid ((V2_1.out.set 0 (.int .i16 0)).set 1 (.slice none 0 0))
    have BB := bset (bset B_1 (p := ⟨w.heap.size + 1 + 1, 0, none⟩) (by simp; omega) (.int .i16 0)) (p := ⟨w.heap.size + 1 + 1, 1, none⟩) (by simp; omega) (.slice none 0 0)
    go_wp2_with (first | (refine wpList_bz (by rfl) rfl Tryz.underlying31 zero_Drum size_u32 ?_) | (refine wpList_storeD rfl rfl Z3.out rfl rfl size_Drum zD_len zD_len ?_))
    refine bodyPost_ret (results_frame_drum_int Tryz.results17 _ _ (w.heap.size + 1 + 1) (w.heap.size + 1 + 1 + 1) 27 31 _ zD rfl (Z2.out.rowOther _ (by simp)) hu2 rfl (by kernel_rfl) rfl (Z3.out.row _) Tryz.underlying31 size_Drum zD_len) rfl ⟨none, 0, ?_, ?_, brow BB (by omega) _⟩
    · rw [HC.out, HS.out, HF.out, HD.out]; rfl
    · rw [HF.out]; exact World.ownsRow_nil _ _ _ _

end Go.Proofs.YtnakdlfjjeligaaGreat
