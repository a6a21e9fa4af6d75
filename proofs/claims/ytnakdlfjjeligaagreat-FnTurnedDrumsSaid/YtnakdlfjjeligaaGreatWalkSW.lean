/-
  SwapTracks, in the reference and in the program.
-/
import Derived.Test.YtnakdlfjjeligaaGreatPureU
import Derived.Test.YtnakdlfjjeligaaGreatWalkDJ
import Derived.Test.YtnakdlfjjeligaaGreatData
import Derived.Deep.CutRange
import Derived.Lib.LazyBuf
namespace Go.Proofs.YtnakdlfjjeligaaGreat
open Go.RowKit
set_option linter.unusedVariables false
set_option linter.unusedSimpArgs false
set_option maxRecDepth 4000

theorem grow_row (w : World) (b : Nat) (cs : Array Value) : w.grownBy (w.setRow b cs) (some b) :=
  have h := World.grownBy.refl w (some b)
  ⟨h.os, h.tape, h.output, by simp, fun i hi hne => (setRow_other w b i cs (fun e => hne (by rw [e]))).trans (h.block i hi hne)⟩
theorem Own2.rowBeside {k1 k2 : IntKind} {E t : TypeId} {w : World} {base b : Nat} {v : Value} {l : List (Int × Int)} {cs : Array Value} (h : Own2 k1 k2 E w base v l) (hv : Var w b cs t) (ht : t ≠ E) (cs' : Array Value) : Own2 k1 k2 E (w.setRow b cs') base v l :=
  h.apart (grow_row w b cs') (fun k hk e => h.ne_var hv ht (hk.trans e.symm))
theorem Own2.start {k1 k2 : IntKind} {E : TypeId} {w : World} {base n c : Nat} {A : Option Addr} {l : List (Int × Int)} (h : Own2 k1 k2 E w base (.slice A n c) l) (hl : 0 < l.length) : ∃ g, A = some ⟨g, 0, none⟩ := by
  rcases h.2 with ⟨h1, h2⟩ | ⟨g, cap, cur, h1, _⟩
  · obtain ⟨b, off, e, _⟩ := h.at_.get hl
    simp only [Value.slice.injEq] at h1
    rw [h1.1] at e; cases e
  · simp only [Value.slice.injEq] at h1
    exact ⟨g, h1.1⟩
theorem results_frame_drum_int {P : Program} {fn : Func} {p q r : Tmp} {tf td e : TypeId} {df : TypeDesc} (h : fn.results = #[.cell p tf, .cell q td, .tmp r]) (tmps : Array Value) (w : World) (g g2 : Nat) (t t2 : TypeId) (cs : Array Value) (d : List Int)
    (hp : tmps.getD p undef = .pointer (some ⟨g, 0, none⟩)) (hg : Var w g cs t) (huf : P.underlying tf = some df) (hdf : (match df with | .struct _ | .array _ _ => true | _ => false) = true) (hif : (P.info? tf).map (·.size) = some cs.size)
    (hq : tmps.getD q undef = .pointer (some ⟨g2, 0, none⟩)) (hg2 : Var w g2 (drumV d) t2) (hu : P.underlying td = some (.array 96 e)) (hi : (P.info? td).map (·.size) = some 96) (hd : d.length = 96) :
    (results fn tmps).run P w = .ok (.tuple #[.agg cs, .agg (drumV d), tmps.getD r undef]) w := by
  have hp' : tmps[p]?.getD undef = .pointer (some ⟨g, 0, none⟩) := by simpa using hp
  have hq' : tmps[q]?.getD undef = .pointer (some ⟨g2, 0, none⟩) := by simpa using hq
  simp [results, h, hp', hq', asAddr, run_loadVar_row w g t tf cs (0, 0) _ hg huf hdf hif, run_loadVar_row w g2 t2 td (drumV d) (0, 0) _ hg2 hu rfl (by rw [drumV_size, hd]; exact hi)]

set_option maxHeartbeats 1600000 in
theorem c_specSwapTracks (s : Int) (A : Option Addr) (c : Nat) (l : List (Int × Int)) (d : List Int) (a b : Int) (w : World) (h : At2 .i8 .i8 w A l) (hs : W16 s) (hl : Whs l) (hn : l.length ≤ 1073741824) (hd : d.length = 96) (hr : ∀ x ∈ d, 0 ≤ x ∧ x ≤ 4294967295) (hba : -9223372036854775808 ≤ a ∧ a ≤ 9223372036854775807) (hbb : -9223372036854775808 ≤ b ∧ b ≤ 9223372036854775807) :
    Calls Tryz.prog 18 #[.agg #[.int .i16 s, .slice A l.length c], .agg (drumV d), .int .i64 a, .int .i64 b] w fun e w' => ∃ A' c', e = .returned (.tuple #[.agg #[.int .i16 (sSw s l d a b), .slice A' (fSw s l d a b).length c'], .agg (drumV (dSw s l d a b)), .int .i64 (cSw s l d a b)]) ∧ Own2 .i8 .i8 56 w' w.heap.size (.slice A' (fSw s l d a b).length c') (fSw s l d a b) ∧ Below w.heap.size w w' := by
  have hu2 := Tryz.underlying27
  have v0 : Var ((((w.alloc (.cells #[.int .i16 s, .slice A l.length c] 27)).alloc (.cells (drumV d) 31)).alloc (.cells #[.int .i16 0, .slice none 0 0] 27)).alloc (.cells (drumV zD) 31)) w.heap.size #[.int .i16 s, .slice A l.length c] 27 := (((Var.new w _ _).old _).old _).old _
  have v1 : Var ((((w.alloc (.cells #[.int .i16 s, .slice A l.length c] 27)).alloc (.cells (drumV d) 31)).alloc (.cells #[.int .i16 0, .slice none 0 0] 27)).alloc (.cells (drumV zD) 31)) (w.heap.size + 1) (drumV d) 31 := by simpa using ((Var.new (w.alloc (.cells #[.int .i16 s, .slice A l.length c] 27)) (drumV d) 31).old (.cells #[.int .i16 0, .slice none 0 0] 27)).old (.cells (drumV zD) 31)
  have v2 : Var ((((w.alloc (.cells #[.int .i16 s, .slice A l.length c] 27)).alloc (.cells (drumV d) 31)).alloc (.cells #[.int .i16 0, .slice none 0 0] 27)).alloc (.cells (drumV zD) 31)) (w.heap.size + 1 + 1) #[.int .i16 0, .slice none 0 0] 27 := by simpa using (Var.new ((w.alloc (.cells #[.int .i16 s, .slice A l.length c] 27)).alloc (.cells (drumV d) 31)) #[.int .i16 0, .slice none 0 0] 27).old (.cells (drumV zD) 31)
  have v3 : Var ((((w.alloc (.cells #[.int .i16 s, .slice A l.length c] 27)).alloc (.cells (drumV d) 31)).alloc (.cells #[.int .i16 0, .slice none 0 0] 27)).alloc (.cells (drumV zD) 31)) (w.heap.size + 1 + 1 + 1) (drumV zD) 31 := by simpa using Var.new (((w.alloc (.cells #[.int .i16 s, .slice A l.length c] 27)).alloc (.cells (drumV d) 31)).alloc (.cells #[.int .i16 0, .slice none 0 0] 27)) (drumV zD) 31
  have B : Below w.heap.size w ((((w.alloc (.cells #[.int .i16 s, .slice A l.length c] 27)).alloc (.cells (drumV d) 31)).alloc (.cells #[.int .i16 0, .slice none 0 0] 27)).alloc (.cells (drumV zD) 31)) := balloc (balloc (balloc (balloc (Below.refl _ w) _) _) _) _
  have V0 := Lib.hid v0
  have V1 := Lib.hid v1
  have V2 := Lib.hid v2
  have V3 := Lib.hid v3
  clear v0 v1 v2 v3
  by_cases hx : cP s l d 0 a = 0
  · by_cases hy : cP s l d 0 b = 0
    · obtain ⟨hf, hdd, _, a1, a2⟩ := cP_zero hx
      obtain ⟨_, _, _, b1, b2⟩ := cP_zero hy
      obtain ⟨⟨s1, s2⟩, ⟨n1, n2⟩, _⟩ := okF_iff.1 hf
      obtain ⟨ka, rfl⟩ := Int.eq_ofNat_of_zero_le a1
      obtain ⟨kb, rfl⟩ := Int.eq_ofNat_of_zero_le b1
      obtain ⟨n, rfl⟩ := Int.eq_ofNat_of_zero_le (show 0 ≤ s by omega)
      have hC0 : cSw (n : Int) l d (ka : Int) (kb : Int) = 0 := by unfold cSw; rw [if_pos hx, hy]
      have HC := Lib.hid hC0
      have HS := Lib.hid (show sSw (n : Int) l d (ka : Int) (kb : Int) = n by unfold sSw; rw [if_pos hC0])
      have HF := Lib.hid (show fSw (n : Int) l d (ka : Int) (kb : Int) = swH l ka kb by unfold fSw; rw [if_pos hC0, Int.toNat_natCast, Int.toNat_natCast])
      have HD := Lib.hid (show dSw (n : Int) l d (ka : Int) (kb : Int) = swT d ka kb n by unfold dSw; rw [if_pos hC0, Int.toNat_natCast, Int.toNat_natCast, Int.toNat_natCast])
      have HX := Lib.hid hx
      have HY := Lib.hid hy
      have hka : ka < l.length := by omega
      have hkb : kb < l.length := by omega
      have hl24 : l.length ≤ 24 := by omega
      have hn96 : n ≤ 96 := by omega
      have hn2 : ([] : List (Int × Int)).length + l.length ≤ 1073741824 := by simpa using hn
      clear hx hy hf hdd a1 a2 b1 b2 s1 s2 n1 n2 hC0 hba hbb
      go_enter Tryz.func18, Tryz.ntmps18
      go_wp2_with (refine wpList_alloc_row rfl 31 rfl (.agg (drumV zD)) zero_Drum ?_)
      refine (c_l02Place w.heap.size (w.heap.size + 1) (n : Int) A c l d _ _ _ V0.out.frame (h.below B) (V1.out.drum hd) hs hl hn).mono ?_
      rintro e w1 ⟨rfl, b1⟩
      have V0_1 := Lib.hid (V0.out.below b1)
      have V1_1 := Lib.hid (V1.out.below b1)
      have V2_1 := Lib.hid (V2.out.below b1)
      have V3_1 := Lib.hid (V3.out.below b1)
      have B_1 := bstep B b1
      clear b1
      rw [HX.out]
      go_wp2_with fail
      refine (c_l02Place w.heap.size (w.heap.size + 1) (n : Int) A c l d _ _ _ V0_1.out.frame (h.below B_1) (V1_1.out.drum hd) hs hl hn).mono ?_
      rintro e w9 ⟨rfl, b9⟩
      have V0_9 := Lib.hid (V0_1.out.below b9)
      have V1_9 := Lib.hid (V1_1.out.below b9)
      have V2_9 := Lib.hid (V2_1.out.below b9)
      have V3_9 := Lib.hid (V3_1.out.below b9)
      have B_9 := bstep B_1 b9
      clear b9
      rw [HY.out]
      go_upto_region 6 with fail
      have HA2 := Lib.hid (h.below B_9)
      go_cut [12] from 25 to 31 (fun x w' => ∃ g A' c', x = .pointer (some ⟨g, 0, none⟩) ∧ Var w' g #[.int .i16 (n : Int), .slice A' l.length c'] 27 ∧ Own2 .i8 .i8 56 w' w9.heap.size (.slice A' l.length c') l ∧ w9.heap.size ≤ g ∧ Below w9.heap.size w9 w')
      case first =>
        refine wp_region_held_drew (S := (Below w9.heap.size w9)) (by kernel_rfl) (bdrew (Below.refl _ _)) (fun hHeld => ?_)
        obtain ⟨u0, hu0⟩ : ∃ x, w9.drew = x := ⟨_, rfl⟩
        rw [hu0] at hHeld ⊢
        clear hu0
        refine takeL (i := 0) (v := .pointer (some ⟨w.heap.size, 0, none⟩)) rfl (by kernel_rfl) (by kernel_rfl) (by kernel_rfl) (fun _ _ _ h => h) (Or.inl ⟨by rfl, by intro w' hS; clear hS; go_simp⟩) hHeld ?_
        simp only [Act.put, List.setIfInBounds_toArray, List.set_cons_zero, List.set_cons_succ]
        refine takeL (i := 1) (v := .int .i16 (n : Int)) rfl (by kernel_rfl) (by kernel_rfl) (by kernel_rfl) (fun _ _ _ h => h) (Or.inl ⟨by rfl, by intro w' hS; have y1 := (V0_9.out.below hS).frame.2.1; have y2 := (V0_9.out.below hS).frame.2.2; clear hS; go_simp⟩) hHeld ?_
        simp only [Act.put, List.setIfInBounds_toArray, List.set_cons_zero, List.set_cons_succ]
        refine takeL (i := 3) (v := .pointer (some ⟨w.heap.size, 1, none⟩)) rfl (by kernel_rfl) (by kernel_rfl) (by kernel_rfl) (fun _ _ _ h => h) (Or.inl ⟨by rfl, by intro w' hS; clear hS; go_simp⟩) hHeld ?_
        simp only [Act.put, List.setIfInBounds_toArray, List.set_cons_zero, List.set_cons_succ]
        refine takeL (i := 4) (v := .slice A l.length c) rfl (by kernel_rfl) (by kernel_rfl) (by kernel_rfl) (fun _ _ _ h => h) (Or.inl ⟨by rfl, by intro w' hS; have y1 := (V0_9.out.below hS).frame.2.1; have y2 := (V0_9.out.below hS).frame.2.2; clear hS; go_simp⟩) hHeld ?_
        simp only [Act.put, List.setIfInBounds_toArray, List.set_cons_zero, List.set_cons_succ]
        refine wpAnyH_ready (rs := [2, 7]) (by kernel_rfl) (by simp) ?_
        refine readyL rfl (fun K hK => ?_) (readyL rfl (fun K hK => ?_) AllReadyH.nil)
        · skip
          go_simp
          have ho := Own2.lit0 (k1 := .i8) (k2 := .i8) (E := 56) (w := u0) (base := w9.heap.size) hHeld.size
          refine hK.out _ _ (balloc hHeld (.cells #[] 56)) (fun hHeld => ?_)
          clear hK K
          try simp only [Act.put, List.setIfInBounds_toArray, List.set_cons_zero, List.set_cons_succ]
          obtain ⟨u1, huu1⟩ : ∃ x, x = u0.alloc (.cells #[] 56) := ⟨_, rfl⟩
          rw [← huu1] at hHeld ho ⊢
          clear huu1
          refine wpAnyH_ready (rs := [5, 7]) (by kernel_rfl) (by simp) ?_
          refine readyL rfl (fun K hK => ?_) (readyL rfl (fun K hK => ?_) AllReadyH.nil)
          · skip
            rw [if_pos (by rfl)]
            refine append_pairsW (.tmp 27) (.tmp 29) 25 25 rfl 56 56 .i8 .i8 2 Tryz.underlying25 Tryz.underlying25 info_Hammer (by decide) w9.heap.size _ _ rfl ho _ _ l rfl (HA2.out.below hHeld) hn2 hHeld.size ?_
            intro A3 c3 w3 ho3 hg3
            have hbg := bgrown hHeld hg3 (fun j hj => ho.low hj)
            clear ho hg3
            refine hK.out _ _ (hbg) (fun hHeld => ?_)
            clear hK K
            try simp only [Act.put, List.setIfInBounds_toArray, List.set_cons_zero, List.set_cons_succ]
            clear hbg
            rw [List.nil_append] at ho3 ⊢
            refine takeL (i := 6) (v := .agg #[.int .i16 (n : Int), .slice A3 l.length c3]) rfl (by kernel_rfl) (by kernel_rfl) (by kernel_rfl) (fun _ _ _ h => h) (Or.inl ⟨by rfl, by intro w' hS; clear hS; go_simp⟩) hHeld ?_
            simp only [Act.put, List.setIfInBounds_toArray, List.set_cons_zero, List.set_cons_succ]
            refine wpAnyH_ready (rs := [7]) (by kernel_rfl) (by simp) ?_
            refine readyL rfl (fun K hK => ?_) AllReadyH.nil
            have ho := ho3; clear ho3
            go_simp
            have hV := Var.new w3 #[.int .i16 0, .slice none 0 0] 27
            obtain ⟨g, hg⟩ : ∃ g : Nat, g = w3.heap.size := ⟨_, rfl⟩
            have hgl : w9.heap.size ≤ g := by rw [hg]; exact hHeld.size
            rw [← hg] at hV ⊢
            replace ho := ho.alloc (.cells #[.int .i16 0, .slice none 0 0] 27)
            refine hK.out _ _ (balloc hHeld (.cells #[.int .i16 0, .slice none 0 0] 27)) (fun hHeld => ?_)
            clear hK K
            try simp only [Act.put, List.setIfInBounds_toArray, List.set_cons_zero, List.set_cons_succ]
            obtain ⟨u2, huu2⟩ : ∃ x, x = w3.alloc (.cells #[.int .i16 0, .slice none 0 0] 27) := ⟨_, rfl⟩
            rw [← huu2] at hHeld hV ho ⊢
            clear huu2
            clear hg
            have ho3 := ho; clear ho
            refine wpAnyH_ready (rs := [8]) (by kernel_rfl) (by simp) ?_
            refine readyL rfl (fun K hK => ?_) AllReadyH.nil
            have z1 := hV.cell (i := 0) rfl
            have z2 := hV.cell (i := 1) rfl
            have z3 := hV.frozen 0
            have z4 := hV.frozen 1
            go_simp
            refine hK.out _ _ (bset (bset hHeld (by simp <;> omega) _) (by simp <;> omega) _) (fun hHeld => ?_)
            clear hK K
            try simp only [Act.put, List.setIfInBounds_toArray, List.set_cons_zero, List.set_cons_succ]
            clear z1 z2 z3 z4
            refine wpAnyH_done (by kernel_rfl) ?_ _
            have HH := Lib.hid hHeld
            have HV := Lib.hid ((hV.set 0 (.int .i16 (n : Int))).set 1 (.slice A3 l.length c3))
            have HO := Lib.hid ((ho3.beside hV (by decide) 0 (.int .i16 (n : Int))).beside (hV.set 0 (.int .i16 (n : Int))) (by decide) 1 (.slice A3 l.length c3))
            clear hHeld hV ho3
            go_wp2_with fail
            go_meet
            case rel => exact ⟨g, A3, c3, rfl, HV.out, HO.out, hgl, HH.out⟩
          · skip
            go_simp
            have hV := Var.new u1 #[.int .i16 0, .slice none 0 0] 27
            obtain ⟨g, hg⟩ : ∃ g : Nat, g = u1.heap.size := ⟨_, rfl⟩
            have hgl : w9.heap.size ≤ g := by rw [hg]; exact hHeld.size
            rw [← hg] at hV ⊢
            replace ho := ho.alloc (.cells #[.int .i16 0, .slice none 0 0] 27)
            refine hK.out _ _ (balloc hHeld (.cells #[.int .i16 0, .slice none 0 0] 27)) (fun hHeld => ?_)
            clear hK K
            try simp only [Act.put, List.setIfInBounds_toArray, List.set_cons_zero, List.set_cons_succ]
            obtain ⟨u3, huu3⟩ : ∃ x, x = u1.alloc (.cells #[.int .i16 0, .slice none 0 0] 27) := ⟨_, rfl⟩
            rw [← huu3] at hHeld hV ho ⊢
            clear huu3
            clear hg
            refine wpAnyH_ready (rs := [5]) (by kernel_rfl) (by simp) ?_
            refine readyL rfl (fun K hK => ?_) AllReadyH.nil
            rw [if_pos (by rfl)]
            refine append_pairsW (.tmp 27) (.tmp 29) 25 25 rfl 56 56 .i8 .i8 2 Tryz.underlying25 Tryz.underlying25 info_Hammer (by decide) w9.heap.size _ _ rfl ho _ _ l rfl (HA2.out.below hHeld) hn2 hHeld.size ?_
            intro A3 c3 w3 ho3 hg3
            replace hV := hV.grown hg3 (ho.ne_var hV (by decide))
            have hbg := bgrown hHeld hg3 (fun j hj => ho.low hj)
            clear ho hg3
            refine hK.out _ _ (hbg) (fun hHeld => ?_)
            clear hK K
            try simp only [Act.put, List.setIfInBounds_toArray, List.set_cons_zero, List.set_cons_succ]
            clear hbg
            rw [List.nil_append] at ho3 ⊢
            refine takeL (i := 6) (v := .agg #[.int .i16 (n : Int), .slice A3 l.length c3]) rfl (by kernel_rfl) (by kernel_rfl) (by kernel_rfl) (fun _ _ _ h => h) (Or.inl ⟨by rfl, by intro w' hS; clear hS; go_simp⟩) hHeld ?_
            simp only [Act.put, List.setIfInBounds_toArray, List.set_cons_zero, List.set_cons_succ]
            refine wpAnyH_ready (rs := [8]) (by kernel_rfl) (by simp) ?_
            refine readyL rfl (fun K hK => ?_) AllReadyH.nil
            have z1 := hV.cell (i := 0) rfl
            have z2 := hV.cell (i := 1) rfl
            have z3 := hV.frozen 0
            have z4 := hV.frozen 1
            go_simp
            refine hK.out _ _ (bset (bset hHeld (by simp <;> omega) _) (by simp <;> omega) _) (fun hHeld => ?_)
            clear hK K
            try simp only [Act.put, List.setIfInBounds_toArray, List.set_cons_zero, List.set_cons_succ]
            clear z1 z2 z3 z4
            refine wpAnyH_done (by kernel_rfl) ?_ _
            have HH := Lib.hid hHeld
            have HV := Lib.hid ((hV.set 0 (.int .i16 (n : Int))).set 1 (.slice A3 l.length c3))
            have HO := Lib.hid ((ho3.beside hV (by decide) 0 (.int .i16 (n : Int))).beside (hV.set 0 (.int .i16 (n : Int))) (by decide) 1 (.slice A3 l.length c3))
            clear hHeld hV ho3
            go_wp2_with fail
            go_meet
            case rel => exact ⟨g, A3, c3, rfl, HV.out, HO.out, hgl, HH.out⟩
        · skip
          go_simp
          have hV := Var.new u0 #[.int .i16 0, .slice none 0 0] 27
          obtain ⟨g, hg⟩ : ∃ g : Nat, g = u0.heap.size := ⟨_, rfl⟩
          have hgl : w9.heap.size ≤ g := by rw [hg]; exact hHeld.size
          rw [← hg] at hV ⊢
          refine hK.out _ _ (balloc hHeld (.cells #[.int .i16 0, .slice none 0 0] 27)) (fun hHeld => ?_)
          clear hK K
          try simp only [Act.put, List.setIfInBounds_toArray, List.set_cons_zero, List.set_cons_succ]
          obtain ⟨u4, huu4⟩ : ∃ x, x = u0.alloc (.cells #[.int .i16 0, .slice none 0 0] 27) := ⟨_, rfl⟩
          rw [← huu4] at hHeld hV ⊢
          clear huu4
          clear hg
          refine wpAnyH_ready (rs := [2]) (by kernel_rfl) (by simp) ?_
          refine readyL rfl (fun K hK => ?_) AllReadyH.nil
          go_simp
          have ho := Own2.lit0 (k1 := .i8) (k2 := .i8) (E := 56) (w := u4) (base := w9.heap.size) hHeld.size
          replace hV := hV.old (.cells #[] 56)
          refine hK.out _ _ (balloc hHeld (.cells #[] 56)) (fun hHeld => ?_)
          clear hK K
          try simp only [Act.put, List.setIfInBounds_toArray, List.set_cons_zero, List.set_cons_succ]
          obtain ⟨u5, huu5⟩ : ∃ x, x = u4.alloc (.cells #[] 56) := ⟨_, rfl⟩
          rw [← huu5] at hHeld ho hV ⊢
          clear huu5
          refine wpAnyH_ready (rs := [5]) (by kernel_rfl) (by simp) ?_
          refine readyL rfl (fun K hK => ?_) AllReadyH.nil
          rw [if_pos (by rfl)]
          refine append_pairsW (.tmp 27) (.tmp 29) 25 25 rfl 56 56 .i8 .i8 2 Tryz.underlying25 Tryz.underlying25 info_Hammer (by decide) w9.heap.size _ _ rfl ho _ _ l rfl (HA2.out.below hHeld) hn2 hHeld.size ?_
          intro A3 c3 w3 ho3 hg3
          replace hV := hV.grown hg3 (ho.ne_var hV (by decide))
          have hbg := bgrown hHeld hg3 (fun j hj => ho.low hj)
          clear ho hg3
          refine hK.out _ _ (hbg) (fun hHeld => ?_)
          clear hK K
          try simp only [Act.put, List.setIfInBounds_toArray, List.set_cons_zero, List.set_cons_succ]
          clear hbg
          rw [List.nil_append] at ho3 ⊢
          refine takeL (i := 6) (v := .agg #[.int .i16 (n : Int), .slice A3 l.length c3]) rfl (by kernel_rfl) (by kernel_rfl) (by kernel_rfl) (fun _ _ _ h => h) (Or.inl ⟨by rfl, by intro w' hS; clear hS; go_simp⟩) hHeld ?_
          simp only [Act.put, List.setIfInBounds_toArray, List.set_cons_zero, List.set_cons_succ]
          refine wpAnyH_ready (rs := [8]) (by kernel_rfl) (by simp) ?_
          refine readyL rfl (fun K hK => ?_) AllReadyH.nil
          have z1 := hV.cell (i := 0) rfl
          have z2 := hV.cell (i := 1) rfl
          have z3 := hV.frozen 0
          have z4 := hV.frozen 1
          go_simp
          refine hK.out _ _ (bset (bset hHeld (by simp <;> omega) _) (by simp <;> omega) _) (fun hHeld => ?_)
          clear hK K
          try simp only [Act.put, List.setIfInBounds_toArray, List.set_cons_zero, List.set_cons_succ]
          clear z1 z2 z3 z4
          refine wpAnyH_done (by kernel_rfl) ?_ _
          have HH := Lib.hid hHeld
          have HV := Lib.hid ((hV.set 0 (.int .i16 (n : Int))).set 1 (.slice A3 l.length c3))
          have HO := Lib.hid ((ho3.beside hV (by decide) 0 (.int .i16 (n : Int))).beside (hV.set 0 (.int .i16 (n : Int))) (by decide) 1 (.slice A3 l.length c3))
          clear hHeld hV ho3
          go_wp2_with fail
          go_meet
          case rel => exact ⟨g, A3, c3, rfl, HV.out, HO.out, hgl, HH.out⟩

      obtain ⟨g, A3, c3, rfl, hV3, hO3, hgl, b3⟩ := hcut
      obtain ⟨w3, rfl⟩ : ∃ x, x = wc := ⟨_, rfl⟩
      obtain ⟨gh, rfl⟩ := hO3.start (by omega)
      have HV3 := Lib.hid hV3
      have HO3 := Lib.hid hO3
      have V0_3 := Lib.hid (V0_9.out.below b3)
      have V1_3 := Lib.hid (V1_9.out.below b3)
      have V2_3 := Lib.hid (V2_9.out.below b3)
      have V3_3 := Lib.hid (V3_9.out.below b3)
      have B_3 := bstep B_9 b3
      clear hV3 hO3
      go_upto_region 7 with fail
      go_cut [] from 32 to 40 (fun w' => Var w' g #[.int .i16 (n : Int), .slice (some ⟨gh, 0, none⟩) l.length c3] 27 ∧ Own2 .i8 .i8 56 w' w9.heap.size (.slice (some ⟨gh, 0, none⟩) l.length c3) (l.set ka l[kb]) ∧ Below w9.heap.size w9 w')
      case first =>
        have F2 : ∀ x : After w3, x.w.cell? ⟨g, 1, none⟩ = some (.slice (some ⟨gh, 0, none⟩) l.length c3) := fun x => keepc (HV3.out.cell rfl) x.below
        have F0 : ∀ x : After w3, x.w.cell? ⟨w.heap.size, 1, none⟩ = some (.slice A l.length c) := fun x => keepc V0_3.out.frame.2.2 x.below
        obtain ⟨ba, off, hAe, hbl, hc⟩ := (h.below B_3).get (by omega)
        subst hAe
        have K1 : ∀ x : After w3, _ := fun x => keepc (hc kb hkb).1 x.below
        have K2 : ∀ x : After w3, _ := fun x => keepc (hc kb hkb).2 x.below
        have i1 : (kb : Int) < (l.length : Int) := by omega
        have i2 : (ka : Int) < (l.length : Int) := by omega
        have hdl : ka < (l).length := by first | omega | (simp; omega)
        have HO := Lib.hid (And.intro HO3.out hdl)
        clear hc hdl
        refine region_tail 8 (by kernel_rfl) (by kernel_rfl) ?_
        simp only [List.take_succ_cons, List.take_zero, List.drop_succ_cons, List.drop_zero]
        repeat (go_big_quiet_step (fail))
        refine wpQuiet_nil ?_
        intro w2 hb2
        clear F2 F0 K1 K2
        obtain ⟨y1, y2, y3, y4⟩ := (HO.out.1.below hb2).cells ka HO.out.2
        have HB2 := Lib.hid hb2
        clear hb2
        go_wp2
        go_meet
        case rel =>
          have hb2 := HB2.out
          have o1 := (HO.out.1.below hb2).store (by simp) ka (l[kb])
          have hlow : w9.heap.size ≤ gh := HO.out.1.low (k := gh) rfl
          have hv := (HV3.out.below hb2)
          have hne : g ≠ gh := fun e => HO.out.1.ne_var HV3.out (by decide) (by rw [e]; rfl)
          exact ⟨(hv.other (by simpa using hne) _).other (by simpa using hne) _, o1, bset (bset (bstep b3 hb2) hlow _) hlow _⟩
      obtain ⟨hV4, hO4, b4⟩ := hcut
      obtain ⟨w4, rfl⟩ : ∃ x, x = wc := ⟨_, rfl⟩
      have HV4 := Lib.hid hV4
      have HO4 := Lib.hid hO4
      have V0_4 := Lib.hid (V0_9.out.below b4)
      have V1_4 := Lib.hid (V1_9.out.below b4)
      have V2_4 := Lib.hid (V2_9.out.below b4)
      have V3_4 := Lib.hid (V3_9.out.below b4)
      have B_4 := bstep B_9 b4
      clear hV4 hO4 HV3 HO3 b3
      go_upto_region 8 with fail
      go_cut [] from 41 to 49 (fun w' => Var w' g #[.int .i16 (n : Int), .slice (some ⟨gh, 0, none⟩) l.length c3] 27 ∧ Own2 .i8 .i8 56 w' w9.heap.size (.slice (some ⟨gh, 0, none⟩) l.length c3) ((l.set ka l[kb]).set kb l[ka]) ∧ Below w9.heap.size w9 w')
      case first =>
        have F2 : ∀ x : After w4, x.w.cell? ⟨g, 1, none⟩ = some (.slice (some ⟨gh, 0, none⟩) l.length c3) := fun x => keepc (HV4.out.cell rfl) x.below
        have F0 : ∀ x : After w4, x.w.cell? ⟨w.heap.size, 1, none⟩ = some (.slice A l.length c) := fun x => keepc V0_4.out.frame.2.2 x.below
        obtain ⟨ba, off, hAe, hbl, hc⟩ := (h.below B_4).get (by omega)
        subst hAe
        have K1 : ∀ x : After w4, _ := fun x => keepc (hc ka hka).1 x.below
        have K2 : ∀ x : After w4, _ := fun x => keepc (hc ka hka).2 x.below
        have i1 : (ka : Int) < (l.length : Int) := by omega
        have i2 : (kb : Int) < (l.length : Int) := by omega
        have hdl : kb < (l.set ka l[kb]).length := by first | omega | (simp; omega)
        have HO := Lib.hid (And.intro HO4.out hdl)
        clear hc hdl
        refine region_tail 8 (by kernel_rfl) (by kernel_rfl) ?_
        simp only [List.take_succ_cons, List.take_zero, List.drop_succ_cons, List.drop_zero]
        repeat (go_big_quiet_step (fail))
        refine wpQuiet_nil ?_
        intro w2 hb2
        clear F2 F0 K1 K2
        obtain ⟨y1, y2, y3, y4⟩ := (HO.out.1.below hb2).cells kb HO.out.2
        have HB2 := Lib.hid hb2
        clear hb2
        go_wp2
        go_meet
        case rel =>
          have hb2 := HB2.out
          have o1 := (HO.out.1.below hb2).store (by simp) kb (l[ka])
          have hlow : w9.heap.size ≤ gh := HO.out.1.low (k := gh) rfl
          have hv := (HV4.out.below hb2)
          have hne : g ≠ gh := fun e => HO.out.1.ne_var HV4.out (by decide) (by rw [e]; rfl)
          exact ⟨(hv.other (by simpa using hne) _).other (by simpa using hne) _, o1, bset (bset (bstep b4 hb2) hlow _) hlow _⟩
      obtain ⟨hV5, hO5, b5⟩ := hcut
      obtain ⟨w5, rfl⟩ : ∃ x, x = wc := ⟨_, rfl⟩
      have hsh : (l.set ka l[kb]).set kb l[ka] = swH l ka kb := by unfold swH; simp [List.getD, hka, hkb]
      rw [hsh] at hO5
      have HV5 := Lib.hid hV5
      have HO5 := Lib.hid hO5
      have V0_5 := Lib.hid (V0_9.out.below b5)
      have V1_5 := Lib.hid (V1_9.out.below b5)
      have V2_5 := Lib.hid (V2_9.out.below b5)
      have V3_5 := Lib.hid (V3_9.out.below b5)
      have B_5 := bstep B_9 b5
      clear hV5 hO5 HV4 HO4 b4 hsh
      have HR := Lib.hid hr
      have b5' := b5
      clear b5
      go_wp2
      go_loopw [13] (fun x w' => ∃ k : Nat, x = .int .i64 (k : Int) ∧ k ≤ n ∧ Var w' w.heap.size #[.int .i16 (n : Int), .slice A l.length c] 27 ∧ Var w' (w.heap.size + 1) (drumV (swT d ka kb k)) 31 ∧ Var w' (w.heap.size + 1 + 1) #[.int .i16 0, .slice none 0 0] 27 ∧ Var w' (w.heap.size + 1 + 1 + 1) (drumV zD) 31 ∧ Var w' g #[.int .i16 (n : Int), .slice (some ⟨gh, 0, none⟩) l.length c3] 27 ∧ Own2 .i8 .i8 56 w' w.heap.size (.slice (some ⟨gh, 0, none⟩) l.length c3) (swH l ka kb) ∧ Below w.heap.size w w') (fun x _ => n - (intOf x).toNat)
      case atStart => exact ⟨0, rfl, by omega, V0_5.out, V1_5.out, V2_5.out, V3_5.out, HV5.out, HO5.out.base_le B_9.size, B_5⟩
      case round =>
        obtain ⟨k, rfl, hk, q0, q1, q2, q3, q4, q5, q6⟩ := hrel
        have g1 := q0.cell (i := 0) rfl
        have Q0 := Lib.hid q0
        have Q1 := Lib.hid q1
        have Q2 := Lib.hid q2
        have Q3 := Lib.hid q3
        have Q4 := Lib.hid q4
        have Q5 := Lib.hid q5
        clear q0 q1 q2 q3 q4 q5
        obtain ⟨E, hE⟩ : ∃ E, swT d ka kb k = E := ⟨_, rfl⟩
        have hEl : E.length = 96 := by rw [← hE, swT_len, hd]
        have hEr : Wd E := by rw [← hE]; exact swT_bd HR.out ka kb k
        rw [hE] at Q1
        have HE := Lib.hid (show swT d ka kb (k + 1) = swL E k ka kb by rw [← hE]; rfl)
        have HE0 := Lib.hid hE
        clear hE
        have hwn : IntKind.i64.wrap (n : Int) = (n : Int) := IntWalk.i64_in _ (by omega)
        by_cases hlt : k < n
        · have hdl : decide ((k : Int) < (n : Int)) = true := decide_eq_true (by omega)
          have hk96 : k < 96 := by omega
          have hka32 : ka < 32 := by omega
          have hkb32 : kb < 32 := by omega
          go_wp2_with fail
          refine (c_l02Pin (w.heap.size + 1) k ka E _ (Q1.out.drum hEl) hEr hk96 hka32).mono ?_
          rintro e w' ⟨rfl, rfl⟩
          obtain ⟨pa, hpa⟩ : ∃ p, pinB E k ka = p := ⟨_, rfl⟩
          rw [hpa]
          go_wp2_with fail
          refine (c_l02Pin (w.heap.size + 1) k kb E _ (Q1.out.drum hEl) hEr hk96 hkb32).mono ?_
          rintro e w' ⟨rfl, rfl⟩
          obtain ⟨pb, hpb⟩ : ∃ p, pinB E k kb = p := ⟨_, rfl⟩
          rw [hpb]
          have HGL := Lib.hid hgl
          rcases pa with _ | _ <;> rcases pb with _ | _
          · have HSW := Lib.hid (show swT d ka kb (k + 1) = E by rw [HE.out]; unfold swL; rw [hpa, hpb]; rfl)
            clear hpa hpb
            go_wp2
            go_roundw
            case rel => exact ⟨k + 1, by go_num, by omega, Q0.out, by rw [HSW.out]; exact Q1.out, Q2.out, Q3.out, Q4.out, Q5.out, q6⟩
            case measure => simp [intOf]; omega
          · have hkE : k < E.length := by omega
            have HSW := Lib.hid (show swT d ka kb (k + 1) = E.set k (bits .xor .u32 (bits .xor .u32 E[k] (2 ^ ka % 4294967296)) (2 ^ kb % 4294967296)) by
              rw [HE.out]; unfold swL; rw [hpa, hpb]; simp [List.getD, hkE])
            have x1 := Q1.out.cell (drumV_get hkE)
            have x2 := Q1.out.frozen k
            have h1 : (0 : Int) ≤ (k : Int) := by omega
            have h2 : (k : Int) < 96 := by omega
            have h3 : (0 : Int) ≤ (ka : Int) := by omega
            have h4 : (ka : Int) < 32 := by omega
            have h5 : (0 : Int) ≤ (kb : Int) := by omega
            have h6 : (kb : Int) < 32 := by omega
            clear hpa hpb
            go_wp2
            go_roundw
            case rel =>
              refine ⟨k + 1, by go_num, by omega, Q0.out.other (by simp <;> omega) _, ?_, Q2.out.other (by simp <;> omega) _, Q3.out.other (by simp <;> omega) _, Q4.out.other (p := ⟨w.heap.size + 1, k, none⟩) (by have := V3_9.out.lt; have := HGL.out; simp; omega) _, Q5.out.beside Q1.out (by decide) k _, bset q6 (by simp) _⟩
              rw [HSW.out, ← drumV_set]
              exact Q1.out.set k _
            case measure => simp [intOf]; omega
          · have hkE : k < E.length := by omega
            have HSW := Lib.hid (show swT d ka kb (k + 1) = E.set k (bits .xor .u32 (bits .xor .u32 E[k] (2 ^ ka % 4294967296)) (2 ^ kb % 4294967296)) by
              rw [HE.out]; unfold swL; rw [hpa, hpb]; simp [List.getD, hkE])
            have x1 := Q1.out.cell (drumV_get hkE)
            have x2 := Q1.out.frozen k
            have h1 : (0 : Int) ≤ (k : Int) := by omega
            have h2 : (k : Int) < 96 := by omega
            have h3 : (0 : Int) ≤ (ka : Int) := by omega
            have h4 : (ka : Int) < 32 := by omega
            have h5 : (0 : Int) ≤ (kb : Int) := by omega
            have h6 : (kb : Int) < 32 := by omega
            clear hpa hpb
            go_wp2
            go_roundw
            case rel =>
              refine ⟨k + 1, by go_num, by omega, Q0.out.other (by simp <;> omega) _, ?_, Q2.out.other (by simp <;> omega) _, Q3.out.other (by simp <;> omega) _, Q4.out.other (p := ⟨w.heap.size + 1, k, none⟩) (by have := V3_9.out.lt; have := HGL.out; simp; omega) _, Q5.out.beside Q1.out (by decide) k _, bset q6 (by simp) _⟩
              rw [HSW.out, ← drumV_set]
              exact Q1.out.set k _
            case measure => simp [intOf]; omega
          · have HSW := Lib.hid (show swT d ka kb (k + 1) = E by rw [HE.out]; unfold swL; rw [hpa, hpb]; rfl)
            clear hpa hpb
            go_wp2
            go_roundw
            case rel => exact ⟨k + 1, by go_num, by omega, Q0.out, by rw [HSW.out]; exact Q1.out, Q2.out, Q3.out, Q4.out, Q5.out, q6⟩
            case measure => simp [intOf]; omega
        · obtain rfl : k = n := by omega
          have hdl : decide ((k : Int) < (k : Int)) = false := decide_eq_false (by omega)
          go_wp2_with fail
          have hln : (Tryz.prog.info? 31).map (·.size) = some (drumV E).toList.length := by rw [drumV_len, hEl]; exact size_Drum
          have HGL := Lib.hid hgl
          refine wp_region_held_drew (S := fun w' => Var w' g #[.int .i16 (k : Int), .slice (some ⟨gh, 0, none⟩) l.length c3] 27 ∧ Var w' (w.heap.size + 1) (drumV E) 31 ∧ Below w.heap.size w w') (by kernel_rfl) ⟨Q4.out.drew, Q1.out.drew, bdrew q6⟩ (fun hHeld => ?_)
          have p2 := Q2.out.drew
          have p3 := Q3.out.drew
          have p5 := Q5.out.below (bdrew (Below.refl _ _))
          obtain ⟨u0, hu0⟩ : ∃ x, wr.drew = x := ⟨_, rfl⟩
          rw [hu0] at hHeld p2 p3 p5 ⊢
          clear hu0
          have P2 := Lib.hid p2
          have P3 := Lib.hid p3
          have P5 := Lib.hid p5
          clear p2 p3 p5
          refine takeL (i := 0) (v := .agg #[.int .i16 (k : Int), .slice (some ⟨gh, 0, none⟩) l.length c3]) rfl (by kernel_rfl) (by kernel_rfl) (by kernel_rfl) (fun _ _ _ h => h) (Or.inl ⟨by rfl, by intro w' hS; have y1 := hS.1.cell (i := 0) rfl; have y2 := hS.1.cell (i := 1) rfl; clear hS; go_simp⟩) hHeld ?_
          simp only [Act.put, List.setIfInBounds_toArray, List.set_cons_zero, List.set_cons_succ]
          refine takeL (i := 1) (v := .agg (drumV E)) rfl (by kernel_rfl) (by kernel_rfl) (by kernel_rfl) (fun _ _ _ h => h) (by simpa using yieldsIf_load_mid (S := fun w' => Var w' g #[.int .i16 (k : Int), .slice (some ⟨gh, 0, none⟩) l.length c3] 27 ∧ Var w' (w.heap.size + 1) (drumV E) 31 ∧ Below w.heap.size w w') (by rfl) _ _ rfl _ _ rfl (drumV E).toList _ (fun w' hS => hS.2.1.range) Tryz.underlying31 rfl hln) hHeld ?_
          simp only [Act.put, List.setIfInBounds_toArray, List.set_cons_zero, List.set_cons_succ]
          refine wpAnyH_ready (rs := [2]) (by kernel_rfl) (by simp) ?_
          refine readyL rfl (fun K hK => ?_) AllReadyH.nil
          have z1 := P2.out.cell (i := 0) rfl
          have z2 := P2.out.cell (i := 1) rfl
          have z3 := P2.out.frozen 0
          have z4 := P2.out.frozen 1
          go_simp
          refine hK.out _ _ ⟨(hHeld.1.other (by have := V3_9.out.lt; have := HGL.out; simp; omega) _).other (by have := V3_9.out.lt; have := HGL.out; simp; omega) _, (hHeld.2.1.other (by simp <;> omega) _).other (by simp <;> omega) _, bset (bset hHeld.2.2 (by simp <;> omega) _) (by simp <;> omega) _⟩ (fun hHeld => ?_)
          clear hK K z1 z2 z3 z4
          try simp only [Act.put, List.setIfInBounds_toArray, List.set_cons_zero, List.set_cons_succ]
          have R2 := Lib.hid ((P2.out.set 0 (.int .i16 (k : Int))).set 1 (.slice (some ⟨gh, 0, none⟩) l.length c3))
          have R3 := Lib.hid ((P3.out.other (p := ⟨w.heap.size + 1 + 1, 0, none⟩) (by simp <;> omega) (.int .i16 (k : Int))).other (p := ⟨w.heap.size + 1 + 1, 1, none⟩) (by simp <;> omega) (.slice (some ⟨gh, 0, none⟩) l.length c3))
          have R5 := Lib.hid ((P5.out.beside P2.out (by decide) 0 (.int .i16 (k : Int))).beside (P2.out.set 0 (.int .i16 (k : Int))) (by decide) 1 (.slice (some ⟨gh, 0, none⟩) l.length c3))
          refine wpAnyH_ready (rs := [3]) (by kernel_rfl) (by simp) ?_
          refine readyL rfl (fun K hK => ?_) AllReadyH.nil
          rw [if_pos (by rfl)]
          refine wp_storeD rfl R3.out rfl rfl size_Drum hEl zD_len ?_
          refine hK.out _ _ ⟨hHeld.1.rowOther _ (by have := V3_9.out.lt; have := HGL.out; omega), hHeld.2.1.rowOther _ (by omega), brow hHeld.2.2 (by omega) _⟩ (fun hHeld => ?_)
          clear hK K
          try simp only [Act.put, List.setIfInBounds_toArray, List.set_cons_zero, List.set_cons_succ]
          refine wpAnyH_ready (rs := [4]) (by kernel_rfl) (by simp) ?_
          refine readyL rfl (fun K hK => ?_) AllReadyH.nil
          go_simp
          refine hK.out _ _ hHeld (fun hHeld => ?_)
          clear hK K
          try simp only [Act.put, List.setIfInBounds_toArray, List.set_cons_zero, List.set_cons_succ]
          refine wpAnyH_done (by kernel_rfl) ?_ _
          have HH := Lib.hid hHeld
          clear hHeld
          go_wp2
          refine bodyPost_ret (results_frame_drum_int Tryz.results18 _ _ (w.heap.size + 1 + 1) (w.heap.size + 1 + 1 + 1) 27 31 _ E rfl (R2.out.rowOther _ (by omega)) hu2 rfl (by kernel_rfl) rfl (R3.out.row _) Tryz.underlying31 size_Drum hEl) rfl ⟨some ⟨gh, 0, none⟩, c3, ?_, ?_, HH.out.2.2⟩
          · rw [HC.out, HS.out, HF.out, HD.out, HE0.out, swH_len]; rfl
          · rw [HF.out, swH_len]; exact R5.out.rowBeside R3.out (by decide) _
    · obtain ⟨p, hp⟩ : ∃ p, cP s l d 0 b = p := ⟨_, rfl⟩
      have HC := Lib.hid (show cSw s l d a b = p by unfold cSw; rw [if_pos hx, hp])
      have hp0 : ¬ p = 0 := by rw [← hp]; exact hy
      have HS := Lib.hid (show sSw s l d a b = 0 by unfold sSw; rw [HC.out, if_neg hp0])
      have HF := Lib.hid (show fSw s l d a b = [] by unfold fSw; rw [HC.out, if_neg hp0])
      have HD := Lib.hid (show dSw s l d a b = zD by unfold dSw; rw [HC.out, if_neg hp0])
      have HP := Lib.hid hp
      have HX := Lib.hid hx
      have hx2 : (p == 0) = false := by simpa using hp0
      clear hp hx hp0 hy
      go_enter Tryz.func18, Tryz.ntmps18
      go_wp2_with (refine wpList_alloc_row rfl 31 rfl (.agg (drumV zD)) zero_Drum ?_)
      refine (c_l02Place w.heap.size (w.heap.size + 1) s A c l d _ _ _ V0.out.frame (h.below B) (V1.out.drum hd) hs hl hn).mono ?_
      rintro e w1 ⟨rfl, b1⟩
      have V0_1 := Lib.hid (V0.out.below b1)
      have V1_1 := Lib.hid (V1.out.below b1)
      have V2_1 := Lib.hid (V2.out.below b1)
      have V3_1 := Lib.hid (V3.out.below b1)
      have B_1 := bstep B b1
      clear b1
      rw [HX.out]
      go_wp2_with fail
      refine (c_l02Place w.heap.size (w.heap.size + 1) s A c l d _ _ _ V0_1.out.frame (h.below B_1) (V1_1.out.drum hd) hs hl hn).mono ?_
      rintro e w9 ⟨rfl, b9⟩
      have V0_9 := Lib.hid (V0_1.out.below b9)
      have V1_9 := Lib.hid (V1_1.out.below b9)
      have V2_9 := Lib.hid (V2_1.out.below b9)
      have V3_9 := Lib.hid (V3_1.out.below b9)
      have B_9 := bstep B_1 b9
      clear b9
      rw [HP.out]
      have hx3 : (p != 0) = true := by simp [bne, hx2]
      have zf := V2_9.out.cell (i := 0) rfl
      have zg := V2_9.out.cell (i := 1) rfl
      have zh := V2_9.out.frozen 0
      have zi := V2_9.out.frozen 1
      have Z3 := Lib.hid ((V3_9.out.other (p := ⟨w.heap.size + 1 + 1, 0, none⟩) (by simp) (.int .i16 0)).other (p := ⟨w.heap.size + 1 + 1, 1, none⟩) (by simp) (.slice none 0 0))
      have Z2 := Lib.hid ((V2_9.out.set 0 (.int .i16 0)).set 1 (.slice none 0 0))
      have BB := bset (bset B_9 (p := ⟨w.heap.size + 1 + 1, 0, none⟩) (by simp; omega) (.int .i16 0)) (p := ⟨w.heap.size + 1 + 1, 1, none⟩) (by simp; omega) (.slice none 0 0)
      go_wp2_with (first | (refine wpList_bz (by rfl) rfl Tryz.underlying31 zero_Drum size_u32 ?_) | (refine wpList_storeD rfl rfl Z3.out rfl rfl size_Drum zD_len zD_len ?_))
      refine bodyPost_ret (results_frame_drum_int Tryz.results18 _ _ (w.heap.size + 1 + 1) (w.heap.size + 1 + 1 + 1) 27 31 _ zD rfl (Z2.out.rowOther _ (by simp)) hu2 rfl (by kernel_rfl) rfl (Z3.out.row _) Tryz.underlying31 size_Drum zD_len) rfl ⟨none, 0, ?_, ?_, brow BB (by omega) _⟩
      · rw [HC.out, HS.out, HF.out, HD.out]; rfl
      · rw [HF.out]; exact World.ownsRow_nil _ _ _ _
  · obtain ⟨p, hp⟩ : ∃ p, cP s l d 0 a = p := ⟨_, rfl⟩
    have HC := Lib.hid (show cSw s l d a b = p by unfold cSw; rw [if_neg hx, hp])
    have hp0 : ¬ p = 0 := by rw [← hp]; exact hx
    have HS := Lib.hid (show sSw s l d a b = 0 by unfold sSw; rw [HC.out, if_neg hp0])
    have HF := Lib.hid (show fSw s l d a b = [] by unfold fSw; rw [HC.out, if_neg hp0])
    have HD := Lib.hid (show dSw s l d a b = zD by unfold dSw; rw [HC.out, if_neg hp0])
    have HP := Lib.hid hp
    have hx2 : (p == 0) = false := by simpa using hp0
    clear hp hx hp0
    go_enter Tryz.func18, Tryz.ntmps18
    go_wp2_with (refine wpList_alloc_row rfl 31 rfl (.agg (drumV zD)) zero_Drum ?_)
    refine (c_l02Place w.heap.size (w.heap.size + 1) s A c l d _ _ _ V0.out.frame (h.below B) (V1.out.drum hd) hs hl hn).mono ?_
    rintro e w1 ⟨rfl, b1⟩
    have V0_1 := Lib.hid (V0.out.below b1)
    have V1_1 := Lib.hid (V1.out.below b1)
    have V2_1 := Lib.hid (V2.out.below b1)
    have V3_1 := Lib.hid (V3.out.below b1)
    have B_1 := bstep B b1
    clear b1
    rw [HP.out]
    have hx3 : (p != 0) = true := by simp [bne, hx2]
    have zf := V2_1.out.cell (i := 0) rfl
    have zg := V2_1.out.cell (i := 1) rfl
    have zh := V2_1.out.frozen 0
    have zi := V2_1.out.frozen 1
    have Z3 := Lib.hid ((V3_1.out.other (p := ⟨w.heap.size + 1 + 1, 0, none⟩) (by simp) (.int .i16 0)).other (p := ⟨w.heap.size + 1 + 1, 1, none⟩) (by simp) (.slice none 0 0))
    have Z2 := Lib.hid ((V2_1.out.set 0 (.int .i16 0)).set 1 (.slice none 0 0))
    have BB := bset (bset B_1 (p := ⟨w.heap.size + 1 + 1, 0, none⟩) (by simp; omega) (.int .i16 0)) (p := ⟨w.heap.size + 1 + 1, 1, none⟩) (by simp; omega) (.slice none 0 0)
    go_wp2_with (first | (refine wpList_bz (by rfl) rfl Tryz.underlying31 zero_Drum size_u32 ?_) | (refine wpList_storeD rfl rfl Z3.out rfl rfl size_Drum zD_len zD_len ?_))
    refine bodyPost_ret (results_frame_drum_int Tryz.results18 _ _ (w.heap.size + 1 + 1) (w.heap.size + 1 + 1 + 1) 27 31 _ zD rfl (Z2.out.rowOther _ (by simp)) hu2 rfl (by kernel_rfl) rfl (Z3.out.row _) Tryz.underlying31 size_Drum zD_len) rfl ⟨none, 0, ?_, ?_, brow BB (by omega) _⟩
    · rw [HC.out, HS.out, HF.out, HD.out]; rfl
    · rw [HF.out]; exact World.ownsRow_nil _ _ _ _

end Go.Proofs.YtnakdlfjjeligaaGreat
