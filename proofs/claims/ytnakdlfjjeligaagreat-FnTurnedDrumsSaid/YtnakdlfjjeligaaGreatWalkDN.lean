/-
  The walks of MirrorDrum and TurnDrum, in the reference and in the program.
-/
import Derived.Test.YtnakdlfjjeligaaGreatWalkDJ
import Derived.Test.YtnakdlfjjeligaaGreatData
import Derived.Test.YtnakdlfjjeligaaGreatCoreB
import Derived.Maps.AppendAt
namespace Go.Proofs.YtnakdlfjjeligaaGreat
open Go.RowKit
set_option linter.unusedVariables false
set_option linter.unusedSimpArgs false
set_option maxRecDepth 4000

set_option maxHeartbeats 800000 in
theorem c_specMirrorDrum (s : Int) (A : Option Addr) (c : Nat) (l : List (Int × Int)) (d : List Int) (w : World) (h : At2 .i8 .i8 w A l) (hs : W16 s) (hl : Whs l) (hn : l.length ≤ 1073741824) (hd : d.length = 96) (hr : ∀ x ∈ d, 0 ≤ x ∧ x ≤ 4294967295) :
    Calls Tryz.prog 11 #[.agg #[.int .i16 s, .slice A l.length c], .agg (drumV d)] w fun e w' => e = .returned (.tuple #[.agg (drumV (rMirror s l d)), .int .i64 (cD s l d)]) ∧ Below w.heap.size w w' := by
  have v0 : FrameAt (((w.alloc (.cells #[.int .i16 s, .slice A l.length c] 27)).alloc (.cells (drumV d) 31)).alloc (.cells (drumV zD) 31)) w.heap.size s A c l := ((FrameAt.box _).alloc _).alloc _
  have v1 : DrumAt (((w.alloc (.cells #[.int .i16 s, .slice A l.length c] 27)).alloc (.cells (drumV d) 31)).alloc (.cells (drumV zD) 31)) (w.heap.size + 1) d := by simpa using (DrumAt.box (w := w.alloc (.cells #[.int .i16 s, .slice A l.length c] 27)) 31 hd).alloc (.cells (drumV zD) 31)
  have v2 : Var (((w.alloc (.cells #[.int .i16 s, .slice A l.length c] 27)).alloc (.cells (drumV d) 31)).alloc (.cells (drumV zD) 31)) (w.heap.size + 1 + 1) (drumV zD) 31 := by simpa using Var.new ((w.alloc (.cells #[.int .i16 s, .slice A l.length c] 27)).alloc (.cells (drumV d) 31)) (drumV zD) 31
  have B : Below w.heap.size w (((w.alloc (.cells #[.int .i16 s, .slice A l.length c] 27)).alloc (.cells (drumV d) 31)).alloc (.cells (drumV zD) 31)) := balloc (balloc (balloc (Below.refl _ w) _) _) _
  have V0 := Lib.hid v0
  have V1 := Lib.hid v1
  have V2 := Lib.hid v2
  clear v0 v1 v2
  have HRL := Lib.hid (rMirror_len hd s l)
  by_cases hx : cD s l d = 0
  · obtain ⟨hf, hdd⟩ := cD_zero hx
    obtain ⟨⟨s1, s2⟩, _, _⟩ := okF_iff.1 hf
    obtain ⟨n, rfl⟩ := Int.eq_ofNat_of_zero_le (show 0 ≤ s by omega)
    have HM := Lib.hid (show mirS n d n = rMirror (n : Int) l d by
      unfold rMirror; rw [if_pos hx, Int.toNat_natCast]
      exact mirS_rev hd (by omega) (fun i hi h2 => okD_zero hdd hi (by omega)))
    have hn96 : n ≤ 96 := by omega
    have HX := Lib.hid hx
    clear hx hf hdd s1 s2
    go_enter Tryz.func11, Tryz.ntmps11
    go_wp2_with (refine wpList_alloc_row rfl 31 rfl (.agg (drumV zD)) zero_Drum ?_)
    refine (c_l02Asked w.heap.size (w.heap.size + 1) (n : Int) A c l d _ V0.out (h.below B) V1.out hs hl hn).mono ?_
    rintro e w1 ⟨rfl, b1⟩
    rw [HX.out]
    have F1 := Lib.hid (V0.out.below b1)
    have D1 := Lib.hid (V1.out.below b1)
    have R1 := Lib.hid (V2.out.below b1)
    have B1 := bstep B b1
    clear b1
    have V3 := Lib.hid (Var.new w1 (drumV zD) 31)
    go_wp2_with (first | (refine wpList_bz (by rfl) rfl Tryz.underlying31 zero_Drum size_u32 ?_) | (refine wpList_alloc_row rfl 31 rfl (.agg (drumV zD)) zero_Drum ?_) | (refine wpList_storeD rfl rfl V3.out rfl rfl size_Drum zD_len zD_len ?_))
    have V4 := Lib.hid (V3.out.row (drumV zD))
    have B4 : Below w1.heap.size w1 ((w1.alloc (.cells (drumV zD) 31)).setRow w1.heap.size (drumV zD)) := brow (balloc (Below.refl _ _) _) (Nat.le_refl _) _
    go_loopw [8] (fun i w' => ∃ k : Nat, i = .int .i64 k ∧ k ≤ n ∧ Var w' w1.heap.size (drumV (mirS n d k)) 31 ∧ Below w1.heap.size w1 w') (fun i _ => n - (intOf i).toNat)
    case atStart => exact ⟨0, rfl, by omega, V4.out, B4⟩
    case round =>
      obtain ⟨k, rfl, hk, hv, hb⟩ := hrel
      have HV := Lib.hid hv
      clear hv
      have f1 := (F1.out.below hb).2.1
      by_cases hlt : k < n
      · have hlt1 : k < d.length := by omega
        obtain ⟨j, hj⟩ : ∃ j : Nat, n - 1 - k = j := ⟨_, rfl⟩
        have x1 : ∀ x : After wr, _ := fun x => ((D1.out.below hb).below x.below).2.2 k hlt1
        have x3 : ∀ x : After wr, _ := fun x => ((F1.out.below hb).below x.below).2.1
        have h1 : (0 : Int) ≤ (k : Int) := by omega
        have h2 : (k : Int) < 96 := by omega
        have h3 : (0 : Int) ≤ (j : Int) := by omega
        have h4 : (j : Int) < 96 := by omega
        have hw1 : IntKind.i64.wrap ((n : Int) - 1) = (n : Int) - 1 := IntWalk.i64_in _ (by omega)
        have hw2 : IntKind.i64.wrap ((n : Int) - 1 - (k : Int)) = (j : Int) := by rw [IntWalk.i64_in _ (by omega)]; omega
        have hjl : j < (mirS n d k).length := by rw [mirS_len]; omega
        have HJ := Lib.hid hjl
        have HST := Lib.hid (show (mirS n d k).set j d[k] = mirS n d (k + 1) by
          subst hj; simp only [mirS]; rw [List.getD_eq_getElem?_getD, List.getElem?_eq_getElem hlt1]; rfl)
        clear hj hjl
        go_wp2
        refine region_tail 9 (by kernel_rfl) (by kernel_rfl) ?_
        simp only [List.take_succ_cons, List.take_zero, List.drop_succ_cons, List.drop_zero]
        repeat (go_big_quiet_step (fail))
        refine wpQuiet_nil ?_
        intro w2 hb2
        clear x1 x3
        have y1 := (HV.out.below hb2).cell (drumV_get HJ.out)
        have y2 := (HV.out.below hb2).frozen j
        go_wp2
        go_roundw
        case rel =>
          refine ⟨k + 1, by go_num, by omega, ?_, bset (bstep hb hb2) (by simp) _⟩
          have := (HV.out.below hb2).set j (.int .u32 d[k])
          rw [drumV_set, HST.out] at this
          exact this
        case measure => simp [intOf]; omega
      · obtain rfl : k = n := by omega
        have HL := Lib.hid (mirS_len k d k)
        go_wp2_with (first | (refine wpList_loadD (by rfl) rfl HV.out rfl Tryz.underlying31 size_Drum HL.out ?_) | (refine wpList_storeD rfl rfl (R1.out.below hb) rfl rfl size_Drum HL.out zD_len ?_))
        refine bodyPost_ret (results_drum_int Tryz.results11 _ _ (w.heap.size + 1 + 1) 31 (mirS k d k) rfl ((R1.out.below hb).row _) Tryz.underlying31 size_Drum HL.out) rfl ⟨?_, brow (bstep B1 hb) (by omega) _⟩
        rw [HM.out, HX.out]; rfl
  · obtain ⟨p, hp⟩ : ∃ p, cD s l d = p := ⟨_, rfl⟩
    have HM := Lib.hid (show rMirror s l d = zD by unfold rMirror; rw [if_neg hx])
    rw [hp] at hx ⊢
    have HP := Lib.hid hp
    have hx2 : (p == 0) = false := by simpa using hx
    clear hp hx
    go_enter Tryz.func11, Tryz.ntmps11
    go_wp2_with (refine wpList_alloc_row rfl 31 rfl (.agg (drumV zD)) zero_Drum ?_)
    refine (c_l02Asked w.heap.size (w.heap.size + 1) s A c l d _ V0.out (h.below B) V1.out hs hl hn).mono ?_
    rintro e w1 ⟨rfl, b1⟩
    rw [HP.out]
    have R1 := Lib.hid (V2.out.below b1)
    have B1 := bstep B b1
    clear b1
    go_wp2_with (first | (refine wpList_bz (by rfl) rfl Tryz.underlying31 zero_Drum size_u32 ?_) | (refine wpList_storeD rfl rfl R1.out rfl rfl size_Drum zD_len zD_len ?_))
    refine bodyPost_ret (results_drum_int Tryz.results11 _ _ (w.heap.size + 1 + 1) 31 zD rfl (R1.out.row _) Tryz.underlying31 size_Drum zD_len) rfl ⟨?_, brow B1 (by omega) _⟩
    rw [HM.out]; rfl

/-- The library's Reverse on the first n numbers of a drum's variable. -/
theorem c_Reverse (b n c : Nat) (d : List Int) (t : TypeId) (w : World) (hv : Var w b (drumV d) t) (hd : d.length = 96) (hn : n ≤ 96) :
    Calls Tryz.prog 37 #[.slice (some ⟨b, 0, none⟩) n c] w fun z w' => z = .returned (.tuple #[]) ∧ Var w' b (drumV (revL n d)) t ∧ w.grownBy w' (some b) := by
  go_enter Tryz.func37, Tryz.ntmps37
  have hbl := hv.lt
  have HV0 := Lib.hid hv
  clear hv
  have hw0 : IntKind.i64.wrap ((n : Int) - 1) = (n : Int) - 1 := IntWalk.i64_in _ (by omega)
  go_wp2
  go_loopw [2, 3] (fun i j w' => ∃ k : Nat, i = .int .i64 (k : Int) ∧ j = .int .i64 ((n : Int) - 1 - (k : Int)) ∧ 2 * k ≤ n + 1 ∧ (2 * k ≤ n) ∧ Var w' b (drumV (swS n d k)) t ∧ w.grownBy w' (some b)) (fun i _ _ => n + 1 - (intOf i).toNat)
  case atStart => exact ⟨0, rfl, by simp, by omega, by omega, by rw [swS_zero]; exact HV0.out, World.grownBy.refl _ _⟩
  case round =>
    obtain ⟨k, rfl, rfl, hk0, hk, hv, hg⟩ := hrel
    have HV := Lib.hid hv
    have HG := Lib.hid hg
    clear hv hg
    by_cases hlt : 2 * k + 1 < n
    · obtain ⟨j, hj⟩ : ∃ j : Nat, n - 1 - k = j := ⟨_, rfl⟩
      have hji : (n : Int) - 1 - (k : Int) = (j : Int) := by omega
      rw [hji]
      have hkl : k < (swS n d k).length := by rw [swS_len]; omega
      have hjl : j < (swS n d k).length := by rw [swS_len]; omega
      have hbl2 := HV.out.lt
      have g1 := drumV_get hkl
      have g2 := drumV_get hjl
      rw [swS_low (by omega) hlt] at g1
      rw [show (swS n d k)[j] = d.getD j 0 by subst hj; exact swS_high (by omega) hlt _] at g2
      obtain ⟨u, hu⟩ : ∃ u, d.getD k 0 = u := ⟨_, rfl⟩
      obtain ⟨v, hvv⟩ : ∃ v, d.getD j 0 = v := ⟨_, rfl⟩
      rw [hu] at g1
      rw [hvv] at g2
      have HST := Lib.hid (show ((swS n d k).set k v).set j u = swS n d (k + 1) by
        subst hu hvv hj; exact swS_step (by omega) hlt)
      have G := Lib.hid (And.intro g1 g2)
      have x1 : ∀ x : After wr, _ := fun x => (HV.out.below x.below).cell G.out.1
      have x2 : ∀ x : After wr, _ := fun x => (HV.out.below x.below).cell G.out.2
      have i1 : (0 : Int) ≤ (k : Int) := by omega
      have i2 : (k : Int) < (n : Int) := by omega
      have i3 : (0 : Int) ≤ (j : Int) := by omega
      have i4 : (j : Int) < (n : Int) := by omega
      have i5 : (k : Int) < (j : Int) := by omega
      have hw1 : IntKind.i64.wrap ((k : Int) + 1) = ((k + 1 : Nat) : Int) := IntWalk.i64_in _ (by omega)
      have hw2 : IntKind.i64.wrap ((j : Int) - 1) = (n : Int) - 1 - ((k + 1 : Nat) : Int) := by rw [IntWalk.i64_in _ (by omega)]; omega
      have HK := Lib.hid (show 2 * (k + 1) ≤ n + 1 ∧ 2 * (k + 1) ≤ n from ⟨by omega, by omega⟩)
      clear hu hvv hj hji g1 g2 hkl hjl
      go_wp2
      refine region_tail4 12 _ _ _ _ rfl rfl rfl rfl rfl rfl rfl rfl (fun _ _ _ _ h => h) (fun _ _ _ _ h => h) (fun _ _ _ _ h => h) (fun _ _ _ _ h => h) (by kernel_rfl) (by kernel_rfl) rfl rfl rfl rfl ?_
      simp only [Nat.reduceSub, List.take_succ_cons, List.take_zero, List.drop_succ_cons, List.drop_zero, Act.put, Act.eval, List.setIfInBounds_toArray, List.set_cons_zero, List.set_cons_succ, List.getD_eq_getElem?_getD, Array.getD_eq_getD_getElem?, List.getElem?_toArray, List.getElem?_cons_zero, List.getElem?_cons_succ, Option.getD_some]
      repeat (go_big_quiet_step (fail))
      refine wpQuiet_nil ?_
      intro w2 hb2
      clear x1 x2
      have y1 := (HV.out.below hb2).cell G.out.1
      have y2 := (HV.out.below hb2).frozen k
      have y3 := (HV.out.below hb2).cell G.out.2
      have y4 := (HV.out.below hb2).frozen j
      have hne : k ≠ j := by omega
      go_wp2
      go_roundw
      case rel =>
        refine ⟨k + 1, by first | rfl | rw [hw1], by first | rfl | rw [hw2], HK.out.1, HK.out.2, ?_, ?_⟩
        · have := ((HV.out.below hb2).set k (.int .u32 v)).set j (.int .u32 u)
          rw [drumV_set, drumV_set, HST.out] at this
          exact this
        · exact gset (gset (World.grownBy.trans HG.out (gbelow hb2 _)) (.inl rfl) _) (.inl rfl) _
      case measure => simp [intOf]; omega
    · have HE := Lib.hid (swS_done (d := d) (by omega) (show n ≤ 2 * k + 1 by omega) hk)
      have hle : ¬ (k : Int) < (n : Int) - 1 - (k : Int) := by omega
      go_wp2
      go_end0
      exact ⟨rfl, HE.out ▸ HV.out, HG.out⟩

set_option maxHeartbeats 800000 in
theorem c_implMirrorDrum (s : Int) (A : Option Addr) (c : Nat) (l : List (Int × Int)) (d : List Int) (w : World) (h : At2 .i8 .i8 w A l) (hs : W16 s) (hl : Whs l) (hn : l.length ≤ 1073741824) (hd : d.length = 96) (hr : ∀ x ∈ d, 0 ≤ x ∧ x ≤ 4294967295) :
    Calls Tryz.prog 10 #[.agg #[.int .i16 s, .slice A l.length c], .agg (drumV d)] w fun e w' => e = .returned (.tuple #[.agg (drumV (rMirror s l d)), .int .i64 (cD s l d)]) ∧ Below w.heap.size w w' := by
  have hu2 := Tryz.underlying27
  have v0 : Var (((w.alloc (.cells #[.int .i16 s, .slice A l.length c] 27)).alloc (.cells (drumV d) 31)).alloc (.cells (drumV zD) 31)) w.heap.size #[.int .i16 s, .slice A l.length c] 27 := ((Var.new w _ _).old _).old _
  have v1 : Var (((w.alloc (.cells #[.int .i16 s, .slice A l.length c] 27)).alloc (.cells (drumV d) 31)).alloc (.cells (drumV zD) 31)) (w.heap.size + 1) (drumV d) 31 := by simpa using (Var.new (w.alloc (.cells #[.int .i16 s, .slice A l.length c] 27)) (drumV d) 31).old (.cells (drumV zD) 31)
  have v2 : Var (((w.alloc (.cells #[.int .i16 s, .slice A l.length c] 27)).alloc (.cells (drumV d) 31)).alloc (.cells (drumV zD) 31)) (w.heap.size + 1 + 1) (drumV zD) 31 := by simpa using Var.new ((w.alloc (.cells #[.int .i16 s, .slice A l.length c] 27)).alloc (.cells (drumV d) 31)) (drumV zD) 31
  have v3 : Var ((((w.alloc (.cells #[.int .i16 s, .slice A l.length c] 27)).alloc (.cells (drumV d) 31)).alloc (.cells (drumV zD) 31)).alloc (.cells (drumV d) 31)) (w.heap.size + 1 + 1 + 1) (drumV d) 31 := by simpa using Var.new (((w.alloc (.cells #[.int .i16 s, .slice A l.length c] 27)).alloc (.cells (drumV d) 31)).alloc (.cells (drumV zD) 31)) (drumV d) 31
  have B : Below w.heap.size w ((((w.alloc (.cells #[.int .i16 s, .slice A l.length c] 27)).alloc (.cells (drumV d) 31)).alloc (.cells (drumV zD) 31)).alloc (.cells (drumV d) 31)) := balloc (balloc (balloc (balloc (Below.refl _ w) _) _) _) _
  have V1 := Lib.hid v1
  have V3 := Lib.hid v3
  have U0 := Lib.hid (v0.old (.cells (drumV d) 31))
  have U1 := Lib.hid (v1.old (.cells (drumV d) 31))
  have U2 := Lib.hid (v2.old (.cells (drumV d) 31))
  clear v0 v1 v2 v3
  by_cases hx : cD s l d = 0
  · obtain ⟨hf, hdd⟩ := cD_zero hx
    obtain ⟨⟨s1, s2⟩, _, _⟩ := okF_iff.1 hf
    obtain ⟨n, rfl⟩ := Int.eq_ofNat_of_zero_le (show 0 ≤ s by omega)
    have HM := Lib.hid (show revL n d = rMirror (n : Int) l d by unfold rMirror; rw [if_pos hx, Int.toNat_natCast])
    have hn96 : n ≤ 96 := by omega
    have HX := Lib.hid hx
    clear hx hf hdd s1 s2
    go_enter Tryz.func10, Tryz.ntmps10
    go_wp2_with (first | (refine wpList_alloc_row rfl 31 rfl (.agg (drumV zD)) zero_Drum ?_) | (refine wpList_loadD (by rfl) rfl V1.out rfl Tryz.underlying31 size_Drum hd ?_) | (refine wpList_bd1 (by rfl) rfl (by simp [Act.eval, Act.put]) Tryz.underlying104 zero_Drum size_Drum hd ?_))
    refine (c_drumCode _ (n : Int) A c 1 l [d] _ (h.below B) (DrumsAt.one V3.out hd) hs hl hn (by simp)).mono ?_
    rintro e w1 ⟨rfl, b1⟩
    rw [cD_eq, HX.out]
    have F1 := Lib.hid (U0.out.below b1)
    have D1 := Lib.hid (U1.out.below b1)
    have R1 := Lib.hid (U2.out.below b1)
    have B1 := bstep B b1
    clear b1
    have f1 := F1.out.cell (i := 0) rfl
    have hud := Tryz.underlying31
    have hi1 : (0 : Int) ≤ (n : Int) := by omega
    have hi2 : (n : Int) ≤ 96 := by omega
    go_wp2_with fail
    refine (c_Reverse (w.heap.size + 1) n _ d 31 _ D1.out hd hn96).mono ?_
    rintro e w2 ⟨rfl, hv, hg⟩
    have HL := Lib.hid (show (revL n d).length = 96 by rw [revL_len, hd])
    have HV := Lib.hid hv
    have R2 := Lib.hid (show Var w2 (w.heap.size + 1 + 1) (drumV zD) 31 from (hg.5 _ R1.out.lt (by simp)).trans R1.out)
    have B2 := bgrown B1 hg (fun k hk => by simp at hk; omega)
    clear hv hg hud
    go_wp2_with (first | (refine wpList_loadD (by rfl) rfl HV.out rfl Tryz.underlying31 size_Drum HL.out ?_) | (refine wpList_storeD rfl rfl R2.out rfl rfl size_Drum HL.out zD_len ?_))
    refine bodyPost_ret (results_drum_int Tryz.results10 _ _ (w.heap.size + 1 + 1) 31 (revL n d) rfl (R2.out.row _) Tryz.underlying31 size_Drum HL.out) rfl ⟨?_, brow B2 (by omega) _⟩
    rw [HM.out, HX.out]; rfl
  · obtain ⟨p, hp⟩ : ∃ p, cD s l d = p := ⟨_, rfl⟩
    have HM := Lib.hid (show rMirror s l d = zD by unfold rMirror; rw [if_neg hx])
    rw [hp] at hx ⊢
    have HP := Lib.hid hp
    have hx2 : (p == 0) = false := by simpa using hx
    clear hp hx
    go_enter Tryz.func10, Tryz.ntmps10
    go_wp2_with (first | (refine wpList_alloc_row rfl 31 rfl (.agg (drumV zD)) zero_Drum ?_) | (refine wpList_loadD (by rfl) rfl V1.out rfl Tryz.underlying31 size_Drum hd ?_) | (refine wpList_bd1 (by rfl) rfl (by simp [Act.eval, Act.put]) Tryz.underlying104 zero_Drum size_Drum hd ?_))
    refine (c_drumCode _ s A c 1 l [d] _ (h.below B) (DrumsAt.one V3.out hd) hs hl hn (by simp)).mono ?_
    rintro e w1 ⟨rfl, b1⟩
    rw [cD_eq, HP.out]
    have R1 := Lib.hid (U2.out.below b1)
    have B1 := bstep B b1
    clear b1
    go_wp2_with (first | (refine wpList_bz (by rfl) rfl Tryz.underlying31 zero_Drum size_u32 ?_) | (refine wpList_storeD rfl rfl R1.out rfl rfl size_Drum zD_len zD_len ?_))
    refine bodyPost_ret (results_drum_int Tryz.results10 _ _ (w.heap.size + 1 + 1) 31 zD rfl (R1.out.row _) Tryz.underlying31 size_Drum zD_len) rfl ⟨?_, brow B1 (by omega) _⟩
    rw [HM.out]; rfl

end Go.Proofs.YtnakdlfjjeligaaGreat
