/-
  The reference's sort: notes put into their places one by one.
-/
import Derived.Test.YtnakdlfjjeligaaGreatWalkB
import Derived.Test.YtnakdlfjjeligaaGreatWalkD
import Derived.Test.YtnakdlfjjeligaaGreatPure
import Derived.Test.YtnakdlfjjeligaaGreatData
namespace Go.Proofs.YtnakdlfjjeligaaGreat
open Go.RowKit
set_option linter.unusedVariables false
set_option linter.unusedSimpArgs false
set_option maxRecDepth 4000

set_option maxHeartbeats 1600000 in
theorem c_l01Sorted (A : Option Addr) (c : Nat) (l : List (Int × Int)) (w : World) (h : At2 .i16 .i8 w A l) (hn : l.length ≤ 536870912) :
    Calls Tryz.prog 76 #[.slice A l.length c] w fun e w' => ∃ g' c', e = .returned (.slice (some ⟨g', 0, none⟩) (sortU l).length c') ∧ Own2 .i16 .i8 111 w' w.heap.size (.slice (some ⟨g', 0, none⟩) (sortU l).length c') (sortU l) ∧ Below w.heap.size w w' := by
  have hu := Tryz.underlying111
  go_enter Tryz.func76, Tryz.ntmps76
  go_wp2
  go_loopw [3, 4] (fun v i w' => ∃ (k g c' : Nat), i = .int .i64 (k : Int) ∧ v = .slice (some ⟨g, 0, none⟩) (sortU (l.take k)).length c' ∧ k ≤ l.length ∧ Own2 .i16 .i8 111 w' w.heap.size v (sortU (l.take k)) ∧ Below w.heap.size w w') (fun _ i _ => l.length - (intOf i).toNat)
  case atStart => exact ⟨0, w.heap.size, 0, rfl, rfl, by omega, Own2.lit0 (Nat.le_refl _), balloc (Below.refl _ _) _⟩
  case round =>
    obtain ⟨k, g, c1, rfl, rfl, hk, hown, hb⟩ := hrel
    have HO := Lib.hid hown
    clear hown
    by_cases hlt : k < l.length
    · have hst := sortU_snoc l k hlt
      have hRl : (sortU (l.take k)).length ≤ 536870912 := Nat.le_trans (sortU_len _) (by rw [List.length_take]; omega)
      obtain ⟨R, hR⟩ : ∃ R, sortU (l.take k) = R := ⟨_, rfl⟩
      rw [hR] at hst HO hRl ⊢
      have HST := Lib.hid hst
      clear hst hR
      have hkk1 : (0 : Int) ≤ (k : Int) := by omega
      have hdl : decide ((k : Int) < (l.length : Int)) = true := decide_eq_true (by omega)
      have hdl2 : decide (k < l.length) = true := decide_eq_true hlt
      have hwk : IntKind.i64.wrap ((k : Int) + 1) = ((k + 1 : Nat) : Int) := IntWalk.i64_in _ (by omega)
      go_wp2
      go_loopw [5] (fun i w' => ∃ j : Nat, i = .int .i64 (j : Int) ∧ j ≤ R.length ∧ RowKit.Hid (∀ i (hi : i < R.length), i < j → ltN R[i] l[k] = true) ∧ Below wr.heap.size wr w') (fun i _ => R.length - (intOf i).toNat)
      case atStart => exact ⟨0, rfl, by omega, Lib.hid (fun _ _ h => absurd h (by omega)), Below.refl _ _⟩
      case round =>
        obtain ⟨j, rfl, hj, HT, hb2⟩ := hrel
        have B2 := bstep hb hb2
        have O2 := Lib.hid (HO.out.below hb2)
        have hjj : (0 : Int) ≤ (j : Int) := by omega
        have hwj : IntKind.i64.wrap ((j : Int) + 1) = ((j + 1 : Nat) : Int) := IntWalk.i64_in _ (by omega)
        obtain ⟨b, off, hAe, hbl, hc⟩ := h.get (by omega)
        subst hAe
        have HX := Lib.hid (hc k hlt)
        clear hc
        have x1 := fun x : After wr => keepc (keepc HX.out.1 B2) x.below
        have x2 := fun x : After wr => keepc (keepc HX.out.2 B2) x.below
        by_cases hjlt : j < R.length
        · have hjd : decide ((j : Int) < (R.length : Int)) = true := decide_eq_true (by omega)
          have hjd2 : decide (j < R.length) = true := decide_eq_true hjlt
          have HY := Lib.hid (O2.out.cells j hjlt)
          have y1 := fun x : After wr => keepc HY.out.1 x.below
          have y2 := fun x : After wr => keepc HY.out.2.1 x.below
          rcases hlq : ltN R[j] l[k] with _ | _
          · have hpl := placeU_eq (l := R) (x := l[k]) (k := j) (by omega) HT.out (fun _ => hlq)
            have HPL := Lib.hid hpl
            clear hpl
            go_wp2
            refine region_after (by kernel_rfl) (by kernel_rfl) ?_
            repeat (go_big_quiet_step ((go_at_call 84; exact After.call (c_l01Before _ _ _))))
            refine wpQuiet_nil ?_
            rintro _ ⟨x, rfl⟩
            clear x1 x2 y1 y2 hlq
            have hb3 := x.below
            obtain ⟨w3, hw3⟩ : ∃ u, x.w = u := ⟨_, rfl⟩
            rw [hw3] at hb3 ⊢
            clear hw3
            go_wp2
            have x1 := fun x : After w3 => keepc (keepc HX.out.1 (bstep B2 hb3)) x.below
            have x2 := fun x : After w3 => keepc (keepc HX.out.2 (bstep B2 hb3)) x.below
            have y1 := fun x : After w3 => keepc (keepc HY.out.1 hb3) x.below
            have y2 := fun x : After w3 => keepc (keepc HY.out.2.1 hb3) x.below
            have heq := eq_note R[j] l[k]
            rcases hq : eqN R[j] l[k] with _ | _
            · skip
              refine region_after (by kernel_rfl) (by kernel_rfl) ?_
              repeat (go_big_quiet_step (fail))
              refine wpQuiet_nil ?_
              rintro _ ⟨x, rfl⟩
              clear x1 x2 y1 y2 heq
              have hb4 := x.below
              obtain ⟨w4, hw4⟩ : ∃ u, x.w = u := ⟨_, rfl⟩
              rw [hw4] at hb4 ⊢
              clear hw4
              have HIN := Lib.hid (show insU R l[k] = R.take j ++ [l[k]] ++ R.drop j by unfold insU; rw [HPL.out, if_neg (by rw [List.getElem?_eq_getElem hjlt, Option.some_inj]; exact eqN_false.1 hq)])
              clear hq
              have hbW := bstep (bstep B2 hb3) hb4
              have OW := Lib.hid ((O2.out.below hb3).below hb4)
              clear hb3 hb4
              have hE := Own2.lit0 (k1 := .i16) (k2 := .i8) (E := 111) (w := w4) (base := w4.heap.size) (Nat.le_refl _)
              have BE := balloc (Below.refl _ w4) (.cells #[] 111)
              have hEs := BE.size
              have hcap := OW.out.cap
              have hjc : (j : Int) ≤ (c1 : Int) := by omega
              have hjc2 : ¬ c1 = j := by omega
              obtain ⟨D, hD⟩ : ∃ D, R.drop j = D := ⟨_, rfl⟩
              have hDl : R.length - j = D.length := by rw [← hD, List.length_drop]
              have hdrop := ((OW.out.alloc (.cells #[] 111)).at_).drop j
              rw [hD] at HIN hdrop
              simp only [Nat.zero_add] at hdrop
              clear hD
              go_wp2_with (at_builtin; refine append_pairsU rfl (.tmp 46) (.tmp 49) 38 38 rfl 111 111 .i16 .i8 4 Tryz.underlying38 Tryz.underlying38 info_Note (by decide) w4.heap.size _ [] rfl hE (some ⟨g, j * 2, none⟩) (c1 - j) D (by rw [← hDl]; rfl) hdrop (by simp only [List.length_nil]; omega) hEs ?_; intro A6 c6 w6 ho6 hg6)
              simp only [List.nil_append] at ho6 ⊢
              have OW6 := Lib.hid ((OW.out.alloc (.cells #[] 111)).apart hg6 (fun m hm e => by
                have h1 := (OW.out.high hm)
                have h2 := hE.low e
                omega))
              have hb6 := bgrown (balloc hbW (.cells #[] 111)) hg6 (fun m hm => Nat.le_trans hbW.size (hE.low hm))
              have hsz6 : w4.heap.size ≤ w6.heap.size := Nat.le_trans hEs hg6.size
              have O6 := Lib.hid ho6
              clear ho6 hg6 hE BE hEs hdrop
              refine wp_region_held_drew (S := (Below w.heap.size w)) (by kernel_rfl) (bdrew hb6) (fun hHeld => ?_)
              refine takeL (i := 0) (v := .slice (some ⟨g, 0, none⟩) R.length c1) rfl (by kernel_rfl) (by kernel_rfl) (by kernel_rfl) (fun _ _ _ h => h) (Or.inl ⟨by rfl, by intro w' hS; clear hS; go_simp⟩) hHeld ?_
              simp only [Act.put, List.setIfInBounds_toArray, List.set_cons_zero, List.set_cons_succ]
              refine takeL (i := 1) (v := .int .i64 (j : Int)) rfl (by kernel_rfl) (by kernel_rfl) (by kernel_rfl) (fun _ _ _ h => h) (Or.inl ⟨by rfl, by intro w' hS; clear hS; go_simp⟩) hHeld ?_
              simp only [Act.put, List.setIfInBounds_toArray, List.set_cons_zero, List.set_cons_succ]
              refine takeL (i := 2) (v := .slice (some ⟨g, 0, none⟩) j c1) rfl (by kernel_rfl) (by kernel_rfl) (by kernel_rfl) (fun _ _ _ h => h) (Or.inl ⟨by rfl, by intro w' hS; clear hS; go_simp⟩) hHeld ?_
              simp only [Act.put, List.setIfInBounds_toArray, List.set_cons_zero, List.set_cons_succ]
              refine takeL (i := 3) (v := .slice (some ⟨b, off, none⟩) l.length c) rfl (by kernel_rfl) (by kernel_rfl) (by kernel_rfl) (fun _ _ _ h => h) (Or.inl ⟨by rfl, by intro w' hS; clear hS; go_simp⟩) hHeld ?_
              simp only [Act.put, List.setIfInBounds_toArray, List.set_cons_zero, List.set_cons_succ]
              refine takeL (i := 4) (v := .int .i64 (k : Int)) rfl (by kernel_rfl) (by kernel_rfl) (by kernel_rfl) (fun _ _ _ h => h) (Or.inl ⟨by rfl, by intro w' hS; clear hS; go_simp⟩) hHeld ?_
              simp only [Act.put, List.setIfInBounds_toArray, List.set_cons_zero, List.set_cons_succ]
              refine takeL (i := 5) (v := .pointer (some ⟨b, off + k * 2, none⟩)) rfl (by kernel_rfl) (by kernel_rfl) (by kernel_rfl) (fun _ _ _ h => h) (Or.inl ⟨by rfl, by intro w' hS; clear hS; go_simp⟩) hHeld ?_
              simp only [Act.put, List.setIfInBounds_toArray, List.set_cons_zero, List.set_cons_succ]
              refine takeL (i := 6) (v := .agg #[.int .i16 l[k].1, .int .i8 l[k].2]) rfl (by kernel_rfl) (by kernel_rfl) (by kernel_rfl) (fun _ _ _ h => h) (Or.inl ⟨by rfl, by intro w' hS; have y1 := keepc HX.out.1 hS; have y2 := keepc HX.out.2 hS; clear hS; go_simp⟩) hHeld ?_
              simp only [Act.put, List.setIfInBounds_toArray, List.set_cons_zero, List.set_cons_succ]
              refine takeL (i := 9) (v := .slice A6 D.length c6) rfl (by kernel_rfl) (by kernel_rfl) (by kernel_rfl) (fun _ _ _ h => h) (Or.inl ⟨by rfl, by intro w' hS; clear hS; go_simp⟩) hHeld ?_
              simp only [Act.put, List.setIfInBounds_toArray, List.set_cons_zero, List.set_cons_succ]
              refine wpAnyH_ready (rs := [7]) (by kernel_rfl) (by simp) ?_
              refine readyL rfl (fun K hK => ?_) AllReadyH.nil
              go_simp
              have hOT := ((OW6.out.below (Below.refl w6.heap.size w6).drew).shorten rfl (k := j) (by omega)).alloc (.cells #[.int .i16 l[k].1, .int .i8 l[k].2] 111)
              have hO6 := Lib.hid ((O6.out.below (Below.refl w6.heap.size w6).drew).alloc (.cells #[.int .i16 l[k].1, .int .i8 l[k].2] 111))
              refine hK.out _ _ (balloc hHeld _) (fun hHeld => ?_)
              clear hK K
              try simp only [Act.put, List.setIfInBounds_toArray, List.set_cons_zero, List.set_cons_succ]
              have hHs := hHeld.size
              refine wpAnyH_ready (rs := [8]) (by kernel_rfl) (by simp) ?_
              refine readyL rfl (fun K hK => ?_) AllReadyH.nil
              rw [if_pos (by kernel_rfl)]
              refine append_pairsW (.tmp 53) (.tmp 58) 38 38 rfl 111 111 .i16 .i8 4 Tryz.underlying38 Tryz.underlying38 info_Note (by decide) w.heap.size _ (R.take j) rfl hOT (some ⟨w6.drew.heap.size, 0, none⟩) 1 [l[k]] rfl (At2.one w6.drew l[k] 111) (by rw [List.length_take]; simp only [List.length_cons, List.length_nil]; omega) hHs ?_
              intro A8 c8 w8 ho8 hg8
              have hbg := OW.out.block.2
              have hO8 := Lib.hid (hO6.out.apart hg8 (fun m hm e => by
                have h1 := hO6.out.low hm
                have e2 : g = m := Option.some.inj e
                omega))
              refine hK.out _ _ (bgrown hHeld hg8 (fun m hm => hOT.low hm)) (fun hHeld => ?_)
              clear hK K
              simp only [Act.put, List.setIfInBounds_toArray, List.set_cons_zero, List.set_cons_succ]
              have hHs := hHeld.size
              refine wpAnyH_ready (rs := [10]) (by kernel_rfl) (by simp) ?_
              refine readyL rfl (fun K hK => ?_) AllReadyH.nil
              rw [if_pos (by kernel_rfl)]
              refine append_pairsW (.tmp 59) (.tmp 60) 38 38 rfl 111 111 .i16 .i8 4 Tryz.underlying38 Tryz.underlying38 info_Note (by decide) w.heap.size _ (R.take j ++ [l[k]]) rfl ho8 A6 c6 D rfl hO8.out.at_ (by rw [List.length_append, List.length_take]; simp only [List.length_cons, List.length_nil]; omega) hHs ?_
              intro A10 c10 w10 ho10 hg10
              refine hK.out _ _ (bgrown hHeld hg10 (fun m hm => ho8.low hm)) (fun hHeld => ?_)
              clear hK K
              simp only [Act.put, List.setIfInBounds_toArray, List.set_cons_zero, List.set_cons_succ]
              obtain ⟨g10, rfl⟩ := ho10.form (by simp only [List.length_append, List.length_cons]; omega)
              rw [← HIN.out, ← HST.out] at ho10 ⊢
              have O10 := Lib.hid ho10
              clear ho10 hO8 ho8 hO6 hOT
              refine wpAnyH_ready (rs := [11]) (by kernel_rfl) (by simp) ?_
              refine readyL rfl (fun K hK => ?_) AllReadyH.nil
              go_simp
              refine hK.out _ _ (hHeld) (fun hHeld => ?_)
              clear hK K
              try simp only [Act.put, List.setIfInBounds_toArray, List.set_cons_zero, List.set_cons_succ]
              refine wpAnyH_done (by kernel_rfl) ?_ _
              go_wp2
              go_roundw
              case rel => exact ⟨k + 1, g10, c10, by first | rfl | rw [hwk], rfl, by omega, O10.out, hHeld⟩
              case measure => simp [intOf]; omega
            · skip
              refine region_after (by kernel_rfl) (by kernel_rfl) ?_
              repeat (go_big_quiet_step (fail))
              refine wpQuiet_nil ?_
              rintro _ ⟨x, rfl⟩
              clear x1 x2 y1 y2 heq
              have hb4 := x.below
              obtain ⟨w4, hw4⟩ : ∃ u, x.w = u := ⟨_, rfl⟩
              rw [hw4] at hb4 ⊢
              clear hw4
              have HIN := Lib.hid (show insU R l[k] = R by unfold insU; rw [HPL.out, if_pos (by rw [List.getElem?_eq_getElem hjlt, Option.some_inj]; exact eqN_iff.1 hq)])
              clear hq
              go_wp2
              go_roundw
              case rel => exact ⟨k + 1, g, c1, by first | rfl | rw [hwk], by rw [HST.out, HIN.out], by omega, by rw [HST.out, HIN.out]; exact (O2.out.below hb3).below hb4, bstep (bstep B2 hb3) hb4⟩
              case measure => simp [intOf]; omega
          · go_wp2
            refine region_after (by kernel_rfl) (by kernel_rfl) ?_
            repeat (go_big_quiet_step ((go_at_call 84; exact After.call (c_l01Before _ _ _))))
            refine wpQuiet_nil ?_
            rintro _ ⟨x, rfl⟩
            have HLQ := Lib.hid hlq
            clear x1 x2 y1 y2 hlq
            have hb3 := x.below
            obtain ⟨w3, hw3⟩ : ∃ u, x.w = u := ⟨_, rfl⟩
            rw [hw3] at hb3 ⊢
            clear hw3
            go_wp2
            go_roundw
            case rel =>
              refine ⟨j + 1, by first | rfl | rw [hwj], by omega, Lib.hid (fun i hi hij => ?_), bstep hb2 hb3⟩
              by_cases e : i = j
              · subst e; exact HLQ.out
              · exact HT.out i hi (by omega)
            case measure => simp [intOf]; omega
        · obtain rfl : j = R.length := by omega
          have hjd : decide ((R.length : Int) < (R.length : Int)) = false := by simp
          have hpl := placeU_eq (l := R) (x := l[k]) (k := R.length) (by omega) HT.out (fun h => absurd h (by omega))
          have HPL := Lib.hid hpl
          clear hpl
          go_wp2
          refine region_after (by kernel_rfl) (by kernel_rfl) ?_
          repeat (go_big_quiet_step (fail))
          refine wpQuiet_nil ?_
          rintro _ ⟨x, rfl⟩
          clear x1 x2
          have hb3 := x.below
          obtain ⟨w3, hw3⟩ : ∃ u, x.w = u := ⟨_, rfl⟩
          rw [hw3] at hb3 ⊢
          clear hw3
          go_wp2
          refine region_after (by kernel_rfl) (by kernel_rfl) ?_
          repeat (go_big_quiet_step (fail))
          refine wpQuiet_nil ?_
          rintro _ ⟨x, rfl⟩
          have hb4 := x.below
          obtain ⟨w4, hw4⟩ : ∃ u, x.w = u := ⟨_, rfl⟩
          rw [hw4] at hb4 ⊢
          clear hw4
          have HIN := Lib.hid (show insU R l[k] = R.take R.length ++ [l[k]] ++ R.drop R.length by unfold insU; rw [HPL.out, if_neg (by rw [List.getElem?_eq_none (Nat.le_refl _)]; simp)])
          by_cases hcr : c1 = R.length
          · subst hcr
            have hbW := bstep (bstep B2 hb3) hb4
            have OW := Lib.hid ((O2.out.below hb3).below hb4)
            clear hb3 hb4
            have hE := Own2.lit0 (k1 := .i16) (k2 := .i8) (E := 111) (w := w4) (base := w4.heap.size) (Nat.le_refl _)
            have BE := balloc (Below.refl _ w4) (.cells #[] 111)
            have hEs := BE.size
            have hcap := OW.out.cap
            have hjc : (R.length : Int) ≤ (R.length : Int) := by omega
            obtain ⟨D, hD⟩ : ∃ D : List (Int × Int), D = [] := ⟨_, rfl⟩
            have hDl : D.length = 0 := by rw [hD]; rfl
            have HIN := Lib.hid (show insU R l[k] = R.take R.length ++ [l[k]] ++ D by rw [hD]; exact HIN.out.trans (by rw [List.drop_length]))
            rw [← hD] at hE
            have OW6 := Lib.hid (OW.out.alloc (.cells #[] 111))
            have hb6 := balloc hbW (.cells #[] 111)
            have hsz6 := hEs
            have O6 := Lib.hid hE
            clear hE BE hEs hD
            go_wp2_with fail
            obtain ⟨w6, hw6⟩ : ∃ u, w4.alloc (.cells #[] 111) = u := ⟨_, rfl⟩
            rw [hw6] at OW6 hb6 hsz6 O6 ⊢
            clear hw6
            refine wp_region_held_drew (S := (Below w.heap.size w)) (by kernel_rfl) (bdrew hb6) (fun hHeld => ?_)
            refine takeL (i := 0) (v := .slice (some ⟨g, 0, none⟩) R.length R.length) rfl (by kernel_rfl) (by kernel_rfl) (by kernel_rfl) (fun _ _ _ h => h) (Or.inl ⟨by rfl, by intro w' hS; clear hS; go_simp⟩) hHeld ?_
            simp only [Act.put, List.setIfInBounds_toArray, List.set_cons_zero, List.set_cons_succ]
            refine takeL (i := 1) (v := .int .i64 (R.length : Int)) rfl (by kernel_rfl) (by kernel_rfl) (by kernel_rfl) (fun _ _ _ h => h) (Or.inl ⟨by rfl, by intro w' hS; clear hS; go_simp⟩) hHeld ?_
            simp only [Act.put, List.setIfInBounds_toArray, List.set_cons_zero, List.set_cons_succ]
            refine takeL (i := 2) (v := .slice (some ⟨g, 0, none⟩) R.length R.length) rfl (by kernel_rfl) (by kernel_rfl) (by kernel_rfl) (fun _ _ _ h => h) (Or.inl ⟨by rfl, by intro w' hS; clear hS; go_simp⟩) hHeld ?_
            simp only [Act.put, List.setIfInBounds_toArray, List.set_cons_zero, List.set_cons_succ]
            refine takeL (i := 3) (v := .slice (some ⟨b, off, none⟩) l.length c) rfl (by kernel_rfl) (by kernel_rfl) (by kernel_rfl) (fun _ _ _ h => h) (Or.inl ⟨by rfl, by intro w' hS; clear hS; go_simp⟩) hHeld ?_
            simp only [Act.put, List.setIfInBounds_toArray, List.set_cons_zero, List.set_cons_succ]
            refine takeL (i := 4) (v := .int .i64 (k : Int)) rfl (by kernel_rfl) (by kernel_rfl) (by kernel_rfl) (fun _ _ _ h => h) (Or.inl ⟨by rfl, by intro w' hS; clear hS; go_simp⟩) hHeld ?_
            simp only [Act.put, List.setIfInBounds_toArray, List.set_cons_zero, List.set_cons_succ]
            refine takeL (i := 5) (v := .pointer (some ⟨b, off + k * 2, none⟩)) rfl (by kernel_rfl) (by kernel_rfl) (by kernel_rfl) (fun _ _ _ h => h) (Or.inl ⟨by rfl, by intro w' hS; clear hS; go_simp⟩) hHeld ?_
            simp only [Act.put, List.setIfInBounds_toArray, List.set_cons_zero, List.set_cons_succ]
            refine takeL (i := 6) (v := .agg #[.int .i16 l[k].1, .int .i8 l[k].2]) rfl (by kernel_rfl) (by kernel_rfl) (by kernel_rfl) (fun _ _ _ h => h) (Or.inl ⟨by rfl, by intro w' hS; have y1 := keepc HX.out.1 hS; have y2 := keepc HX.out.2 hS; clear hS; go_simp⟩) hHeld ?_
            simp only [Act.put, List.setIfInBounds_toArray, List.set_cons_zero, List.set_cons_succ]
            refine takeL (i := 9) (v := .slice (some ⟨w4.heap.size, 0, none⟩) 0 0) rfl (by kernel_rfl) (by kernel_rfl) (by kernel_rfl) (fun _ _ _ h => h) (Or.inl ⟨by rfl, by intro w' hS; clear hS; go_simp⟩) hHeld ?_
            simp only [Act.put, List.setIfInBounds_toArray, List.set_cons_zero, List.set_cons_succ]
            refine wpAnyH_ready (rs := [7]) (by kernel_rfl) (by simp) ?_
            refine readyL rfl (fun K hK => ?_) AllReadyH.nil
            go_simp
            have hOT := ((OW6.out.below (Below.refl w6.heap.size w6).drew).shorten rfl (k := R.length) (by omega)).alloc (.cells #[.int .i16 l[k].1, .int .i8 l[k].2] 111)
            have hO6 := Lib.hid ((O6.out.below (Below.refl w6.heap.size w6).drew).alloc (.cells #[.int .i16 l[k].1, .int .i8 l[k].2] 111))
            refine hK.out _ _ (balloc hHeld _) (fun hHeld => ?_)
            clear hK K
            try simp only [Act.put, List.setIfInBounds_toArray, List.set_cons_zero, List.set_cons_succ]
            have hHs := hHeld.size
            refine wpAnyH_ready (rs := [8]) (by kernel_rfl) (by simp) ?_
            refine readyL rfl (fun K hK => ?_) AllReadyH.nil
            rw [if_pos (by kernel_rfl)]
            refine append_pairsW (.tmp 53) (.tmp 58) 38 38 rfl 111 111 .i16 .i8 4 Tryz.underlying38 Tryz.underlying38 info_Note (by decide) w.heap.size _ (R.take R.length) rfl hOT (some ⟨w6.drew.heap.size, 0, none⟩) 1 [l[k]] rfl (At2.one w6.drew l[k] 111) (by rw [List.length_take]; simp only [List.length_cons, List.length_nil]; omega) hHs ?_
            intro A8 c8 w8 ho8 hg8
            have hbg := OW.out.block.2
            have hO8 := Lib.hid (hO6.out.apart hg8 (fun m hm e => by
              have h1 := hO6.out.low hm
              have e2 : g = m := Option.some.inj e
              omega))
            refine hK.out _ _ (bgrown hHeld hg8 (fun m hm => hOT.low hm)) (fun hHeld => ?_)
            clear hK K
            simp only [Act.put, List.setIfInBounds_toArray, List.set_cons_zero, List.set_cons_succ]
            have hHs := hHeld.size
            refine wpAnyH_ready (rs := [10]) (by kernel_rfl) (by simp) ?_
            refine readyL rfl (fun K hK => ?_) AllReadyH.nil
            rw [if_pos (by kernel_rfl)]
            refine append_pairsW (.tmp 59) (.tmp 60) 38 38 rfl 111 111 .i16 .i8 4 Tryz.underlying38 Tryz.underlying38 info_Note (by decide) w.heap.size _ (R.take R.length ++ [l[k]]) rfl ho8 (some ⟨w4.heap.size, 0, none⟩) 0 D (by rw [hDl]; rfl) hO8.out.at_ (by rw [List.length_append, List.length_take]; simp only [List.length_cons, List.length_nil]; omega) hHs ?_
            intro A10 c10 w10 ho10 hg10
            refine hK.out _ _ (bgrown hHeld hg10 (fun m hm => ho8.low hm)) (fun hHeld => ?_)
            clear hK K
            simp only [Act.put, List.setIfInBounds_toArray, List.set_cons_zero, List.set_cons_succ]
            obtain ⟨g10, rfl⟩ := ho10.form (by simp only [List.length_append, List.length_cons]; omega)
            rw [← HIN.out, ← HST.out] at ho10 ⊢
            have O10 := Lib.hid ho10
            clear ho10 hO8 ho8 hO6 hOT
            refine wpAnyH_ready (rs := [11]) (by kernel_rfl) (by simp) ?_
            refine readyL rfl (fun K hK => ?_) AllReadyH.nil
            go_simp
            refine hK.out _ _ (hHeld) (fun hHeld => ?_)
            clear hK K
            try simp only [Act.put, List.setIfInBounds_toArray, List.set_cons_zero, List.set_cons_succ]
            refine wpAnyH_done (by kernel_rfl) ?_ _
            go_wp2
            go_roundw
            case rel => exact ⟨k + 1, g10, c10, by first | rfl | rw [hwk], rfl, by omega, O10.out, hHeld⟩
            case measure => simp [intOf]; omega
          · skip
            have hbW := bstep (bstep B2 hb3) hb4
            have OW := Lib.hid ((O2.out.below hb3).below hb4)
            clear hb3 hb4
            have hE := Own2.lit0 (k1 := .i16) (k2 := .i8) (E := 111) (w := w4) (base := w4.heap.size) (Nat.le_refl _)
            have BE := balloc (Below.refl _ w4) (.cells #[] 111)
            have hEs := BE.size
            have hcap := OW.out.cap
            have hjc : (R.length : Int) ≤ (c1 : Int) := by omega
            obtain ⟨D, hD⟩ : ∃ D : List (Int × Int), D = [] := ⟨_, rfl⟩
            have hDl : D.length = 0 := by rw [hD]; rfl
            have HIN := Lib.hid (show insU R l[k] = R.take R.length ++ [l[k]] ++ D by rw [hD]; exact HIN.out.trans (by rw [List.drop_length]))
            rw [← hD] at hE
            have OW6 := Lib.hid (OW.out.alloc (.cells #[] 111))
            have hb6 := balloc hbW (.cells #[] 111)
            have hsz6 := hEs
            have O6 := Lib.hid hE
            clear hE BE hEs hD
            go_wp2_with fail
            obtain ⟨w6, hw6⟩ : ∃ u, w4.alloc (.cells #[] 111) = u := ⟨_, rfl⟩
            rw [hw6] at OW6 hb6 hsz6 O6 ⊢
            clear hw6
            refine wp_region_held_drew (S := (Below w.heap.size w)) (by kernel_rfl) (bdrew hb6) (fun hHeld => ?_)
            refine takeL (i := 0) (v := .slice (some ⟨g, 0, none⟩) R.length c1) rfl (by kernel_rfl) (by kernel_rfl) (by kernel_rfl) (fun _ _ _ h => h) (Or.inl ⟨by rfl, by intro w' hS; clear hS; go_simp⟩) hHeld ?_
            simp only [Act.put, List.setIfInBounds_toArray, List.set_cons_zero, List.set_cons_succ]
            refine takeL (i := 1) (v := .int .i64 (R.length : Int)) rfl (by kernel_rfl) (by kernel_rfl) (by kernel_rfl) (fun _ _ _ h => h) (Or.inl ⟨by rfl, by intro w' hS; clear hS; go_simp⟩) hHeld ?_
            simp only [Act.put, List.setIfInBounds_toArray, List.set_cons_zero, List.set_cons_succ]
            refine takeL (i := 2) (v := .slice (some ⟨g, 0, none⟩) R.length c1) rfl (by kernel_rfl) (by kernel_rfl) (by kernel_rfl) (fun _ _ _ h => h) (Or.inl ⟨by rfl, by intro w' hS; clear hS; go_simp⟩) hHeld ?_
            simp only [Act.put, List.setIfInBounds_toArray, List.set_cons_zero, List.set_cons_succ]
            refine takeL (i := 3) (v := .slice (some ⟨b, off, none⟩) l.length c) rfl (by kernel_rfl) (by kernel_rfl) (by kernel_rfl) (fun _ _ _ h => h) (Or.inl ⟨by rfl, by intro w' hS; clear hS; go_simp⟩) hHeld ?_
            simp only [Act.put, List.setIfInBounds_toArray, List.set_cons_zero, List.set_cons_succ]
            refine takeL (i := 4) (v := .int .i64 (k : Int)) rfl (by kernel_rfl) (by kernel_rfl) (by kernel_rfl) (fun _ _ _ h => h) (Or.inl ⟨by rfl, by intro w' hS; clear hS; go_simp⟩) hHeld ?_
            simp only [Act.put, List.setIfInBounds_toArray, List.set_cons_zero, List.set_cons_succ]
            refine takeL (i := 5) (v := .pointer (some ⟨b, off + k * 2, none⟩)) rfl (by kernel_rfl) (by kernel_rfl) (by kernel_rfl) (fun _ _ _ h => h) (Or.inl ⟨by rfl, by intro w' hS; clear hS; go_simp⟩) hHeld ?_
            simp only [Act.put, List.setIfInBounds_toArray, List.set_cons_zero, List.set_cons_succ]
            refine takeL (i := 6) (v := .agg #[.int .i16 l[k].1, .int .i8 l[k].2]) rfl (by kernel_rfl) (by kernel_rfl) (by kernel_rfl) (fun _ _ _ h => h) (Or.inl ⟨by rfl, by intro w' hS; have y1 := keepc HX.out.1 hS; have y2 := keepc HX.out.2 hS; clear hS; go_simp⟩) hHeld ?_
            simp only [Act.put, List.setIfInBounds_toArray, List.set_cons_zero, List.set_cons_succ]
            refine takeL (i := 9) (v := .slice (some ⟨w4.heap.size, 0, none⟩) 0 0) rfl (by kernel_rfl) (by kernel_rfl) (by kernel_rfl) (fun _ _ _ h => h) (Or.inl ⟨by rfl, by intro w' hS; clear hS; go_simp⟩) hHeld ?_
            simp only [Act.put, List.setIfInBounds_toArray, List.set_cons_zero, List.set_cons_succ]
            refine wpAnyH_ready (rs := [7]) (by kernel_rfl) (by simp) ?_
            refine readyL rfl (fun K hK => ?_) AllReadyH.nil
            go_simp
            have hOT := ((OW6.out.below (Below.refl w6.heap.size w6).drew).shorten rfl (k := R.length) (by omega)).alloc (.cells #[.int .i16 l[k].1, .int .i8 l[k].2] 111)
            have hO6 := Lib.hid ((O6.out.below (Below.refl w6.heap.size w6).drew).alloc (.cells #[.int .i16 l[k].1, .int .i8 l[k].2] 111))
            refine hK.out _ _ (balloc hHeld _) (fun hHeld => ?_)
            clear hK K
            try simp only [Act.put, List.setIfInBounds_toArray, List.set_cons_zero, List.set_cons_succ]
            have hHs := hHeld.size
            refine wpAnyH_ready (rs := [8]) (by kernel_rfl) (by simp) ?_
            refine readyL rfl (fun K hK => ?_) AllReadyH.nil
            rw [if_pos (by kernel_rfl)]
            refine append_pairsW (.tmp 53) (.tmp 58) 38 38 rfl 111 111 .i16 .i8 4 Tryz.underlying38 Tryz.underlying38 info_Note (by decide) w.heap.size _ (R.take R.length) rfl hOT (some ⟨w6.drew.heap.size, 0, none⟩) 1 [l[k]] rfl (At2.one w6.drew l[k] 111) (by rw [List.length_take]; simp only [List.length_cons, List.length_nil]; omega) hHs ?_
            intro A8 c8 w8 ho8 hg8
            have hbg := OW.out.block.2
            have hO8 := Lib.hid (hO6.out.apart hg8 (fun m hm e => by
              have h1 := hO6.out.low hm
              have e2 : g = m := Option.some.inj e
              omega))
            refine hK.out _ _ (bgrown hHeld hg8 (fun m hm => hOT.low hm)) (fun hHeld => ?_)
            clear hK K
            simp only [Act.put, List.setIfInBounds_toArray, List.set_cons_zero, List.set_cons_succ]
            have hHs := hHeld.size
            refine wpAnyH_ready (rs := [10]) (by kernel_rfl) (by simp) ?_
            refine readyL rfl (fun K hK => ?_) AllReadyH.nil
            rw [if_pos (by kernel_rfl)]
            refine append_pairsW (.tmp 59) (.tmp 60) 38 38 rfl 111 111 .i16 .i8 4 Tryz.underlying38 Tryz.underlying38 info_Note (by decide) w.heap.size _ (R.take R.length ++ [l[k]]) rfl ho8 (some ⟨w4.heap.size, 0, none⟩) 0 D (by rw [hDl]; rfl) hO8.out.at_ (by rw [List.length_append, List.length_take]; simp only [List.length_cons, List.length_nil]; omega) hHs ?_
            intro A10 c10 w10 ho10 hg10
            refine hK.out _ _ (bgrown hHeld hg10 (fun m hm => ho8.low hm)) (fun hHeld => ?_)
            clear hK K
            simp only [Act.put, List.setIfInBounds_toArray, List.set_cons_zero, List.set_cons_succ]
            obtain ⟨g10, rfl⟩ := ho10.form (by simp only [List.length_append, List.length_cons]; omega)
            rw [← HIN.out, ← HST.out] at ho10 ⊢
            have O10 := Lib.hid ho10
            clear ho10 hO8 ho8 hO6 hOT
            refine wpAnyH_ready (rs := [11]) (by kernel_rfl) (by simp) ?_
            refine readyL rfl (fun K hK => ?_) AllReadyH.nil
            go_simp
            refine hK.out _ _ (hHeld) (fun hHeld => ?_)
            clear hK K
            try simp only [Act.put, List.setIfInBounds_toArray, List.set_cons_zero, List.set_cons_succ]
            refine wpAnyH_done (by kernel_rfl) ?_ _
            go_wp2
            go_roundw
            case rel => exact ⟨k + 1, g10, c10, by first | rfl | rw [hwk], rfl, by omega, O10.out, hHeld⟩
            case measure => simp [intOf]; omega
    · obtain rfl : k = l.length := by omega
      rw [List.take_length] at HO ⊢
      go_wp2
      go_ret
      exact ⟨g, c1, rfl, HO.out, hb⟩

end Go.Proofs.YtnakdlfjjeligaaGreat
