/-
  The statement FnTurnedDrumsSaid: whatever bytes are given, the law's call returns true, and the bytes read as they did: what is said of turned, mirrored and swapped drums, of free tracks and of pins that are put in and taken out holds. Conditions: none beyond the statement's own.
-/
import Derived.Test.YtnakdlfjjeligaaGreatRows
import Derived.Test.YtnakdlfjjeligaaGreatOpen
import Derived.Test.YtnakdlfjjeligaaGreatOpenB
import Derived.Test.YtnakdlfjjeligaaGreatWalkFD
import Derived.Test.YtnakdlfjjeligaaGreatPureTF
import Derived.Test.YtnakdlfjjeligaaGreatWalkSX
import Derived.Test.YtnakdlfjjeligaaGreatWalkSW
import Derived.Test.YtnakdlfjjeligaaGreatWalkDO
import Derived.Test.YtnakdlfjjeligaaGreatWalkDN
import Derived.Test.YtnakdlfjjeligaaGreatWalkTO
import Derived.Test.YtnakdlfjjeligaaGreatWalkE
import Derived.Test.YtnakdlfjjeligaaGreatWalkDV
import Derived.Test.YtnakdlfjjeligaaGreatWalkDE
import Derived.Test.YtnakdlfjjeligaaGreatWalkEA
import Derived.Test.YtnakdlfjjeligaaGreatWalkDQ
import Derived.Test.YtnakdlfjjeligaaGreatWalkDM
import Derived.Test.YtnakdlfjjeligaaGreatWalkSR
import Derived.Test.YtnakdlfjjeligaaGreatData
import Derived.ChangeSlices
import Derived.Deep.CutRange
namespace Go.Proofs.YtnakdlfjjeligaaGreat
open Go.RowKit Go.ChangeShapes Go.WideShapes Go.Deep
set_option linter.unusedVariables false
set_option linter.unusedSimpArgs false
set_option maxRecDepth 100000

theorem wpList_neqD {P : Program} {ops : Array Oper} {rest : List Oper} {o : Oper} {a : Act} {w : World} {Q : Exit → Act → World → Prop} {ty t2 : TypeId} {x y : Operand} {d : List Int} (he : ∀ w, (Op.equalIn 10000 ty (.agg (drumV d)) (.agg (drumV d))).run P w = .ok true w) (hg : P.eqGuardType P.depth ty = false)
    (hw : Region.wanted o (yielded ops a.tmps) = true) (ho : o.op = .binOp .neq ty x y t2) (hx : a.eval x = .agg (drumV d)) (hy : a.eval y = .agg (drumV d)) (h : wpList P ops Q rest (a.put o.dst (.bool false)) w) : wpList P ops Q (o :: rest) a w :=
  wpList_step fun K hK => by
    rw [if_pos hw]
    unfold Oper.wp execOp
    simp only [ho, hx, hy, Sem.run_bind, run_eqGuard_agg w _ _ _ _ _ _ hg, run_neq_struct, he, Result.andThen_ok, Bool.not_true]
    exact hK _ _ h
theorem wpList_eqlD {P : Program} {ops : Array Oper} {rest : List Oper} {o : Oper} {a : Act} {w : World} {Q : Exit → Act → World → Prop} {ty t2 : TypeId} {x y : Operand} {d : List Int} (he : ∀ w, (Op.equalIn 10000 ty (.agg (drumV d)) (.agg (drumV d))).run P w = .ok true w) (hg : P.eqGuardType P.depth ty = false)
    (hw : Region.wanted o (yielded ops a.tmps) = true) (ho : o.op = .binOp .eql ty x y t2) (hx : a.eval x = .agg (drumV d)) (hy : a.eval y = .agg (drumV d)) (h : wpList P ops Q rest (a.put o.dst (.bool true)) w) : wpList P ops Q (o :: rest) a w :=
  wpList_step fun K hK => by
    rw [if_pos hw]
    unfold Oper.wp execOp
    simp only [ho, hx, hy, Sem.run_bind, run_eqGuard_agg w _ _ _ _ _ _ hg, run_eql_struct, he, Result.andThen_ok]
    exact hK _ _ h
theorem eqg_drum : Tryz.prog.eqGuardType Tryz.prog.depth 31 = false := by kernel_rfl

set_option maxHeartbeats 8000000 in
theorem law_TurnedDrums (A B : Option Addr) (kc km : Nat) (code more : List Int) (w : World) (h1 : At1 .u8 w A code) (h2 : At1 .u8 w B more) (hc1 : ∀ x ∈ code, 0 ≤ x ∧ x ≤ 255) (hc2 : ∀ x ∈ more, 0 ≤ x ∧ x ≤ 255) :
    Calls Tryz.prog 3 #[.slice A code.length kc, .slice B more.length km] w fun e w' => e = .returned (.bool true) ∧ Below w.heap.size w w' := by
  rcases hlong : (decide (3000 < code.length) || decide (3000 < more.length)) with _ | _
  · have hl1 : code.length ≤ 3000 := by simp at hlong; omega
    have hl2 : more.length ≤ 3000 := by simp at hlong; omega
    have HC1 := Lib.hid hc1
    have HC2 := Lib.hid hc2
    have H1 := Lib.hid h1
    have H2 := Lib.hid h2
    clear hc1 hc2 h1 h2
    go_enter Tryz.func3, Tryz.ntmps3
    go_wp2_with fail
    refine (c_a2Long A B kc km code.length more.length _).mono ?_
    rintro e w' ⟨rfl, rfl⟩
    rw [hlong]
    clear hlong
    go_upto_region 3 with fail
    go_cut [5] from 70 to 71 (fun x w' => ∃ g s Af cf l, x = .pointer (some ⟨g, 0, none⟩) ∧ Var w' g #[.int .i16 s, .slice Af l.length cf] 27 ∧ DrawnF s l ∧ At2 .i8 .i8 w' Af l ∧ Below w.heap.size w w')
    case first => as_aux_lemma =>
      clear HC2 H2
      go_wp2_with fail
      refine (c_A2Frame A kc code _ H1.out HC1.out (by omega)).mono ?_
      rintro e w1 ⟨s, Af, cf, l, rfl, hF, of, b1⟩
      have HF := Lib.hid hF
      have HO := Lib.hid of.at_
      clear hF of
      go_wp2_with fail
      go_meet
      case rel => exact ⟨_, s, Af, cf, l, rfl, Var.new _ _ _, HF.out, HO.out.below (balloc (Below.refl _ _) _), balloc b1 _⟩
    obtain ⟨g5, s, Af, cf, l, rfl, v, hF, hT, b1⟩ := hcut
    obtain ⟨w1, rfl⟩ : ∃ x, x = wc := ⟨_, rfl⟩
    replace H1 := Lib.hid (H1.out.below b1)
    replace H2 := Lib.hid (H2.out.below b1)
    have HB := Lib.hid b1
    clear b1
    have V5 := Lib.hid v
    have HF := Lib.hid hF
    have HT := Lib.hid hT
    have hl0 := hF.2.1
    have hs0 := hF.1
    clear v hF hT
    go_upto_region 4 with fail
    go_cut [6] from 72 to 74 (fun x w' => ∃ g d, x = .pointer (some ⟨g, 0, none⟩) ∧ Var w' g (drumV d) 31 ∧ DrumIn s l d 11 ∧ Below w1.heap.size w1 w')
    case first => as_aux_lemma =>
      clear HC1 H1 HB
      have y1 := V5.out.cell (i := 0) rfl
      have y2 := V5.out.cell (i := 1) rfl
      go_wp2_with fail
      refine (c_A2Drum B km more s Af cf l _ H2.out HC2.out (by omega) HT.out HF.out).mono ?_
      rintro e ww ⟨d, rfl, hD, bb⟩
      have HD := Lib.hid hD
      have hd := hD.2.1
      clear hD y1 y2
      go_wp2_with (first | (refine wpList_alloc_row rfl 31 rfl (.agg (drumV zD)) zero_Drum ?_) | (refine wpList_storeD rfl rfl (Var.new ww (drumV zD) 31) rfl rfl size_Drum hd zD_len ?_))
      go_meet
      case rel => exact ⟨_, d, rfl, (Var.new _ _ _).row _, HD.out, brow (balloc bb _) bb.size _⟩
    obtain ⟨g6, d, rfl, v, hD, b2⟩ := hcut
    obtain ⟨w2, rfl⟩ : ∃ x, x = wc := ⟨_, rfl⟩
    replace H1 := Lib.hid (H1.out.below b2)
    replace H2 := Lib.hid (H2.out.below b2)
    replace V5 := Lib.hid (V5.out.below b2)
    replace HT := Lib.hid (HT.out.below b2)
    replace HB := Lib.hid (bstep HB.out b2)
    clear b2
    have V6 := Lib.hid v
    have HD := Lib.hid hD
    have LD := hD.2.1
    clear v hD
    obtain ⟨hlo, hhi⟩ := hs0
    have hws : IntKind.i64.wrap s = s := IntWalk.i64_in _ (by omega)
    have y1 := V5.out.cell (i := 0) rfl
    have y2 := V5.out.cell (i := 1) rfl
    go_upto_region 6 with fail
    clear y1 y2
    go_cut [8] from 78 to 80 (fun x w' => ∃ r : Int, x = .int .i64 r ∧ (0 ≤ r ∧ r < s) ∧ Below w2.heap.size w2 w')
    case first => as_aux_lemma =>
      clear HC1 H1 HB V5 HF HT V6 HD LD hws
      go_wp2_with fail
      refine (c_a2At B km more 0 s _ H2.out HC2.out (by omega)).mono ?_
      rintro e ww ⟨r, rfl, hr, rfl⟩
      go_wp2
      go_meet
      case rel => exact ⟨r, rfl, hr, Below.refl _ _⟩
    obtain ⟨q, rfl, hq, b3⟩ := hcut
    obtain ⟨w3, rfl⟩ : ∃ x, x = wc := ⟨_, rfl⟩
    replace H1 := Lib.hid (H1.out.below b3)
    replace H2 := Lib.hid (H2.out.below b3)
    replace V5 := Lib.hid (V5.out.below b3)
    replace HT := Lib.hid (HT.out.below b3)
    replace V6 := Lib.hid (V6.out.below b3)
    replace HB := Lib.hid (bstep HB.out b3)
    clear b3
    obtain ⟨hq0, hq1⟩ := hq
    have hTF := turn_facts HF.out HD.out (by omega) ⟨hq0, hq1⟩
    have hMF := mirror_facts HF.out HD.out (by omega)
    have hUF := tune_facts HF.out HD.out (by omega)
    obtain ⟨T, hT⟩ : ∃ T, rTurn s l d q = T := ⟨_, rfl⟩
    obtain ⟨M, hM⟩ : ∃ M, rMirror s l d = M := ⟨_, rfl⟩
    obtain ⟨z, hz⟩ : ∃ z, (s - q) % s = z := ⟨_, rfl⟩
    obtain ⟨U, hU⟩ : ∃ U, rTu s l d = U := ⟨_, rfl⟩
    obtain ⟨U1, hU1⟩ : ∃ U, rTu s l T = U := ⟨_, rfl⟩
    obtain ⟨U2, hU2⟩ : ∃ U, rTu s l M = U := ⟨_, rfl⟩
    obtain ⟨K, hK⟩ : ∃ U, rCl s l d = U := ⟨_, rfl⟩
    obtain ⟨K1, hK1⟩ : ∃ U, rCl s l T = U := ⟨_, rfl⟩
    obtain ⟨K2, hK2⟩ : ∃ U, rCl s l M = U := ⟨_, rfl⟩
    rw [hT, hz, hU1, hU, hK1, hK] at hTF
    rw [hM, hU2, hU, hK2, hK] at hMF
    rw [hU] at hUF
    obtain ⟨t1, wT, lT, t2, t3, t4, t5, t6, t7⟩ := hTF
    obtain ⟨wM, lM, m1, m2, m3, m4, m5⟩ := hMF
    obtain ⟨u1, u2, u3, u4, u5, u6, u7, u8, u9⟩ := hUF
    have hz0 : 0 ≤ z := by rw [← hz]; exact Int.emod_nonneg _ (by omega)
    have hz1 : z < s := by rw [← hz]; exact Int.emod_lt_of_pos _ (by omega)
    have hz2 : Int.tmod (s - q) s = z := by rw [← hz]; exact Int.tmod_eq_emod_of_nonneg (by omega)
    have hwz : IntKind.i64.wrap (s - q) = s - q := IntWalk.i64_in _ (by omega)
    have hwz2 : IntKind.i64.wrap z = z := IntWalk.i64_in _ (by omega)
    have hs1 : ¬ s = 0 := by omega
    have HT_ := Lib.hid hT
    have HM_ := Lib.hid hM
    have HZ_ := Lib.hid hz
    have HU_ := Lib.hid hU
    have HU1_ := Lib.hid hU1
    have HU2_ := Lib.hid hU2
    have HK_ := Lib.hid hK
    have HK1_ := Lib.hid hK1
    have HK2_ := Lib.hid hK2
    have T1_ := Lib.hid t1
    have WT_ := Lib.hid wT
    have T2_ := Lib.hid t2
    have T3_ := Lib.hid t3
    have T4_ := Lib.hid t4
    have T5_ := Lib.hid t5
    have T6_ := Lib.hid t6
    have T7_ := Lib.hid t7
    have WM_ := Lib.hid wM
    have M1_ := Lib.hid m1
    have M2_ := Lib.hid m2
    have M3_ := Lib.hid m3
    have M4_ := Lib.hid m4
    have M5_ := Lib.hid m5
    have U1_ := Lib.hid u1
    have U2_ := Lib.hid u2
    have U3_ := Lib.hid u3
    have U4_ := Lib.hid u4
    have U5_ := Lib.hid u5
    have U6_ := Lib.hid u6
    have U7_ := Lib.hid u7
    have U8_ := Lib.hid u8
    have U9_ := Lib.hid u9
    clear hT hM hz hU hU1 hU2 hK hK1 hK2 t1 wT t2 t3 t4 t5 t6 t7 wM m1 m2 m3 m4 m5 u1 u2 u3 u4 u5 u6 u7 u8 u9
    have HW := Lib.hid HF.out.w16
    have HH := Lib.hid HF.out.whs
    have WD := Lib.hid HD.out.1
    have hl30 : l.length ≤ 1073741824 := by omega
    go_upto_region 7 with fail
    go_cut [9, 10] from 81 to 87 (fun x y w' => ∃ g, x = .pointer (some ⟨g, 0, none⟩) ∧ y = .int .i64 (0) ∧ Var w' g (drumV T) 31 ∧ w3.heap.size ≤ g ∧ Below w3.heap.size w3 w')
    case first => as_aux_lemma =>
      clear HC1 HC2 H1 H2 HB HF HD hws hz2 hwz hwz2 hs1 HM_ HZ_ HU_ HU1_ HU2_ HK_ HK1_ HK2_ WT_ T2_ T3_ T4_ T5_ T6_ T7_ WM_ M1_ M2_ M3_ M4_ M5_ U1_ U2_ U3_ U4_ U5_ U6_ U7_ U8_ U9_
      skip
      have y1 := V5.out.cell (i := 0) rfl
      have y2 := V5.out.cell (i := 1) rfl
      go_wp2_with (first | (refine wpList_loadD (by rfl) rfl V6.out rfl Tryz.underlying31 size_Drum LD ?_))
      refine (c_implTurnDrum s Af cf l d q _ HT.out HW.out HH.out hl30 LD WD.out (by omega)).mono ?_
      rintro e ww ⟨rfl, bb⟩
      rw [HT_.out, T1_.out]
      clear y1 y2
      go_wp2_with (first | (refine wpList_alloc_row rfl 31 rfl (.agg (drumV zD)) zero_Drum ?_) | (refine wpList_storeD rfl rfl (Var.new ww (drumV zD) 31) rfl rfl size_Drum lT zD_len ?_))
      go_meet
      case rel => exact ⟨_, rfl, rfl, (Var.new _ _ _).row _, bb.size, brow (balloc bb _) bb.size _⟩
    obtain ⟨gV9, rfl, rfl, v, -, b4⟩ := hcut
    obtain ⟨w4, rfl⟩ : ∃ x, x = wc := ⟨_, rfl⟩
    replace H1 := Lib.hid (H1.out.below b4)
    replace H2 := Lib.hid (H2.out.below b4)
    replace V5 := Lib.hid (V5.out.below b4)
    replace HT := Lib.hid (HT.out.below b4)
    replace V6 := Lib.hid (V6.out.below b4)
    replace HB := Lib.hid (bstep HB.out b4)
    clear b4
    have V9 := Lib.hid v
    clear v
    go_upto_region 8 with fail
    go_cut [11, 12] from 88 to 94 (fun x y w' => ∃ g, x = .pointer (some ⟨g, 0, none⟩) ∧ y = .int .i64 (0) ∧ Var w' g (drumV T) 31 ∧ w4.heap.size ≤ g ∧ Below w4.heap.size w4 w')
    case first => as_aux_lemma =>
      clear HC1 HC2 H1 H2 HB HF HD hws hz2 hwz hwz2 hs1 HM_ HZ_ HU_ HU1_ HU2_ HK_ HK1_ HK2_ WT_ T2_ T3_ T4_ T5_ T6_ T7_ WM_ M1_ M2_ M3_ M4_ M5_ U1_ U2_ U3_ U4_ U5_ U6_ U7_ U8_ U9_ V9
      skip
      have y1 := V5.out.cell (i := 0) rfl
      have y2 := V5.out.cell (i := 1) rfl
      go_wp2_with (first | (refine wpList_loadD (by rfl) rfl V6.out rfl Tryz.underlying31 size_Drum LD ?_))
      refine (c_specTurnDrum s Af cf l d q _ HT.out HW.out HH.out hl30 LD WD.out (by omega)).mono ?_
      rintro e ww ⟨rfl, bb⟩
      rw [HT_.out, T1_.out]
      clear y1 y2
      go_wp2_with (first | (refine wpList_alloc_row rfl 31 rfl (.agg (drumV zD)) zero_Drum ?_) | (refine wpList_storeD rfl rfl (Var.new ww (drumV zD) 31) rfl rfl size_Drum lT zD_len ?_))
      go_meet
      case rel => exact ⟨_, rfl, rfl, (Var.new _ _ _).row _, bb.size, brow (balloc bb _) bb.size _⟩
    obtain ⟨gV11, rfl, rfl, v, -, b5⟩ := hcut
    obtain ⟨w5, rfl⟩ : ∃ x, x = wc := ⟨_, rfl⟩
    replace H1 := Lib.hid (H1.out.below b5)
    replace H2 := Lib.hid (H2.out.below b5)
    replace V5 := Lib.hid (V5.out.below b5)
    replace HT := Lib.hid (HT.out.below b5)
    replace V6 := Lib.hid (V6.out.below b5)
    replace V9 := Lib.hid (V9.out.below b5)
    replace HB := Lib.hid (bstep HB.out b5)
    clear b5
    have V11 := Lib.hid v
    clear v
    go_upto_region 9 with fail
    go_cut [13, 14] from 95 to 105 (fun x y w' => ∃ g, x = .pointer (some ⟨g, 0, none⟩) ∧ y = .int .i64 0 ∧ Var w' g (drumV d) 31 ∧ w5.heap.size ≤ g ∧ Below w5.heap.size w5 w')
    case first => as_aux_lemma =>
      clear HC1 HC2 H1 H2 HB HF V6 HD hws HT_ HM_ HZ_ HU_ HU1_ HU2_ HK_ HK1_ HK2_ T1_ T4_ T5_ T6_ T7_ WM_ M1_ M2_ M3_ M4_ M5_ U1_ U2_ U3_ U4_ U5_ U6_ U7_ U8_ U9_ WD V9
      have hud := Tryz.underlying31
      have hid1 : (Tryz.prog.info? 31).map (·.size) = some 96 := by kernel_rfl
      have hlnT : (Tryz.prog.info? 31).map (·.size) = some (drumV T).toList.length := by rw [drumV_len, lT]; exact hid1
      clear hid1
      refine wp_region_held_drew (S := (Below w5.heap.size w5)) (by kernel_rfl) (bdrew (Below.refl _ _)) (fun hHeld => ?_)
      refine takeL (i := 0) (v := .agg #[.int .i16 s, .slice Af l.length cf]) rfl (by kernel_rfl) (by kernel_rfl) (by kernel_rfl) (fun _ _ _ h => h) (Or.inl ⟨by rfl, by intro w' hS; have y1 := (V5.out.below hS).cell (i := 0) rfl; have y2 := (V5.out.below hS).cell (i := 1) rfl; clear hS; go_simp⟩) hHeld ?_
      simp only [Act.put, List.setIfInBounds_toArray, List.set_cons_zero, List.set_cons_succ]
      refine takeL (i := 1) (v := .agg (drumV T)) rfl (by kernel_rfl) (by kernel_rfl) (by kernel_rfl) (fun _ _ _ h => h) (by simpa using yieldsIf_load_mid (S := (Below w5.heap.size w5)) (by rfl) _ _ rfl _ _ rfl (drumV T).toList _ (fun w' hS => (V11.out.below hS).range) hud rfl hlnT) hHeld ?_
      simp only [Act.put, List.setIfInBounds_toArray, List.set_cons_zero, List.set_cons_succ]
      refine takeL (i := 2) (v := .int .i64 s) rfl (by kernel_rfl) (by kernel_rfl) (by kernel_rfl) (fun _ _ _ h => h) (Or.inl ⟨by rfl, by intro w' hS; clear hS; go_simp⟩) hHeld ?_
      simp only [Act.put, List.setIfInBounds_toArray, List.set_cons_zero, List.set_cons_succ]
      refine takeL (i := 3) (v := .int .i64 q) rfl (by kernel_rfl) (by kernel_rfl) (by kernel_rfl) (fun _ _ _ h => h) (Or.inl ⟨by rfl, by intro w' hS; clear hS; go_simp⟩) hHeld ?_
      simp only [Act.put, List.setIfInBounds_toArray, List.set_cons_zero, List.set_cons_succ]
      refine takeL (i := 4) (v := .int .i64 (s - q)) rfl (by kernel_rfl) (by kernel_rfl) (by kernel_rfl) (fun _ _ _ h => h) (Or.inl ⟨by rfl, by intro w' hS; clear hS; go_simp⟩) hHeld ?_
      simp only [Act.put, List.setIfInBounds_toArray, List.set_cons_zero, List.set_cons_succ]
      refine takeL (i := 5) (v := .int .i64 s) rfl (by kernel_rfl) (by kernel_rfl) (by kernel_rfl) (fun _ _ _ h => h) (Or.inl ⟨by rfl, by intro w' hS; clear hS; go_simp⟩) hHeld ?_
      simp only [Act.put, List.setIfInBounds_toArray, List.set_cons_zero, List.set_cons_succ]
      refine takeL (i := 6) (v := .int .i64 z) rfl (by kernel_rfl) (by kernel_rfl) (by kernel_rfl) (fun _ _ _ h => h) (Or.inl ⟨by rfl, by intro w' hS; clear hS; go_simp⟩) hHeld ?_
      simp only [Act.put, List.setIfInBounds_toArray, List.set_cons_zero, List.set_cons_succ]
      refine wpAnyH_ready (rs := [7, 11]) (by kernel_rfl) (by simp) ?_
      refine readyL rfl (fun K hK => ?_) (readyL rfl (fun K hK => ?_) AllReadyH.nil)
      · skip
        go_simp
        refine (c_implTurnDrum s Af cf l T z _ (HT.out.below hHeld) HW.out HH.out hl30 lT WT_.out (by omega)).mono ?_
        rintro e wa ⟨rfl, hbk⟩
        rw [T3_.out, T2_.out]
        go_wp2_with fail
        refine hK.out _ _ (bstep hHeld hbk) (fun hHeld => ?_)
        clear hK K
        try simp only [Act.put, List.setIfInBounds_toArray, List.set_cons_zero, List.set_cons_succ]
        refine takeL (i := 8) (v := .tuple #[.agg (drumV d), .int .i64 0]) rfl (by kernel_rfl) (by kernel_rfl) (by kernel_rfl) (fun _ _ _ h => h) (Or.inl ⟨by rfl, by intro w' hS; clear hS; go_simp⟩) hHeld ?_
        simp only [Act.put, List.setIfInBounds_toArray, List.set_cons_zero, List.set_cons_succ]
        refine takeL (i := 9) (v := .agg (drumV d)) rfl (by kernel_rfl) (by kernel_rfl) (by kernel_rfl) (fun _ _ _ h => h) (Or.inl ⟨by rfl, by intro w' hS; clear hS; go_simp⟩) hHeld ?_
        simp only [Act.put, List.setIfInBounds_toArray, List.set_cons_zero, List.set_cons_succ]
        refine takeL (i := 10) (v := .int .i64 0) rfl (by kernel_rfl) (by kernel_rfl) (by kernel_rfl) (fun _ _ _ h => h) (Or.inl ⟨by rfl, by intro w' hS; clear hS; go_simp⟩) hHeld ?_
        simp only [Act.put, List.setIfInBounds_toArray, List.set_cons_zero, List.set_cons_succ]
        refine wpAnyH_ready (rs := [11]) (by kernel_rfl) (by simp) ?_
        refine readyL rfl (fun K hK => ?_) AllReadyH.nil
        rw [if_pos (by rfl)]
        refine wp_alloc_drum rfl zero_Drum ?_
        obtain ⟨g, hg⟩ : ∃ g : Nat, g = wa.heap.size := ⟨_, rfl⟩
        have hV := Var.new wa (drumV zD) 31
        have hgl := hHeld.size
        have hgl : w5.heap.size ≤ g := by rw [hg]; exact hgl
        rw [← hg] at hV ⊢
        refine hK.out _ _ (balloc hHeld _) (fun hHeld => ?_)
        clear hK K
        try simp only [Act.put, List.setIfInBounds_toArray, List.set_cons_zero, List.set_cons_succ]
        obtain ⟨u, hu⟩ : ∃ x, x = wa.alloc (.cells (drumV zD) 31) := ⟨_, rfl⟩
        rw [← hu] at hHeld hV ⊢
        clear hu hg
        refine wpAnyH_ready (rs := [12]) (by kernel_rfl) (by simp) ?_
        refine readyL rfl (fun K hK => ?_) AllReadyH.nil
        rw [if_pos (by rfl)]
        refine wp_storeD rfl hV rfl rfl size_Drum LD zD_len ?_
        have hV2 := hV.row (drumV d)
        refine hK.out _ _ (brow hHeld hgl _) (fun hHeld => ?_)
        clear hK K
        try simp only [Act.put, List.setIfInBounds_toArray, List.set_cons_zero, List.set_cons_succ]
        refine wpAnyH_ready (rs := [13]) (by kernel_rfl) (by simp) ?_
        refine readyL rfl (fun K hK => ?_) AllReadyH.nil
        go_simp
        refine hK.out _ _ (hHeld) (fun hHeld => ?_)
        clear hK K
        try simp only [Act.put, List.setIfInBounds_toArray, List.set_cons_zero, List.set_cons_succ]
        refine wpAnyH_done (by kernel_rfl) ?_ _
        go_wp2_with fail
        go_meet
        case rel => exact ⟨_, rfl, rfl, hV2, hgl, hHeld⟩
      · skip
        rw [if_pos (by rfl)]
        refine wp_alloc_drum rfl zero_Drum ?_
        obtain ⟨g, hg⟩ : ∃ g : Nat, g = w5.drew.heap.size := ⟨_, rfl⟩
        have hV := Var.new w5.drew (drumV zD) 31
        have hgl := hHeld.size
        have hgl : w5.heap.size ≤ g := by rw [hg]; exact hgl
        rw [← hg] at hV ⊢
        refine hK.out _ _ (balloc hHeld _) (fun hHeld => ?_)
        clear hK K
        try simp only [Act.put, List.setIfInBounds_toArray, List.set_cons_zero, List.set_cons_succ]
        obtain ⟨u, hu⟩ : ∃ x, x = w5.drew.alloc (.cells (drumV zD) 31) := ⟨_, rfl⟩
        rw [← hu] at hHeld hV ⊢
        clear hu hg
        refine wpAnyH_ready (rs := [7]) (by kernel_rfl) (by simp) ?_
        refine readyL rfl (fun K hK => ?_) AllReadyH.nil
        go_simp
        refine (c_implTurnDrum s Af cf l T z _ (HT.out.below hHeld) HW.out HH.out hl30 lT WT_.out (by omega)).mono ?_
        rintro e wb ⟨rfl, hbk⟩
        rw [T3_.out, T2_.out]
        go_wp2_with fail
        replace hV := hV.below hbk
        refine hK.out _ _ (bstep hHeld hbk) (fun hHeld => ?_)
        clear hK K
        try simp only [Act.put, List.setIfInBounds_toArray, List.set_cons_zero, List.set_cons_succ]
        refine takeL (i := 8) (v := .tuple #[.agg (drumV d), .int .i64 0]) rfl (by kernel_rfl) (by kernel_rfl) (by kernel_rfl) (fun _ _ _ h => h) (Or.inl ⟨by rfl, by intro w' hS; clear hS; go_simp⟩) hHeld ?_
        simp only [Act.put, List.setIfInBounds_toArray, List.set_cons_zero, List.set_cons_succ]
        refine takeL (i := 9) (v := .agg (drumV d)) rfl (by kernel_rfl) (by kernel_rfl) (by kernel_rfl) (fun _ _ _ h => h) (Or.inl ⟨by rfl, by intro w' hS; clear hS; go_simp⟩) hHeld ?_
        simp only [Act.put, List.setIfInBounds_toArray, List.set_cons_zero, List.set_cons_succ]
        refine takeL (i := 10) (v := .int .i64 0) rfl (by kernel_rfl) (by kernel_rfl) (by kernel_rfl) (fun _ _ _ h => h) (Or.inl ⟨by rfl, by intro w' hS; clear hS; go_simp⟩) hHeld ?_
        simp only [Act.put, List.setIfInBounds_toArray, List.set_cons_zero, List.set_cons_succ]
        refine wpAnyH_ready (rs := [12]) (by kernel_rfl) (by simp) ?_
        refine readyL rfl (fun K hK => ?_) AllReadyH.nil
        rw [if_pos (by rfl)]
        refine wp_storeD rfl hV rfl rfl size_Drum LD zD_len ?_
        have hV2 := hV.row (drumV d)
        refine hK.out _ _ (brow hHeld hgl _) (fun hHeld => ?_)
        clear hK K
        try simp only [Act.put, List.setIfInBounds_toArray, List.set_cons_zero, List.set_cons_succ]
        refine wpAnyH_ready (rs := [13]) (by kernel_rfl) (by simp) ?_
        refine readyL rfl (fun K hK => ?_) AllReadyH.nil
        go_simp
        refine hK.out _ _ (hHeld) (fun hHeld => ?_)
        clear hK K
        try simp only [Act.put, List.setIfInBounds_toArray, List.set_cons_zero, List.set_cons_succ]
        refine wpAnyH_done (by kernel_rfl) ?_ _
        go_wp2_with fail
        go_meet
        case rel => exact ⟨_, rfl, rfl, hV2, hgl, hHeld⟩
    obtain ⟨g13, rfl, rfl, v, -, b6⟩ := hcut
    obtain ⟨w6, rfl⟩ : ∃ x, x = wc := ⟨_, rfl⟩
    replace H1 := Lib.hid (H1.out.below b6)
    replace H2 := Lib.hid (H2.out.below b6)
    replace V5 := Lib.hid (V5.out.below b6)
    replace HT := Lib.hid (HT.out.below b6)
    replace V6 := Lib.hid (V6.out.below b6)
    replace V9 := Lib.hid (V9.out.below b6)
    replace V11 := Lib.hid (V11.out.below b6)
    replace HB := Lib.hid (bstep HB.out b6)
    clear b6
    have V13 := Lib.hid v
    clear v
    go_upto_region 10 with fail
    go_cut [15, 16] from 106 to 111 (fun x y w' => ∃ g, x = .pointer (some ⟨g, 0, none⟩) ∧ y = .int .i64 (0) ∧ Var w' g (drumV M) 31 ∧ w6.heap.size ≤ g ∧ Below w6.heap.size w6 w')
    case first => as_aux_lemma =>
      clear hl2 HC1 HC2 H1 H2 HB HF hl0 HD hlo hhi hws hq0 hq1 hz0 hz1 hz2 hwz hwz2 hs1 HT_ HZ_ HU_ HU1_ HU2_ HK_ HK1_ HK2_ T1_ WT_ T2_ T3_ T4_ T5_ T6_ T7_ WM_ M1_ M2_ M3_ M4_ M5_ U1_ U3_ U4_ U5_ U6_ U7_ U8_ U9_ V9 V11 V13
      skip
      have y1 := V5.out.cell (i := 0) rfl
      have y2 := V5.out.cell (i := 1) rfl
      go_wp2_with (first | (refine wpList_loadD (by rfl) rfl V6.out rfl Tryz.underlying31 size_Drum LD ?_))
      refine (c_implMirrorDrum s Af cf l d _ HT.out HW.out HH.out hl30 LD WD.out).mono ?_
      rintro e ww ⟨rfl, bb⟩
      rw [HM_.out, U2_.out]
      clear y1 y2
      go_wp2_with (first | (refine wpList_alloc_row rfl 31 rfl (.agg (drumV zD)) zero_Drum ?_) | (refine wpList_storeD rfl rfl (Var.new ww (drumV zD) 31) rfl rfl size_Drum lM zD_len ?_))
      go_meet
      case rel => exact ⟨_, rfl, rfl, (Var.new _ _ _).row _, bb.size, brow (balloc bb _) bb.size _⟩
    obtain ⟨gV15, rfl, rfl, v, -, b7⟩ := hcut
    obtain ⟨w7, rfl⟩ : ∃ x, x = wc := ⟨_, rfl⟩
    replace H1 := Lib.hid (H1.out.below b7)
    replace H2 := Lib.hid (H2.out.below b7)
    replace V5 := Lib.hid (V5.out.below b7)
    replace HT := Lib.hid (HT.out.below b7)
    replace V6 := Lib.hid (V6.out.below b7)
    replace V9 := Lib.hid (V9.out.below b7)
    replace V11 := Lib.hid (V11.out.below b7)
    replace V13 := Lib.hid (V13.out.below b7)
    replace HB := Lib.hid (bstep HB.out b7)
    clear b7
    have V15 := Lib.hid v
    clear v
    go_upto_region 11 with fail
    go_cut [17, 18] from 112 to 117 (fun x y w' => ∃ g, x = .pointer (some ⟨g, 0, none⟩) ∧ y = .int .i64 (0) ∧ Var w' g (drumV M) 31 ∧ w7.heap.size ≤ g ∧ Below w7.heap.size w7 w')
    case first => as_aux_lemma =>
      clear hl2 HC1 HC2 H1 H2 HB HF hl0 HD hlo hhi hws hq0 hq1 hz0 hz1 hz2 hwz hwz2 hs1 HT_ HZ_ HU_ HU1_ HU2_ HK_ HK1_ HK2_ T1_ WT_ T2_ T3_ T4_ T5_ T6_ T7_ WM_ M1_ M2_ M3_ M4_ M5_ U1_ U3_ U4_ U5_ U6_ U7_ U8_ U9_ V9 V11 V13 V15
      skip
      have y1 := V5.out.cell (i := 0) rfl
      have y2 := V5.out.cell (i := 1) rfl
      go_wp2_with (first | (refine wpList_loadD (by rfl) rfl V6.out rfl Tryz.underlying31 size_Drum LD ?_))
      refine (c_specMirrorDrum s Af cf l d _ HT.out HW.out HH.out hl30 LD WD.out).mono ?_
      rintro e ww ⟨rfl, bb⟩
      rw [HM_.out, U2_.out]
      clear y1 y2
      go_wp2_with (first | (refine wpList_alloc_row rfl 31 rfl (.agg (drumV zD)) zero_Drum ?_) | (refine wpList_storeD rfl rfl (Var.new ww (drumV zD) 31) rfl rfl size_Drum lM zD_len ?_))
      go_meet
      case rel => exact ⟨_, rfl, rfl, (Var.new _ _ _).row _, bb.size, brow (balloc bb _) bb.size _⟩
    obtain ⟨gV17, rfl, rfl, v, -, b8⟩ := hcut
    obtain ⟨w8, rfl⟩ : ∃ x, x = wc := ⟨_, rfl⟩
    replace H1 := Lib.hid (H1.out.below b8)
    replace H2 := Lib.hid (H2.out.below b8)
    replace V5 := Lib.hid (V5.out.below b8)
    replace HT := Lib.hid (HT.out.below b8)
    replace V6 := Lib.hid (V6.out.below b8)
    replace V9 := Lib.hid (V9.out.below b8)
    replace V11 := Lib.hid (V11.out.below b8)
    replace V13 := Lib.hid (V13.out.below b8)
    replace V15 := Lib.hid (V15.out.below b8)
    replace HB := Lib.hid (bstep HB.out b8)
    clear b8
    have V17 := Lib.hid v
    clear v
    go_upto_region 12 with fail
    go_cut [19, 20] from 118 to 123 (fun x y w' => ∃ g, x = .pointer (some ⟨g, 0, none⟩) ∧ y = .int .i64 (0) ∧ Var w' g (drumV d) 31 ∧ w8.heap.size ≤ g ∧ Below w8.heap.size w8 w')
    case first => as_aux_lemma =>
      clear hl2 HC1 HC2 H1 H2 HB HF hl0 V6 HD hlo hhi hws hq0 hq1 hz0 hz1 hz2 hwz hwz2 hs1 HT_ HM_ HZ_ HU_ HU1_ HU2_ HK_ HK1_ HK2_ T1_ WT_ T2_ T3_ T4_ T5_ T6_ T7_ M3_ M4_ M5_ U1_ U2_ U3_ U4_ U5_ U6_ U7_ U8_ U9_ WD V9 V11 V13 V15
      skip
      have y1 := V5.out.cell (i := 0) rfl
      have y2 := V5.out.cell (i := 1) rfl
      go_wp2_with (first | (refine wpList_loadD (by rfl) rfl V17.out rfl Tryz.underlying31 size_Drum lM ?_))
      refine (c_implMirrorDrum s Af cf l M _ HT.out HW.out HH.out hl30 lM WM_.out).mono ?_
      rintro e ww ⟨rfl, bb⟩
      rw [M1_.out, M2_.out]
      clear y1 y2
      go_wp2_with (first | (refine wpList_alloc_row rfl 31 rfl (.agg (drumV zD)) zero_Drum ?_) | (refine wpList_storeD rfl rfl (Var.new ww (drumV zD) 31) rfl rfl size_Drum LD zD_len ?_))
      go_meet
      case rel => exact ⟨_, rfl, rfl, (Var.new _ _ _).row _, bb.size, brow (balloc bb _) bb.size _⟩
    obtain ⟨gV19, rfl, rfl, v, -, b9⟩ := hcut
    obtain ⟨w9, rfl⟩ : ∃ x, x = wc := ⟨_, rfl⟩
    replace H1 := Lib.hid (H1.out.below b9)
    replace H2 := Lib.hid (H2.out.below b9)
    replace V5 := Lib.hid (V5.out.below b9)
    replace HT := Lib.hid (HT.out.below b9)
    replace V6 := Lib.hid (V6.out.below b9)
    replace V9 := Lib.hid (V9.out.below b9)
    replace V11 := Lib.hid (V11.out.below b9)
    replace V13 := Lib.hid (V13.out.below b9)
    replace V15 := Lib.hid (V15.out.below b9)
    replace V17 := Lib.hid (V17.out.below b9)
    replace HB := Lib.hid (bstep HB.out b9)
    clear b9
    have V19 := Lib.hid v
    clear v
    go_upto_region 13 with fail
    go_cut [21, 22] from 124 to 129 (fun x y w' => ∃ Az cz, x = .slice Az U.length cz ∧ y = .int .i64 0 ∧ At2 .i16 .i8 w' Az U ∧ Below w9.heap.size w9 w')
    case first => as_aux_lemma =>
      clear hl2 HC1 HC2 H1 H2 HB HF hl0 HD hlo hhi hws hq0 hq1 hz0 hz1 hz2 hwz hwz2 hs1 HT_ HM_ HZ_ HU1_ HU2_ HK_ HK1_ HK2_ T1_ WT_ T2_ T3_ T4_ T5_ T6_ T7_ WM_ M1_ M2_ M3_ M4_ M5_ U1_ U2_ U4_ U5_ U6_ U7_ U8_ U9_ V9 V11 V13 V15 V17 V19
      have y1 := V5.out.cell (i := 0) rfl
      have y2 := V5.out.cell (i := 1) rfl
      go_wp2_with (first | (refine wpList_loadD (by rfl) rfl V6.out rfl Tryz.underlying31 size_Drum LD ?_))
      refine (c_implTuneOf s Af cf l d _ HT.out HW.out HH.out hl30 LD WD.out).mono ?_
      rintro e ww ⟨Az, cz, rfl, oz, bb⟩
      have HO := Lib.hid oz.at_
      clear oz y1 y2
      rw [HU_.out] at HO ⊢
      rw [U3_.out]
      go_wp2
      go_meet
      case rel => exact ⟨Az, cz, rfl, rfl, HO.out, bb⟩
    obtain ⟨A21, c21, rfl, rfl, ha, b10⟩ := hcut
    obtain ⟨w10, rfl⟩ : ∃ x, x = wc := ⟨_, rfl⟩
    replace H1 := Lib.hid (H1.out.below b10)
    replace H2 := Lib.hid (H2.out.below b10)
    replace V5 := Lib.hid (V5.out.below b10)
    replace HT := Lib.hid (HT.out.below b10)
    replace V6 := Lib.hid (V6.out.below b10)
    replace V9 := Lib.hid (V9.out.below b10)
    replace V11 := Lib.hid (V11.out.below b10)
    replace V13 := Lib.hid (V13.out.below b10)
    replace V15 := Lib.hid (V15.out.below b10)
    replace V17 := Lib.hid (V17.out.below b10)
    replace V19 := Lib.hid (V19.out.below b10)
    replace HB := Lib.hid (bstep HB.out b10)
    clear b10
    have O21 := Lib.hid ha
    clear ha
    go_upto_region 14 with fail
    go_cut [23, 24] from 130 to 135 (fun x y w' => ∃ Az cz, x = .slice Az U.length cz ∧ y = .int .i64 0 ∧ At2 .i16 .i8 w' Az U ∧ Below w10.heap.size w10 w')
    case first => as_aux_lemma =>
      clear hl2 HC1 HC2 H1 H2 HB HF hl0 HD hlo hhi hws hq0 hq1 hz0 hz1 hz2 hwz hwz2 hs1 HT_ HM_ HZ_ HU1_ HU2_ HK_ HK1_ HK2_ T1_ WT_ T2_ T3_ T4_ T5_ T6_ T7_ WM_ M1_ M2_ M3_ M4_ M5_ U1_ U2_ U4_ U5_ U6_ U7_ U8_ U9_ V9 V11 V13 V15 V17 V19 O21
      have y1 := V5.out.cell (i := 0) rfl
      have y2 := V5.out.cell (i := 1) rfl
      go_wp2_with (first | (refine wpList_loadD (by rfl) rfl V6.out rfl Tryz.underlying31 size_Drum LD ?_))
      refine (c_specTuneOf s Af cf l d _ HT.out HW.out HH.out hl30 LD WD.out).mono ?_
      rintro e ww ⟨Az, cz, rfl, oz, bb⟩
      have HO := Lib.hid oz.at_
      clear oz y1 y2
      rw [HU_.out] at HO ⊢
      rw [U3_.out]
      go_wp2
      go_meet
      case rel => exact ⟨Az, cz, rfl, rfl, HO.out, bb⟩
    obtain ⟨A23, c23, rfl, rfl, ha, b11⟩ := hcut
    obtain ⟨w11, rfl⟩ : ∃ x, x = wc := ⟨_, rfl⟩
    replace H1 := Lib.hid (H1.out.below b11)
    replace H2 := Lib.hid (H2.out.below b11)
    replace V5 := Lib.hid (V5.out.below b11)
    replace HT := Lib.hid (HT.out.below b11)
    replace V6 := Lib.hid (V6.out.below b11)
    replace V9 := Lib.hid (V9.out.below b11)
    replace V11 := Lib.hid (V11.out.below b11)
    replace V13 := Lib.hid (V13.out.below b11)
    replace V15 := Lib.hid (V15.out.below b11)
    replace V17 := Lib.hid (V17.out.below b11)
    replace V19 := Lib.hid (V19.out.below b11)
    replace O21 := Lib.hid (O21.out.below b11)
    replace HB := Lib.hid (bstep HB.out b11)
    clear b11
    have O23 := Lib.hid ha
    clear ha
    go_upto_region 15 with fail
    go_cut [25, 26] from 136 to 141 (fun x y w' => ∃ Az cz, x = .slice Az U1.length cz ∧ y = .int .i64 0 ∧ At2 .i16 .i8 w' Az U1 ∧ Below w11.heap.size w11 w')
    case first => as_aux_lemma =>
      clear hl2 HC1 HC2 H1 H2 HB HF hl0 V6 HD LD hlo hhi hws hq0 hq1 hz0 hz1 hz2 hwz hwz2 hs1 HT_ HM_ HZ_ HU_ HU2_ HK_ HK1_ HK2_ T1_ T2_ T3_ T5_ T6_ T7_ WM_ M1_ M2_ M3_ M4_ M5_ U1_ U2_ U3_ U4_ U5_ U6_ U7_ U8_ U9_ WD V9 V13 V15 V17 V19 O21 O23
      have y1 := V5.out.cell (i := 0) rfl
      have y2 := V5.out.cell (i := 1) rfl
      go_wp2_with (first | (refine wpList_loadD (by rfl) rfl V11.out rfl Tryz.underlying31 size_Drum lT ?_))
      refine (c_implTuneOf s Af cf l T _ HT.out HW.out HH.out hl30 lT WT_.out).mono ?_
      rintro e ww ⟨Az, cz, rfl, oz, bb⟩
      have HO := Lib.hid oz.at_
      clear oz y1 y2
      rw [HU1_.out] at HO ⊢
      rw [T4_.out]
      go_wp2
      go_meet
      case rel => exact ⟨Az, cz, rfl, rfl, HO.out, bb⟩
    obtain ⟨A25, c25, rfl, rfl, ha, b12⟩ := hcut
    obtain ⟨w12, rfl⟩ : ∃ x, x = wc := ⟨_, rfl⟩
    replace H1 := Lib.hid (H1.out.below b12)
    replace H2 := Lib.hid (H2.out.below b12)
    replace V5 := Lib.hid (V5.out.below b12)
    replace HT := Lib.hid (HT.out.below b12)
    replace V6 := Lib.hid (V6.out.below b12)
    replace V9 := Lib.hid (V9.out.below b12)
    replace V11 := Lib.hid (V11.out.below b12)
    replace V13 := Lib.hid (V13.out.below b12)
    replace V15 := Lib.hid (V15.out.below b12)
    replace V17 := Lib.hid (V17.out.below b12)
    replace V19 := Lib.hid (V19.out.below b12)
    replace O21 := Lib.hid (O21.out.below b12)
    replace O23 := Lib.hid (O23.out.below b12)
    replace HB := Lib.hid (bstep HB.out b12)
    clear b12
    have O25 := Lib.hid ha
    clear ha
    go_upto_region 16 with fail
    go_cut [27, 28] from 142 to 147 (fun x y w' => ∃ Az cz, x = .slice Az U2.length cz ∧ y = .int .i64 0 ∧ At2 .i16 .i8 w' Az U2 ∧ Below w12.heap.size w12 w')
    case first => as_aux_lemma =>
      clear hl2 HC1 HC2 H1 H2 HB HF hl0 V6 HD LD hlo hhi hws hq0 hq1 hz0 hz1 hz2 hwz hwz2 hs1 HT_ HM_ HZ_ HU_ HU1_ HK_ HK1_ HK2_ T1_ WT_ T2_ T3_ T4_ T5_ T6_ T7_ M1_ M2_ M4_ M5_ U1_ U2_ U3_ U4_ U5_ U6_ U7_ U8_ U9_ WD V9 V11 V13 V15 V19 O21 O23 O25
      have y1 := V5.out.cell (i := 0) rfl
      have y2 := V5.out.cell (i := 1) rfl
      go_wp2_with (first | (refine wpList_loadD (by rfl) rfl V17.out rfl Tryz.underlying31 size_Drum lM ?_))
      refine (c_implTuneOf s Af cf l M _ HT.out HW.out HH.out hl30 lM WM_.out).mono ?_
      rintro e ww ⟨Az, cz, rfl, oz, bb⟩
      have HO := Lib.hid oz.at_
      clear oz y1 y2
      rw [HU2_.out] at HO ⊢
      rw [M3_.out]
      go_wp2
      go_meet
      case rel => exact ⟨Az, cz, rfl, rfl, HO.out, bb⟩
    obtain ⟨A27, c27, rfl, rfl, ha, b13⟩ := hcut
    obtain ⟨w13, rfl⟩ : ∃ x, x = wc := ⟨_, rfl⟩
    replace H1 := Lib.hid (H1.out.below b13)
    replace H2 := Lib.hid (H2.out.below b13)
    replace V5 := Lib.hid (V5.out.below b13)
    replace HT := Lib.hid (HT.out.below b13)
    replace V6 := Lib.hid (V6.out.below b13)
    replace V9 := Lib.hid (V9.out.below b13)
    replace V11 := Lib.hid (V11.out.below b13)
    replace V13 := Lib.hid (V13.out.below b13)
    replace V15 := Lib.hid (V15.out.below b13)
    replace V17 := Lib.hid (V17.out.below b13)
    replace V19 := Lib.hid (V19.out.below b13)
    replace O21 := Lib.hid (O21.out.below b13)
    replace O23 := Lib.hid (O23.out.below b13)
    replace O25 := Lib.hid (O25.out.below b13)
    replace HB := Lib.hid (bstep HB.out b13)
    clear b13
    have O27 := Lib.hid ha
    clear ha
    go_upto_region 17 with fail
    go_cut [228] from 148 to 228 (fun x w' => x = .bool false ∧ Below w13.heap.size w13 w')
    case first => as_aux_lemma =>
      clear HC1 HC2 H1 H2 HB V5 HF HT HD hws hz2 hwz hwz2 hs1 HT_ HM_ HZ_ HU_ HU1_ HU2_ HK_ HK1_ HK2_ T1_ WT_ T2_ T3_ T4_ T6_ T7_ WM_ M1_ M2_ M3_ M5_ U1_ U2_ U3_ U5_ U6_ U7_ U8_ U9_ HW HH WD hl30 O25 O27
      have lU : U.length ≤ 1073741824 := by have := okT_len U4_.out; omega
      have e1 : ((U1.length : Int) = (U.length : Int)) = True := by rw [T5_.out]; simp
      have e2 : ((U2.length : Int) = (U.length : Int)) = True := by rw [M4_.out]; simp
      go_wp2_with fail
      (refine wpList_loadD (by rfl) rfl V9.out rfl Tryz.underlying31 size_Drum lT ?_)
      go_wp2_with (first | (refine wpList_loadD (by rfl) rfl (by first | exact V6.out | exact V9.out | exact V11.out | exact V13.out | exact V15.out | exact V17.out | exact V19.out) rfl Tryz.underlying31 size_Drum (by first | exact LD | exact lT | exact lM) ?_) | (refine wpList_neqD (by first | exact eq_drum T lT | exact eq_drum M lM | exact eq_drum d LD) eqg_drum (by rfl) rfl rfl rfl ?_))
      refine (c_specSameTune A21 A23 c21 c23 U U _ O21.out O23.out lU lU).mono ?_
      rintro e ww ⟨rfl, bb⟩
      rw [eqL_self]
      go_wp2_with fail
      go_meet
      case rel => exact ⟨by (try simp only [T5_.out, M4_.out]); first | rfl | simp, bb⟩
    obtain ⟨rfl, b14⟩ := hcut
    obtain ⟨w14, rfl⟩ : ∃ x, x = wc := ⟨_, rfl⟩
    replace H1 := Lib.hid (H1.out.below b14)
    replace H2 := Lib.hid (H2.out.below b14)
    replace V5 := Lib.hid (V5.out.below b14)
    replace HT := Lib.hid (HT.out.below b14)
    replace V6 := Lib.hid (V6.out.below b14)
    replace V9 := Lib.hid (V9.out.below b14)
    replace V11 := Lib.hid (V11.out.below b14)
    replace V13 := Lib.hid (V13.out.below b14)
    replace V15 := Lib.hid (V15.out.below b14)
    replace V17 := Lib.hid (V17.out.below b14)
    replace V19 := Lib.hid (V19.out.below b14)
    replace O21 := Lib.hid (O21.out.below b14)
    replace O23 := Lib.hid (O23.out.below b14)
    replace O25 := Lib.hid (O25.out.below b14)
    replace O27 := Lib.hid (O27.out.below b14)
    replace HB := Lib.hid (bstep HB.out b14)
    clear b14
    clear V9 V13 V15 V19 O21 O25 O27
    go_upto_region 19 with fail
    go_cut [29, 30] from 229 to 234 (fun x y w' => ∃ Az cz, x = .slice Az K.length cz ∧ y = .int .i64 0 ∧ Below w14.heap.size w14 w')
    case first => as_aux_lemma =>
      clear hl2 HC1 HC2 H1 H2 HB HF hl0 HD hlo hhi hws hq0 hq1 hz0 hz1 hz2 hwz hwz2 hs1 HT_ HM_ HZ_ HU_ HU1_ HU2_ HK1_ HK2_ T1_ WT_ T2_ T3_ T4_ T5_ T6_ T7_ WM_ M1_ M2_ M3_ M4_ M5_ U1_ U3_ U4_ U5_ U6_ U7_ U8_ U9_ V11 V17 O23
      have y1 := V5.out.cell (i := 0) rfl
      have y2 := V5.out.cell (i := 1) rfl
      go_wp2_with (first | (refine wpList_loadD (by rfl) rfl V6.out rfl Tryz.underlying31 size_Drum LD ?_))
      refine (c_specClashesOf s Af cf l d _ HT.out HW.out HH.out hl30 LD WD.out).mono ?_
      rintro e ww ⟨Az, cz, rfl, oz, bb⟩
      clear oz y1 y2
      rw [HK_.out, U2_.out]
      go_wp2
      go_meet
      case rel => exact ⟨Az, cz, rfl, rfl, bb⟩
    obtain ⟨A29, c29, rfl, rfl, b15⟩ := hcut
    obtain ⟨w15, rfl⟩ : ∃ x, x = wc := ⟨_, rfl⟩
    replace H1 := Lib.hid (H1.out.below b15)
    replace H2 := Lib.hid (H2.out.below b15)
    replace V5 := Lib.hid (V5.out.below b15)
    replace HT := Lib.hid (HT.out.below b15)
    replace V6 := Lib.hid (V6.out.below b15)
    replace V11 := Lib.hid (V11.out.below b15)
    replace V17 := Lib.hid (V17.out.below b15)
    replace O23 := Lib.hid (O23.out.below b15)
    replace HB := Lib.hid (bstep HB.out b15)
    clear b15
    go_upto_region 20 with fail
    go_cut [31, 32] from 235 to 240 (fun x y w' => ∃ Az cz, x = .slice Az K1.length cz ∧ y = .int .i64 0 ∧ Below w15.heap.size w15 w')
    case first => as_aux_lemma =>
      clear hl2 HC1 HC2 H1 H2 HB HF hl0 V6 HD LD hlo hhi hws hq0 hq1 hz0 hz1 hz2 hwz hwz2 hs1 HT_ HM_ HZ_ HU_ HU1_ HU2_ HK_ HK2_ T1_ T2_ T3_ T4_ T5_ T7_ WM_ M1_ M2_ M3_ M4_ M5_ U1_ U2_ U3_ U4_ U5_ U6_ U7_ U8_ U9_ WD V17 O23
      have y1 := V5.out.cell (i := 0) rfl
      have y2 := V5.out.cell (i := 1) rfl
      go_wp2_with (first | (refine wpList_loadD (by rfl) rfl V11.out rfl Tryz.underlying31 size_Drum lT ?_))
      refine (c_implClashesOf s Af cf l T _ HT.out HW.out HH.out hl30 lT WT_.out).mono ?_
      rintro e ww ⟨Az, cz, rfl, oz, bb⟩
      clear oz y1 y2
      rw [HK1_.out, T6_.out]
      go_wp2
      go_meet
      case rel => exact ⟨Az, cz, rfl, rfl, bb⟩
    obtain ⟨A31, c31, rfl, rfl, b16⟩ := hcut
    obtain ⟨w16, rfl⟩ : ∃ x, x = wc := ⟨_, rfl⟩
    replace H1 := Lib.hid (H1.out.below b16)
    replace H2 := Lib.hid (H2.out.below b16)
    replace V5 := Lib.hid (V5.out.below b16)
    replace HT := Lib.hid (HT.out.below b16)
    replace V6 := Lib.hid (V6.out.below b16)
    replace V11 := Lib.hid (V11.out.below b16)
    replace V17 := Lib.hid (V17.out.below b16)
    replace O23 := Lib.hid (O23.out.below b16)
    replace HB := Lib.hid (bstep HB.out b16)
    clear b16
    go_upto_region 21 with fail
    go_cut [33, 34] from 241 to 246 (fun x y w' => ∃ Az cz, x = .slice Az K2.length cz ∧ y = .int .i64 0 ∧ Below w16.heap.size w16 w')
    case first => as_aux_lemma =>
      clear hl2 HC1 HC2 H1 H2 HB HF hl0 V6 HD LD hlo hhi hws hq0 hq1 hz0 hz1 hz2 hwz hwz2 hs1 HT_ HM_ HZ_ HU_ HU1_ HU2_ HK_ HK1_ T1_ WT_ T2_ T3_ T4_ T5_ T6_ T7_ M1_ M3_ M4_ M5_ U1_ U2_ U3_ U4_ U5_ U6_ U7_ U8_ U9_ WD V11 O23
      have y1 := V5.out.cell (i := 0) rfl
      have y2 := V5.out.cell (i := 1) rfl
      go_wp2_with (first | (refine wpList_loadD (by rfl) rfl V17.out rfl Tryz.underlying31 size_Drum lM ?_))
      refine (c_implClashesOf s Af cf l M _ HT.out HW.out HH.out hl30 lM WM_.out).mono ?_
      rintro e ww ⟨Az, cz, rfl, oz, bb⟩
      clear oz y1 y2
      rw [HK2_.out, M2_.out]
      go_wp2
      go_meet
      case rel => exact ⟨Az, cz, rfl, rfl, bb⟩
    obtain ⟨A33, c33, rfl, rfl, b17⟩ := hcut
    obtain ⟨w17, rfl⟩ : ∃ x, x = wc := ⟨_, rfl⟩
    replace H1 := Lib.hid (H1.out.below b17)
    replace H2 := Lib.hid (H2.out.below b17)
    replace V5 := Lib.hid (V5.out.below b17)
    replace HT := Lib.hid (HT.out.below b17)
    replace V6 := Lib.hid (V6.out.below b17)
    replace V11 := Lib.hid (V11.out.below b17)
    replace V17 := Lib.hid (V17.out.below b17)
    replace O23 := Lib.hid (O23.out.below b17)
    replace HB := Lib.hid (bstep HB.out b17)
    clear b17
    go_upto_region 22 with fail
    go_cut [270] from 247 to 270 (fun x w' => x = .bool false ∧ Below w17.heap.size w17 w')
    case first => as_aux_lemma =>
      clear hl2 HC1 HC2 H1 H2 HB V5 HF HT hl0 V6 HD LD hlo hhi hws hq0 hq1 hz0 hz1 hz2 hwz hwz2 hs1 HT_ HM_ HZ_ HU_ HU1_ HU2_ HK_ HK1_ HK2_ T1_ WT_ T2_ T3_ T4_ T5_ T6_ WM_ M1_ M2_ M3_ M4_ U1_ U2_ U3_ U4_ U5_ U6_ U7_ U8_ U9_ HW HH WD hl30 V11 V17 O23
      have e1 : ((K1.length : Int) = (K.length : Int)) = True := by rw [T7_.out]; simp
      have e2 : ((K2.length : Int) = (K.length : Int)) = True := by rw [M5_.out]; simp
      go_wp2
      go_meet
      case rel => exact ⟨by (try simp only [T7_.out, M5_.out]); first | rfl | simp, Below.refl _ _⟩
    obtain ⟨rfl, b18⟩ := hcut
    obtain ⟨w18, rfl⟩ : ∃ x, x = wc := ⟨_, rfl⟩
    replace H1 := Lib.hid (H1.out.below b18)
    replace H2 := Lib.hid (H2.out.below b18)
    replace V5 := Lib.hid (V5.out.below b18)
    replace HT := Lib.hid (HT.out.below b18)
    replace V6 := Lib.hid (V6.out.below b18)
    replace V11 := Lib.hid (V11.out.below b18)
    replace V17 := Lib.hid (V17.out.below b18)
    replace O23 := Lib.hid (O23.out.below b18)
    replace HB := Lib.hid (bstep HB.out b18)
    clear b18
    clear V11 V17
    go_upto_region 24 with fail
    go_cut [35] from 271 to 275 (fun x w' => ∃ r : Nat, x = .int .i64 (r : Int) ∧ r < l.length ∧ Below w18.heap.size w18 w')
    case first => as_aux_lemma =>
      clear HC1 H1 HB HF HT V6 HD LD hws hz2 hwz hwz2 hs1 HT_ HM_ HZ_ HU_ HU1_ HU2_ HK_ HK1_ HK2_ T1_ WT_ T2_ T3_ T4_ T5_ T6_ T7_ WM_ M1_ M2_ M3_ M4_ M5_ U1_ U2_ U3_ U4_ U5_ U6_ U7_ U8_ U9_ HW HH WD hl30 O23
      have y1 := V5.out.cell (i := 0) rfl
      have y2 := V5.out.cell (i := 1) rfl
      go_wp2_with fail
      refine (c_a2At B km more 1 (l.length : Int) _ H2.out HC2.out (by omega)).mono ?_
      rintro e ww ⟨r, rfl, hr, rfl⟩
      obtain ⟨r, rfl⟩ := Int.eq_ofNat_of_zero_le hr.1
      go_wp2
      go_meet
      case rel => exact ⟨r, rfl, by omega, Below.refl _ _⟩
    obtain ⟨a, rfl, ha, b19⟩ := hcut
    obtain ⟨w19, rfl⟩ : ∃ x, x = wc := ⟨_, rfl⟩
    replace H1 := Lib.hid (H1.out.below b19)
    replace H2 := Lib.hid (H2.out.below b19)
    replace V5 := Lib.hid (V5.out.below b19)
    replace HT := Lib.hid (HT.out.below b19)
    replace V6 := Lib.hid (V6.out.below b19)
    replace O23 := Lib.hid (O23.out.below b19)
    replace HB := Lib.hid (bstep HB.out b19)
    clear b19
    go_upto_region 25 with fail
    go_cut [36] from 276 to 280 (fun x w' => ∃ r : Nat, x = .int .i64 (r : Int) ∧ r < l.length ∧ Below w19.heap.size w19 w')
    case first => as_aux_lemma =>
      clear HC1 H1 HB HF HT V6 HD LD hws hz2 hwz hwz2 hs1 HT_ HM_ HZ_ HU_ HU1_ HU2_ HK_ HK1_ HK2_ T1_ WT_ T2_ T3_ T4_ T5_ T6_ T7_ WM_ M1_ M2_ M3_ M4_ M5_ U1_ U2_ U3_ U4_ U5_ U6_ U7_ U8_ U9_ HW HH WD hl30 O23
      have y1 := V5.out.cell (i := 0) rfl
      have y2 := V5.out.cell (i := 1) rfl
      go_wp2_with fail
      refine (c_a2At B km more 2 (l.length : Int) _ H2.out HC2.out (by omega)).mono ?_
      rintro e ww ⟨r, rfl, hr, rfl⟩
      obtain ⟨r, rfl⟩ := Int.eq_ofNat_of_zero_le hr.1
      go_wp2
      go_meet
      case rel => exact ⟨r, rfl, by omega, Below.refl _ _⟩
    obtain ⟨b, rfl, hb, b20⟩ := hcut
    obtain ⟨w20, rfl⟩ : ∃ x, x = wc := ⟨_, rfl⟩
    replace H1 := Lib.hid (H1.out.below b20)
    replace H2 := Lib.hid (H2.out.below b20)
    replace V5 := Lib.hid (V5.out.below b20)
    replace HT := Lib.hid (HT.out.below b20)
    replace V6 := Lib.hid (V6.out.below b20)
    replace O23 := Lib.hid (O23.out.below b20)
    replace HB := Lib.hid (bstep HB.out b20)
    clear b20
    have hSF := swap_facts HF.out HD.out (by omega) (a := (a : Int)) (b := (b : Int)) (by omega) (by omega)
    obtain ⟨F, hF⟩ : ∃ F, fSw s l d (a : Int) (b : Int) = F := ⟨_, rfl⟩
    obtain ⟨E, hE⟩ : ∃ E, dSw s l d (a : Int) (b : Int) = E := ⟨_, rfl⟩
    rw [hF, hE, HU_.out] at hSF
    obtain ⟨s1, s2, dF, wE, lE, s3, s4⟩ := hSF
    have hlF := dF.2.1
    have HF_ := Lib.hid hF
    have HE_ := Lib.hid hE
    have S1_ := Lib.hid s1
    have S2_ := Lib.hid s2
    have DF_ := Lib.hid dF
    have WE_ := Lib.hid wE
    have S3_ := Lib.hid s3
    have S4_ := Lib.hid s4
    clear hF hE s1 s2 dF wE s3 s4
    have HWF := Lib.hid DF_.out.w16
    have HHF := Lib.hid DF_.out.whs
    go_upto_region 26 with fail
    go_cut [37, 38, 39] from 281 to 289 (fun x y z w' => ∃ g h Az cz, x = .pointer (some ⟨g, 0, none⟩) ∧ y = .pointer (some ⟨h, 0, none⟩) ∧ z = .int .i64 0 ∧ Var w' g #[.int .i16 s, .slice Az F.length cz] 27 ∧ Var w' h (drumV E) 31 ∧ At2 .i8 .i8 w' Az F ∧ Below w20.heap.size w20 w')
    case first => as_aux_lemma =>
      clear HC1 HC2 H1 H2 HB HF HD hws hz2 hwz hwz2 hs1 HT_ HM_ HZ_ HU_ HU1_ HU2_ HK_ HK1_ HK2_ T1_ WT_ T2_ T3_ T4_ T5_ T6_ T7_ WM_ M1_ M2_ M3_ M4_ M5_ U1_ U2_ U3_ U4_ U5_ U6_ U7_ U8_ U9_ O23 DF_ WE_ S3_ S4_ HWF HHF
      have y1 := V5.out.cell (i := 0) rfl
      have y2 := V5.out.cell (i := 1) rfl
      go_wp2_with (first | (refine wpList_loadD (by rfl) rfl V6.out rfl Tryz.underlying31 size_Drum LD ?_))
      refine (c_implSwapTracks s Af cf l d (a : Int) (b : Int) _ HT.out HW.out HH.out hl30 LD WD.out (by omega) (by omega)).mono ?_
      rintro e ww ⟨Az, cz, rfl, oz, bb⟩
      have HO := Lib.hid oz.at_
      clear oz y1 y2
      rw [HF_.out] at HO ⊢
      rw [S2_.out, HE_.out, S1_.out]
      have HX := Lib.hid (show Var ((ww.alloc (.cells #[.int .i16 s, .slice Az F.length cz] 27)).alloc (.cells (drumV zD) 31)) (ww.heap.size + 1) (drumV zD) 31 from by simpa using Var.new (ww.alloc (.cells #[.int .i16 s, .slice Az F.length cz] 27)) (drumV zD) 31)
      have HN := Lib.hid (show Var ((ww.alloc (.cells #[.int .i16 s, .slice Az F.length cz] 27)).alloc (.cells (drumV zD) 31)) ww.heap.size #[.int .i16 s, .slice Az F.length cz] 27 from (Var.new ww _ _).old _)
      go_wp2_with (first | (refine wpList_alloc_row rfl 31 rfl (.agg (drumV zD)) zero_Drum ?_) | (refine wpList_storeD rfl rfl HX.out rfl rfl size_Drum lE zD_len ?_))
      go_meet
      case rel => exact ⟨_, _, Az, cz, rfl, rfl, rfl, HN.out.rowOther _ (by omega), HX.out.row _, HO.out.below (brow (balloc (balloc (Below.refl _ ww) _) _) (by omega) _), brow (balloc (balloc bb _) _) (by have := bb.size; omega) _⟩
    obtain ⟨g37, g38, A37, c37, rfl, rfl, rfl, v1, v2, ha, b21⟩ := hcut
    obtain ⟨w21, rfl⟩ : ∃ x, x = wc := ⟨_, rfl⟩
    replace H1 := Lib.hid (H1.out.below b21)
    replace H2 := Lib.hid (H2.out.below b21)
    replace V5 := Lib.hid (V5.out.below b21)
    replace HT := Lib.hid (HT.out.below b21)
    replace V6 := Lib.hid (V6.out.below b21)
    replace O23 := Lib.hid (O23.out.below b21)
    replace HB := Lib.hid (bstep HB.out b21)
    clear b21
    have V37 := Lib.hid v1
    have V38 := Lib.hid v2
    have O37 := Lib.hid ha
    clear v1 v2 ha
    go_upto_region 27 with fail
    go_cut [40, 41, 42] from 290 to 298 (fun x y z w' => ∃ g h Az cz, x = .pointer (some ⟨g, 0, none⟩) ∧ y = .pointer (some ⟨h, 0, none⟩) ∧ z = .int .i64 0 ∧ Var w' g #[.int .i16 s, .slice Az F.length cz] 27 ∧ Var w' h (drumV E) 31 ∧ At2 .i8 .i8 w' Az F ∧ Below w21.heap.size w21 w')
    case first => as_aux_lemma =>
      clear HC1 HC2 H1 H2 HB HF HD hws hz2 hwz hwz2 hs1 HT_ HM_ HZ_ HU_ HU1_ HU2_ HK_ HK1_ HK2_ T1_ WT_ T2_ T3_ T4_ T5_ T6_ T7_ WM_ M1_ M2_ M3_ M4_ M5_ U1_ U2_ U3_ U4_ U5_ U6_ U7_ U8_ U9_ O23 DF_ WE_ S3_ S4_ HWF HHF V37 V38 O37
      have y1 := V5.out.cell (i := 0) rfl
      have y2 := V5.out.cell (i := 1) rfl
      go_wp2_with (first | (refine wpList_loadD (by rfl) rfl V6.out rfl Tryz.underlying31 size_Drum LD ?_))
      refine (c_specSwapTracks s Af cf l d (a : Int) (b : Int) _ HT.out HW.out HH.out hl30 LD WD.out (by omega) (by omega)).mono ?_
      rintro e ww ⟨Az, cz, rfl, oz, bb⟩
      have HO := Lib.hid oz.at_
      clear oz y1 y2
      rw [HF_.out] at HO ⊢
      rw [S2_.out, HE_.out, S1_.out]
      have HX := Lib.hid (show Var ((ww.alloc (.cells #[.int .i16 s, .slice Az F.length cz] 27)).alloc (.cells (drumV zD) 31)) (ww.heap.size + 1) (drumV zD) 31 from by simpa using Var.new (ww.alloc (.cells #[.int .i16 s, .slice Az F.length cz] 27)) (drumV zD) 31)
      have HN := Lib.hid (show Var ((ww.alloc (.cells #[.int .i16 s, .slice Az F.length cz] 27)).alloc (.cells (drumV zD) 31)) ww.heap.size #[.int .i16 s, .slice Az F.length cz] 27 from (Var.new ww _ _).old _)
      go_wp2_with (first | (refine wpList_alloc_row rfl 31 rfl (.agg (drumV zD)) zero_Drum ?_) | (refine wpList_storeD rfl rfl HX.out rfl rfl size_Drum lE zD_len ?_))
      go_meet
      case rel => exact ⟨_, _, Az, cz, rfl, rfl, rfl, HN.out.rowOther _ (by omega), HX.out.row _, HO.out.below (brow (balloc (balloc (Below.refl _ ww) _) _) (by omega) _), brow (balloc (balloc bb _) _) (by have := bb.size; omega) _⟩
    obtain ⟨g40, g41, A40, c40, rfl, rfl, rfl, v1, v2, ha, b22⟩ := hcut
    obtain ⟨w22, rfl⟩ : ∃ x, x = wc := ⟨_, rfl⟩
    replace H1 := Lib.hid (H1.out.below b22)
    replace H2 := Lib.hid (H2.out.below b22)
    replace V5 := Lib.hid (V5.out.below b22)
    replace HT := Lib.hid (HT.out.below b22)
    replace V6 := Lib.hid (V6.out.below b22)
    replace O23 := Lib.hid (O23.out.below b22)
    replace V37 := Lib.hid (V37.out.below b22)
    replace V38 := Lib.hid (V38.out.below b22)
    replace O37 := Lib.hid (O37.out.below b22)
    replace HB := Lib.hid (bstep HB.out b22)
    clear b22
    have V40 := Lib.hid v1
    have V41 := Lib.hid v2
    have O40 := Lib.hid ha
    clear v1 v2 ha
    go_upto_region 28 with fail
    go_cut [43, 44] from 299 to 304 (fun x y w' => ∃ Az cz, x = .slice Az U.length cz ∧ y = .int .i64 0 ∧ At2 .i16 .i8 w' Az U ∧ Below w22.heap.size w22 w')
    case first => as_aux_lemma =>
      clear HC1 HC2 H1 H2 HB V5 HF HT V6 HD LD hws hz2 hwz hwz2 hs1 HT_ HM_ HZ_ HU_ HU1_ HU2_ HK_ HK1_ HK2_ T1_ WT_ T2_ T3_ T4_ T5_ T6_ T7_ WM_ M1_ M2_ M3_ M4_ M5_ U1_ U2_ U3_ U4_ U5_ U6_ U7_ U8_ U9_ HW HH WD hl30 O23 HF_ HE_ S1_ S2_ DF_ V37 V38 O37
      have y1 := V40.out.cell (i := 0) rfl
      have y2 := V40.out.cell (i := 1) rfl
      go_wp2_with (first | (refine wpList_loadD (by rfl) rfl V41.out rfl Tryz.underlying31 size_Drum lE ?_))
      refine (c_implTuneOf s A40 c40 F E _ O40.out HWF.out HHF.out (by omega) lE WE_.out).mono ?_
      rintro e ww ⟨Az, cz, rfl, oz, bb⟩
      have HO := Lib.hid oz.at_
      clear oz y1 y2
      rw [S3_.out] at HO ⊢
      rw [S4_.out]
      go_wp2
      go_meet
      case rel => exact ⟨Az, cz, rfl, rfl, HO.out, bb⟩
    obtain ⟨A43, c43, rfl, rfl, ha, b23⟩ := hcut
    obtain ⟨w23, rfl⟩ : ∃ x, x = wc := ⟨_, rfl⟩
    replace H1 := Lib.hid (H1.out.below b23)
    replace H2 := Lib.hid (H2.out.below b23)
    replace V5 := Lib.hid (V5.out.below b23)
    replace HT := Lib.hid (HT.out.below b23)
    replace V6 := Lib.hid (V6.out.below b23)
    replace O23 := Lib.hid (O23.out.below b23)
    replace V37 := Lib.hid (V37.out.below b23)
    replace V38 := Lib.hid (V38.out.below b23)
    replace O37 := Lib.hid (O37.out.below b23)
    replace V40 := Lib.hid (V40.out.below b23)
    replace V41 := Lib.hid (V41.out.below b23)
    replace O40 := Lib.hid (O40.out.below b23)
    replace HB := Lib.hid (bstep HB.out b23)
    clear b23
    have O43 := Lib.hid ha
    clear ha
    have lU : U.length ≤ 1073741824 := by have := okT_len U4_.out; omega
    go_upto_region 29 with fail
    go_cut [332] from 305 to 332 (fun x w' => x = .bool false ∧ Below w23.heap.size w23 w')
    case first => as_aux_lemma =>
      clear HC1 HC2 H1 H2 HB V5 HF HT V6 HD LD hws hz2 hwz hwz2 hs1 HT_ HM_ HZ_ HU_ HU1_ HU2_ HK_ HK1_ HK2_ T1_ WT_ T2_ T3_ T4_ T5_ T6_ T7_ WM_ M1_ M2_ M3_ M4_ M5_ U1_ U2_ U3_ U4_ U5_ U6_ U7_ U8_ U9_ HW HH WD hl30 HF_ HE_ S1_ S2_ DF_ WE_ S3_ S4_ HWF HHF
      have y1 := V37.out.cell (i := 0) rfl
      have y2 := V37.out.cell (i := 1) rfl
      have z1 := V40.out.cell (i := 0) rfl
      have z2 := V40.out.cell (i := 1) rfl
      go_wp2_with fail
      refine (c_A2SameFrame s A37 A40 c37 c40 F _ O37.out O40.out (by omega)).mono ?_
      rintro e wa ⟨rfl, ba⟩
      clear y1 y2 z1 z2
      have VA := Lib.hid (V38.out.below ba)
      have VB := Lib.hid (V41.out.below ba)
      go_wp2_with (first | (refine wpList_loadD (by rfl) rfl VA.out rfl Tryz.underlying31 size_Drum lE ?_) | (refine wpList_loadD (by rfl) rfl VB.out rfl Tryz.underlying31 size_Drum lE ?_) | (refine wpList_neqD (eq_drum E lE) eqg_drum (by rfl) rfl rfl rfl ?_))
      refine (c_specSameTune A43 A23 c43 c23 U U _ (O43.out.below ba) (O23.out.below ba) lU lU).mono ?_
      rintro e wb ⟨rfl, bb⟩
      rw [eqL_self]
      go_wp2_with fail
      go_meet
      case rel => exact ⟨rfl, bstep ba bb⟩
    obtain ⟨rfl, b24⟩ := hcut
    obtain ⟨w24, rfl⟩ : ∃ x, x = wc := ⟨_, rfl⟩
    replace H1 := Lib.hid (H1.out.below b24)
    replace H2 := Lib.hid (H2.out.below b24)
    replace V5 := Lib.hid (V5.out.below b24)
    replace HT := Lib.hid (HT.out.below b24)
    replace V6 := Lib.hid (V6.out.below b24)
    replace O23 := Lib.hid (O23.out.below b24)
    replace V37 := Lib.hid (V37.out.below b24)
    replace V38 := Lib.hid (V38.out.below b24)
    replace O37 := Lib.hid (O37.out.below b24)
    replace V40 := Lib.hid (V40.out.below b24)
    replace V41 := Lib.hid (V41.out.below b24)
    replace O40 := Lib.hid (O40.out.below b24)
    replace O43 := Lib.hid (O43.out.below b24)
    replace HB := Lib.hid (bstep HB.out b24)
    clear b24
    clear V37 V38 V40 V41 O37 O40 O43
    go_upto_region 31 with fail
    obtain ⟨BB, hBB⟩ : ∃ x, bellsL l = x := ⟨_, rfl⟩
    obtain ⟨PP, hPP⟩ : ∃ x, pitchesL U = x := ⟨_, rfl⟩
    have U9b := Lib.hid (show bits .andNot .u64 PP BB = 0 by rw [← hPP, ← hBB]; exact U9_.out)
    have HBB := Lib.hid hBB
    have HPP := Lib.hid hPP
    clear hBB hPP
    go_cut [45, 46] from 333 to 337 (fun x y w' => x = .int .u64 BB ∧ y = .int .i64 0 ∧ Below w24.heap.size w24 w')
    case first => as_aux_lemma =>
      clear hl2 HC1 HC2 H1 H2 HB HF hl0 V6 HD LD hlo hhi hws hq0 hq1 hz0 hz1 hz2 hwz hwz2 hs1 HT_ HM_ HZ_ HU_ HU1_ HU2_ HK_ HK1_ HK2_ T1_ WT_ T2_ T3_ T4_ T5_ T6_ T7_ WM_ M1_ M2_ M3_ M4_ M5_ U1_ U2_ U3_ U4_ U5_ U6_ U9_ WD O23 hb hlF HF_ HE_ S1_ S2_ DF_ WE_ S3_ S4_ HWF HHF lU U9b HPP
      have y1 := V5.out.cell (i := 0) rfl
      have y2 := V5.out.cell (i := 1) rfl
      go_wp2_with fail
      refine (c_implBellsOf s Af cf l _ HT.out HW.out HH.out hl30).mono ?_
      rintro e ww ⟨rfl, bb⟩
      rw [U8_.out, U7_.out, HBB.out]
      go_wp2
      go_meet
      case rel => exact ⟨rfl, rfl, bb⟩
    obtain ⟨rfl, rfl, b25⟩ := hcut
    obtain ⟨w25, rfl⟩ : ∃ x, x = wc := ⟨_, rfl⟩
    replace H1 := Lib.hid (H1.out.below b25)
    replace H2 := Lib.hid (H2.out.below b25)
    replace V5 := Lib.hid (V5.out.below b25)
    replace HT := Lib.hid (HT.out.below b25)
    replace V6 := Lib.hid (V6.out.below b25)
    replace O23 := Lib.hid (O23.out.below b25)
    replace HB := Lib.hid (bstep HB.out b25)
    clear b25
    go_upto_region 32 with fail
    go_cut [47, 48] from 338 to 342 (fun x y w' => x = .int .u64 PP ∧ y = .int .i64 0 ∧ Below w25.heap.size w25 w')
    case first => as_aux_lemma =>
      clear hl2 HC1 HC2 H1 H2 HB V5 HF HT hl0 V6 HD LD hlo hhi hws hq0 hq1 hz0 hz1 hz2 hwz hwz2 hs1 HT_ HM_ HZ_ HU_ HU1_ HU2_ HK_ HK1_ HK2_ T1_ WT_ T2_ T3_ T4_ T5_ T6_ T7_ WM_ M1_ M2_ M3_ M4_ M5_ U1_ U2_ U3_ U7_ U8_ U9_ HW HH WD hl30 hb hlF HF_ HE_ S1_ S2_ DF_ WE_ S3_ S4_ HWF HHF U9b HBB
      go_wp2_with fail
      refine (c_specPitchesOf A23 c23 U _ O23.out (wf_of_okN (fun x hx => okN_of_okT U4_.out hx)) lU).mono ?_
      rintro e ww ⟨rfl, bb⟩
      rw [U6_.out, U5_.out, HPP.out]
      go_wp2
      go_meet
      case rel => exact ⟨rfl, rfl, bb⟩
    obtain ⟨rfl, rfl, b26⟩ := hcut
    obtain ⟨w26, rfl⟩ : ∃ x, x = wc := ⟨_, rfl⟩
    replace H1 := Lib.hid (H1.out.below b26)
    replace H2 := Lib.hid (H2.out.below b26)
    replace V5 := Lib.hid (V5.out.below b26)
    replace HT := Lib.hid (HT.out.below b26)
    replace V6 := Lib.hid (V6.out.below b26)
    replace O23 := Lib.hid (O23.out.below b26)
    replace HB := Lib.hid (bstep HB.out b26)
    clear b26
    clear O23
    have hF0 := free_facts HF.out HD.out (a := a) (k := 0) ha (by omega)
    have hpb := HF.out.2.2 _ (List.getElem_mem ha)
    obtain ⟨p, hp⟩ : ∃ x, (l[a]'ha).1 = x := ⟨_, rfl⟩
    rw [hp] at hF0 hpb
    obtain ⟨f1, f2, -⟩ := hF0
    obtain ⟨N, hN⟩ : ∃ x, rHammersFor s l p = x := ⟨_, rfl⟩
    rw [hN] at f2
    have F1_ := Lib.hid f1
    have HN_ := Lib.hid hN
    have hN1 : decide (N < 1) = false := decide_eq_false f2
    have HP := Lib.hid hp
    obtain ⟨⟨p1, p2⟩, -⟩ := hpb
    clear f1 f2 hN hp
    go_upto_region 33 with fail
    go_cut [49, 50] from 343 to 354 (fun x y w' => x = .int .i64 N ∧ y = .int .i64 0 ∧ Below w26.heap.size w26 w')
    case first => as_aux_lemma =>
      clear HC1 HC2 H1 H2 HB HF V6 HD LD hws hz2 hwz hwz2 hs1 HT_ HM_ HZ_ HU_ HU1_ HU2_ HK_ HK1_ HK2_ T1_ WT_ T2_ T3_ T4_ T5_ T6_ T7_ WM_ M1_ M2_ M3_ M4_ M5_ U1_ U2_ U3_ U4_ U5_ U6_ U7_ U8_ U9_ WD HF_ HE_ S1_ S2_ DF_ WE_ S3_ S4_ HWF HHF lU U9b HBB HPP hN1
      obtain ⟨gh, oh, rfl, hgl, hc⟩ := HT.out.get (by omega)
      have X1 := Lib.hid (show w26.cell? ⟨gh, oh + a * 2, none⟩ = some (.int .i8 p) by rw [← HP.out]; exact (hc a ha).1)
      clear hc
      have ha1 : (0 : Int) ≤ (a : Int) := by omega
      have ha2 : (a : Int) < (l.length : Int) := by omega
      have hwp : IntKind.i64.wrap p = p := IntWalk.i64_in _ (by omega)
      refine wp_region_held_drew (S := (Below w26.heap.size w26)) (by kernel_rfl) (bdrew (Below.refl _ _)) (fun hHeld => ?_)
      refine takeL (i := 0) (v := .agg #[.int .i16 s, .slice (some ⟨gh, oh, none⟩) l.length cf]) rfl (by kernel_rfl) (by kernel_rfl) (by kernel_rfl) (fun _ _ _ h => h) (Or.inl ⟨by rfl, by intro w' hS; have y1 := (V5.out.below hS).cell (i := 0) rfl; have y2 := (V5.out.below hS).cell (i := 1) rfl; clear hS; go_simp⟩) hHeld ?_
      simp only [Act.put, List.setIfInBounds_toArray, List.set_cons_zero, List.set_cons_succ]
      refine takeL (i := 1) (v := .pointer (some ⟨g5, 1, none⟩)) rfl (by kernel_rfl) (by kernel_rfl) (by kernel_rfl) (fun _ _ _ h => h) (Or.inl ⟨by rfl, by intro w' hS; clear hS; go_simp⟩) hHeld ?_
      simp only [Act.put, List.setIfInBounds_toArray, List.set_cons_zero, List.set_cons_succ]
      refine takeL (i := 2) (v := .slice (some ⟨gh, oh, none⟩) l.length cf) rfl (by kernel_rfl) (by kernel_rfl) (by kernel_rfl) (fun _ _ _ h => h) (Or.inl ⟨by rfl, by intro w' hS; have y1 := (V5.out.below hS).cell (i := 0) rfl; have y2 := (V5.out.below hS).cell (i := 1) rfl; clear hS; go_simp⟩) hHeld ?_
      simp only [Act.put, List.setIfInBounds_toArray, List.set_cons_zero, List.set_cons_succ]
      refine takeL (i := 3) (v := .int .i64 (a : Int)) rfl (by kernel_rfl) (by kernel_rfl) (by kernel_rfl) (fun _ _ _ h => h) (Or.inl ⟨by rfl, by intro w' hS; clear hS; go_simp⟩) hHeld ?_
      simp only [Act.put, List.setIfInBounds_toArray, List.set_cons_zero, List.set_cons_succ]
      refine takeL (i := 4) (v := .pointer (some ⟨gh, oh + a * 2, none⟩)) rfl (by kernel_rfl) (by kernel_rfl) (by kernel_rfl) (fun _ _ _ h => h) (Or.inl ⟨by rfl, by intro w' hS; clear hS; go_simp⟩) hHeld ?_
      simp only [Act.put, List.setIfInBounds_toArray, List.set_cons_zero, List.set_cons_succ]
      refine takeL (i := 5) (v := .pointer (some ⟨gh, oh + a * 2, none⟩)) rfl (by kernel_rfl) (by kernel_rfl) (by kernel_rfl) (fun _ _ _ h => h) (Or.inl ⟨by rfl, by intro w' hS; clear hS; go_simp⟩) hHeld ?_
      simp only [Act.put, List.setIfInBounds_toArray, List.set_cons_zero, List.set_cons_succ]
      refine takeL (i := 6) (v := .int .i8 p) rfl (by kernel_rfl) (by kernel_rfl) (by kernel_rfl) (fun _ _ _ h => h) (Or.inl ⟨by rfl, by intro w' hS; have y1 := keepc X1.out hS; clear hS; go_simp⟩) hHeld ?_
      simp only [Act.put, List.setIfInBounds_toArray, List.set_cons_zero, List.set_cons_succ]
      refine takeL (i := 7) (v := .int .i64 p) rfl (by kernel_rfl) (by kernel_rfl) (by kernel_rfl) (fun _ _ _ h => h) (Or.inl ⟨by rfl, by intro w' hS; clear hS; go_simp⟩) hHeld ?_
      simp only [Act.put, List.setIfInBounds_toArray, List.set_cons_zero, List.set_cons_succ]
      refine wpAnyH_ready (rs := [8]) (by kernel_rfl) (by simp) ?_
      refine readyL rfl (fun K hK => ?_) AllReadyH.nil
      go_simp
      refine (c_implHammersFor s _ cf l p _ (HT.out.below hHeld) HW.out HH.out hl30 (by omega)).mono ?_
      rintro e wa ⟨rfl, hbk⟩
      rw [F1_.out, HN_.out]
      go_wp2_with fail
      refine hK.out _ _ (bstep hHeld hbk) (fun hHeld => ?_)
      clear hK K
      try simp only [Act.put, List.setIfInBounds_toArray, List.set_cons_zero, List.set_cons_succ]
      refine takeL (i := 9) (v := .tuple #[.int .i64 N, .int .i64 0]) rfl (by kernel_rfl) (by kernel_rfl) (by kernel_rfl) (fun _ _ _ h => h) (Or.inl ⟨by rfl, by intro w' hS; clear hS; go_simp⟩) hHeld ?_
      simp only [Act.put, List.setIfInBounds_toArray, List.set_cons_zero, List.set_cons_succ]
      refine takeL (i := 10) (v := .int .i64 N) rfl (by kernel_rfl) (by kernel_rfl) (by kernel_rfl) (fun _ _ _ h => h) (Or.inl ⟨by rfl, by intro w' hS; clear hS; go_simp⟩) hHeld ?_
      simp only [Act.put, List.setIfInBounds_toArray, List.set_cons_zero, List.set_cons_succ]
      refine takeL (i := 11) (v := .int .i64 0) rfl (by kernel_rfl) (by kernel_rfl) (by kernel_rfl) (fun _ _ _ h => h) (Or.inl ⟨by rfl, by intro w' hS; clear hS; go_simp⟩) hHeld ?_
      simp only [Act.put, List.setIfInBounds_toArray, List.set_cons_zero, List.set_cons_succ]
      refine wpAnyH_ready (rs := [12]) (by kernel_rfl) (by simp) ?_
      refine readyL rfl (fun K hK => ?_) AllReadyH.nil
      go_simp
      refine hK.out _ _ (hHeld) (fun hHeld => ?_)
      clear hK K
      try simp only [Act.put, List.setIfInBounds_toArray, List.set_cons_zero, List.set_cons_succ]
      refine wpAnyH_ready (rs := [13]) (by kernel_rfl) (by simp) ?_
      refine readyL rfl (fun K hK => ?_) AllReadyH.nil
      go_simp
      refine hK.out _ _ (hHeld) (fun hHeld => ?_)
      clear hK K
      try simp only [Act.put, List.setIfInBounds_toArray, List.set_cons_zero, List.set_cons_succ]
      refine wpAnyH_done (by kernel_rfl) ?_ _
      go_wp2_with fail
      go_meet
      case rel => exact ⟨rfl, rfl, hHeld⟩
    obtain ⟨rfl, rfl, b27⟩ := hcut
    obtain ⟨w27, rfl⟩ : ∃ x, x = wc := ⟨_, rfl⟩
    replace H1 := Lib.hid (H1.out.below b27)
    replace H2 := Lib.hid (H2.out.below b27)
    replace V5 := Lib.hid (V5.out.below b27)
    replace HT := Lib.hid (HT.out.below b27)
    replace V6 := Lib.hid (V6.out.below b27)
    replace HB := Lib.hid (bstep HB.out b27)
    clear b27
    go_upto_region 34 with fail
    go_cut [374] from 355 to 374 (fun x w' => x = .bool false ∧ Below w27.heap.size w27 w')
    case first => as_aux_lemma =>
      clear hl2 HC1 HC2 H1 H2 HB V5 HF HT hl0 V6 HD LD hlo hhi hws hq0 hq1 hz0 hz1 hz2 hwz hwz2 hs1 HT_ HM_ HZ_ HU_ HU1_ HU2_ HK_ HK1_ HK2_ T1_ WT_ T2_ T3_ T4_ T5_ T6_ T7_ WM_ M1_ M2_ M3_ M4_ M5_ U1_ U2_ U3_ U4_ U5_ U6_ U7_ U8_ U9_ HW HH WD hl30 hb hlF HF_ HE_ S1_ S2_ DF_ WE_ S3_ S4_ HWF HHF lU HBB HPP F1_ HN_ HP p1 p2
      have hX := U9b.out
      go_wp2
      go_meet
      case rel => exact ⟨rfl, Below.refl _ _⟩
    obtain ⟨rfl, b28⟩ := hcut
    obtain ⟨w28, rfl⟩ : ∃ x, x = wc := ⟨_, rfl⟩
    replace H1 := Lib.hid (H1.out.below b28)
    replace H2 := Lib.hid (H2.out.below b28)
    replace V5 := Lib.hid (V5.out.below b28)
    replace HT := Lib.hid (HT.out.below b28)
    replace V6 := Lib.hid (V6.out.below b28)
    replace HB := Lib.hid (bstep HB.out b28)
    clear b28
    go_upto_region 36 with fail
    go_cut [51] from 375 to 377 (fun x w' => ∃ r : Nat, x = .int .i64 (r : Int) ∧ (r : Int) < s ∧ Below w28.heap.size w28 w')
    case first => as_aux_lemma =>
      clear HC1 H1 HB V5 HF HT V6 HD LD hws hz2 hwz hwz2 hs1 HT_ HM_ HZ_ HU_ HU1_ HU2_ HK_ HK1_ HK2_ T1_ WT_ T2_ T3_ T4_ T5_ T6_ T7_ WM_ M1_ M2_ M3_ M4_ M5_ U1_ U2_ U3_ U4_ U5_ U6_ U7_ U8_ U9_ HW HH WD hl30 HF_ HE_ S1_ S2_ DF_ WE_ S3_ S4_ HWF HHF lU U9b HBB HPP F1_ HN_ hN1 HP
      go_wp2_with fail
      refine (c_a2At B km more 3 s _ H2.out HC2.out (by omega)).mono ?_
      rintro e ww ⟨r, rfl, hr, rfl⟩
      obtain ⟨r, rfl⟩ := Int.eq_ofNat_of_zero_le hr.1
      go_wp2
      go_meet
      case rel => exact ⟨r, rfl, hr.2, Below.refl _ _⟩
    obtain ⟨k, rfl, hk, b29⟩ := hcut
    obtain ⟨w29, rfl⟩ : ∃ x, x = wc := ⟨_, rfl⟩
    replace H1 := Lib.hid (H1.out.below b29)
    replace H2 := Lib.hid (H2.out.below b29)
    replace V5 := Lib.hid (V5.out.below b29)
    replace HT := Lib.hid (HT.out.below b29)
    replace V6 := Lib.hid (V6.out.below b29)
    replace HB := Lib.hid (bstep HB.out b29)
    clear b29
    have hF1 := free_facts HF.out HD.out (a := a) (k := k) ha hk
    rw [HP.out, HN_.out] at hF1
    obtain ⟨-, -, f3, f4, f5⟩ := hF1
    obtain ⟨Q, hQ⟩ : ∃ x, rFT s l d (k : Int) p = x := ⟨_, rfl⟩
    rw [hQ] at f4 f5
    have lQ : Q.length ≤ 1073741824 := by
      rw [← hQ]; unfold rFT; rw [if_pos f3]; unfold ftL
      rw [List.length_map]
      have := List.length_filter_le (fun i => ftB d s.toNat l (Int.toNat (k : Int)) p i) (List.range l.length)
      rw [List.length_range] at this
      omega
    have hG : decide (N < (Q.length : Int)) = false := decide_eq_false f4
    have hPF := pin_facts HF.out HD.out (a := a) (k := k) ha hk
    obtain ⟨R1, hR1⟩ : ∃ x, rW s l d (k : Int) (a : Int) true = x := ⟨_, rfl⟩
    obtain ⟨R2, hR2⟩ : ∃ x, rW s l d (k : Int) (a : Int) false = x := ⟨_, rfl⟩
    obtain ⟨z1, hz1⟩ : ∃ x, cW s l d (k : Int) (a : Int) true = x := ⟨_, rfl⟩
    obtain ⟨z2, hz2⟩ : ∃ x, cW s l d (k : Int) (a : Int) false = x := ⟨_, rfl⟩
    have lR1 : R1.length = 96 := by rw [← hR1]; exact rW_len LD s l _ _ _
    have lR2 : R2.length = 96 := by rw [← hR2]; exact rW_len LD s l _ _ _
    rw [hR1, hR2, hz1, hz2] at hPF
    have HPF := Lib.hid hPF
    have F3_ := Lib.hid f3
    have F5_ := Lib.hid f5
    have HQ := Lib.hid hQ
    have HR1 := Lib.hid hR1
    have HR2 := Lib.hid hR2
    have HZ1 := Lib.hid hz1
    have HZ2 := Lib.hid hz2
    clear hPF f3 f4 f5 hQ hR1 hR2 hz1 hz2
    go_upto_region 37 with fail
    go_cut [52, 53] from 378 to 391 (fun x y w' => ∃ Az cz, x = .slice Az Q.length cz ∧ y = .int .i64 0 ∧ At1 .i64 w' Az Q ∧ Below w29.heap.size w29 w')
    case first => as_aux_lemma =>
      clear HC1 HC2 H1 H2 HB HF HD hws hwz hwz2 hs1 HT_ HM_ HZ_ HU_ HU1_ HU2_ HK_ HK1_ HK2_ T1_ WT_ T2_ T3_ T4_ T5_ T6_ T7_ WM_ M1_ M2_ M3_ M4_ M5_ U1_ U2_ U3_ U4_ U5_ U6_ U7_ U8_ U9_ HF_ HE_ S1_ S2_ DF_ WE_ S3_ S4_ HWF HHF lU U9b HBB HPP F1_ HN_ hN1 lQ hG lR1 lR2 HPF F5_ HR1 HR2 HZ1 HZ2
      obtain ⟨gh, oh, rfl, hgl, hc⟩ := HT.out.get (by omega)
      have X1 := Lib.hid (show w29.cell? ⟨gh, oh + a * 2, none⟩ = some (.int .i8 p) by rw [← HP.out]; exact (hc a ha).1)
      clear hc
      have ha1 : (0 : Int) ≤ (a : Int) := by omega
      have ha2 : (a : Int) < (l.length : Int) := by omega
      have hwp : IntKind.i64.wrap p = p := IntWalk.i64_in _ (by omega)
      have hud := Tryz.underlying31
      have hid1 : (Tryz.prog.info? 31).map (·.size) = some 96 := by kernel_rfl
      have hlnd : (Tryz.prog.info? 31).map (·.size) = some (drumV d).toList.length := by rw [drumV_len, LD]; exact hid1
      clear hid1
      refine wp_region_held_drew (S := (Below w29.heap.size w29)) (by kernel_rfl) (bdrew (Below.refl _ _)) (fun hHeld => ?_)
      refine takeL (i := 0) (v := .agg #[.int .i16 s, .slice (some ⟨gh, oh, none⟩) l.length cf]) rfl (by kernel_rfl) (by kernel_rfl) (by kernel_rfl) (fun _ _ _ h => h) (Or.inl ⟨by rfl, by intro w' hS; have y1 := (V5.out.below hS).cell (i := 0) rfl; have y2 := (V5.out.below hS).cell (i := 1) rfl; clear hS; go_simp⟩) hHeld ?_
      simp only [Act.put, List.setIfInBounds_toArray, List.set_cons_zero, List.set_cons_succ]
      refine takeL (i := 1) (v := .agg (drumV d)) rfl (by kernel_rfl) (by kernel_rfl) (by kernel_rfl) (fun _ _ _ h => h) (by simpa using yieldsIf_load_mid (S := (Below w29.heap.size w29)) (by rfl) _ _ rfl _ _ rfl (drumV d).toList _ (fun w' hS => (V6.out.below hS).range) hud rfl hlnd) hHeld ?_
      simp only [Act.put, List.setIfInBounds_toArray, List.set_cons_zero, List.set_cons_succ]
      refine takeL (i := 2) (v := .int .i64 (k : Int)) rfl (by kernel_rfl) (by kernel_rfl) (by kernel_rfl) (fun _ _ _ h => h) (Or.inl ⟨by rfl, by intro w' hS; clear hS; go_simp⟩) hHeld ?_
      simp only [Act.put, List.setIfInBounds_toArray, List.set_cons_zero, List.set_cons_succ]
      refine takeL (i := 3) (v := .pointer (some ⟨g5, 1, none⟩)) rfl (by kernel_rfl) (by kernel_rfl) (by kernel_rfl) (fun _ _ _ h => h) (Or.inl ⟨by rfl, by intro w' hS; clear hS; go_simp⟩) hHeld ?_
      simp only [Act.put, List.setIfInBounds_toArray, List.set_cons_zero, List.set_cons_succ]
      refine takeL (i := 4) (v := .slice (some ⟨gh, oh, none⟩) l.length cf) rfl (by kernel_rfl) (by kernel_rfl) (by kernel_rfl) (fun _ _ _ h => h) (Or.inl ⟨by rfl, by intro w' hS; have y1 := (V5.out.below hS).cell (i := 0) rfl; have y2 := (V5.out.below hS).cell (i := 1) rfl; clear hS; go_simp⟩) hHeld ?_
      simp only [Act.put, List.setIfInBounds_toArray, List.set_cons_zero, List.set_cons_succ]
      refine takeL (i := 5) (v := .int .i64 (a : Int)) rfl (by kernel_rfl) (by kernel_rfl) (by kernel_rfl) (fun _ _ _ h => h) (Or.inl ⟨by rfl, by intro w' hS; clear hS; go_simp⟩) hHeld ?_
      simp only [Act.put, List.setIfInBounds_toArray, List.set_cons_zero, List.set_cons_succ]
      refine takeL (i := 6) (v := .pointer (some ⟨gh, oh + a * 2, none⟩)) rfl (by kernel_rfl) (by kernel_rfl) (by kernel_rfl) (fun _ _ _ h => h) (Or.inl ⟨by rfl, by intro w' hS; clear hS; go_simp⟩) hHeld ?_
      simp only [Act.put, List.setIfInBounds_toArray, List.set_cons_zero, List.set_cons_succ]
      refine takeL (i := 7) (v := .pointer (some ⟨gh, oh + a * 2, none⟩)) rfl (by kernel_rfl) (by kernel_rfl) (by kernel_rfl) (fun _ _ _ h => h) (Or.inl ⟨by rfl, by intro w' hS; clear hS; go_simp⟩) hHeld ?_
      simp only [Act.put, List.setIfInBounds_toArray, List.set_cons_zero, List.set_cons_succ]
      refine takeL (i := 8) (v := .int .i8 p) rfl (by kernel_rfl) (by kernel_rfl) (by kernel_rfl) (fun _ _ _ h => h) (Or.inl ⟨by rfl, by intro w' hS; have y1 := keepc X1.out hS; clear hS; go_simp⟩) hHeld ?_
      simp only [Act.put, List.setIfInBounds_toArray, List.set_cons_zero, List.set_cons_succ]
      refine takeL (i := 9) (v := .int .i64 p) rfl (by kernel_rfl) (by kernel_rfl) (by kernel_rfl) (fun _ _ _ h => h) (Or.inl ⟨by rfl, by intro w' hS; clear hS; go_simp⟩) hHeld ?_
      simp only [Act.put, List.setIfInBounds_toArray, List.set_cons_zero, List.set_cons_succ]
      refine wpAnyH_ready (rs := [10]) (by kernel_rfl) (by simp) ?_
      refine readyL rfl (fun K hK => ?_) AllReadyH.nil
      go_simp
      refine (c_implFreeTracks s _ cf l d (k : Int) p _ (HT.out.below hHeld) HW.out HH.out hl30 LD WD.out (by omega) (by omega)).mono ?_
      rintro e wa ⟨Az, cz, rfl, og, hbk⟩
      have HO := Lib.hid og.at_
      clear og
      rw [HQ.out] at HO
      rw [HQ.out, F3_.out]
      go_wp2_with fail
      refine hK.out _ _ (bstep hHeld hbk) (fun hHeld => ?_)
      clear hK K
      try simp only [Act.put, List.setIfInBounds_toArray, List.set_cons_zero, List.set_cons_succ]
      refine takeL (i := 11) (v := .tuple #[.slice Az Q.length cz, .int .i64 0]) rfl (by kernel_rfl) (by kernel_rfl) (by kernel_rfl) (fun _ _ _ h => h) (Or.inl ⟨by rfl, by intro w' hS; clear hS; go_simp⟩) hHeld ?_
      simp only [Act.put, List.setIfInBounds_toArray, List.set_cons_zero, List.set_cons_succ]
      refine takeL (i := 12) (v := .slice Az Q.length cz) rfl (by kernel_rfl) (by kernel_rfl) (by kernel_rfl) (fun _ _ _ h => h) (Or.inl ⟨by rfl, by intro w' hS; clear hS; go_simp⟩) hHeld ?_
      simp only [Act.put, List.setIfInBounds_toArray, List.set_cons_zero, List.set_cons_succ]
      refine takeL (i := 13) (v := .int .i64 0) rfl (by kernel_rfl) (by kernel_rfl) (by kernel_rfl) (fun _ _ _ h => h) (Or.inl ⟨by rfl, by intro w' hS; clear hS; go_simp⟩) hHeld ?_
      simp only [Act.put, List.setIfInBounds_toArray, List.set_cons_zero, List.set_cons_succ]
      refine wpAnyH_ready (rs := [14]) (by kernel_rfl) (by simp) ?_
      refine readyL rfl (fun K hK => ?_) AllReadyH.nil
      go_simp
      refine hK.out _ _ (hHeld) (fun hHeld => ?_)
      clear hK K
      try simp only [Act.put, List.setIfInBounds_toArray, List.set_cons_zero, List.set_cons_succ]
      refine wpAnyH_ready (rs := [15]) (by kernel_rfl) (by simp) ?_
      refine readyL rfl (fun K hK => ?_) AllReadyH.nil
      go_simp
      refine hK.out _ _ (hHeld) (fun hHeld => ?_)
      clear hK K
      try simp only [Act.put, List.setIfInBounds_toArray, List.set_cons_zero, List.set_cons_succ]
      refine wpAnyH_done (by kernel_rfl) ?_ _
      go_wp2_with fail
      go_meet
      case rel => exact ⟨Az, cz, rfl, rfl, HO.out, hHeld⟩
    obtain ⟨A52, c52, rfl, rfl, h1, b30⟩ := hcut
    obtain ⟨w30, rfl⟩ : ∃ x, x = wc := ⟨_, rfl⟩
    replace H1 := Lib.hid (H1.out.below b30)
    replace H2 := Lib.hid (H2.out.below b30)
    replace V5 := Lib.hid (V5.out.below b30)
    replace HT := Lib.hid (HT.out.below b30)
    replace V6 := Lib.hid (V6.out.below b30)
    replace HB := Lib.hid (bstep HB.out b30)
    clear b30
    have O52 := Lib.hid h1
    clear h1
    go_upto_region 38 with fail
    go_cut [54, 55] from 392 to 405 (fun x y w' => ∃ Az cz, x = .slice Az Q.length cz ∧ y = .int .i64 0 ∧ At1 .i64 w' Az Q ∧ Below w30.heap.size w30 w')
    case first => as_aux_lemma =>
      clear HC1 HC2 H1 H2 HB HF HD hws hwz hwz2 hs1 HT_ HM_ HZ_ HU_ HU1_ HU2_ HK_ HK1_ HK2_ T1_ WT_ T2_ T3_ T4_ T5_ T6_ T7_ WM_ M1_ M2_ M3_ M4_ M5_ U1_ U2_ U3_ U4_ U5_ U6_ U7_ U8_ U9_ HF_ HE_ S1_ S2_ DF_ WE_ S3_ S4_ HWF HHF lU U9b HBB HPP F1_ HN_ hN1 lQ hG lR1 lR2 HPF F5_ HR1 HR2 HZ1 HZ2 O52
      obtain ⟨gh, oh, rfl, hgl, hc⟩ := HT.out.get (by omega)
      have X1 := Lib.hid (show w30.cell? ⟨gh, oh + a * 2, none⟩ = some (.int .i8 p) by rw [← HP.out]; exact (hc a ha).1)
      clear hc
      have ha1 : (0 : Int) ≤ (a : Int) := by omega
      have ha2 : (a : Int) < (l.length : Int) := by omega
      have hwp : IntKind.i64.wrap p = p := IntWalk.i64_in _ (by omega)
      have hud := Tryz.underlying31
      have hid1 : (Tryz.prog.info? 31).map (·.size) = some 96 := by kernel_rfl
      have hlnd : (Tryz.prog.info? 31).map (·.size) = some (drumV d).toList.length := by rw [drumV_len, LD]; exact hid1
      clear hid1
      refine wp_region_held_drew (S := (Below w30.heap.size w30)) (by kernel_rfl) (bdrew (Below.refl _ _)) (fun hHeld => ?_)
      refine takeL (i := 0) (v := .agg #[.int .i16 s, .slice (some ⟨gh, oh, none⟩) l.length cf]) rfl (by kernel_rfl) (by kernel_rfl) (by kernel_rfl) (fun _ _ _ h => h) (Or.inl ⟨by rfl, by intro w' hS; have y1 := (V5.out.below hS).cell (i := 0) rfl; have y2 := (V5.out.below hS).cell (i := 1) rfl; clear hS; go_simp⟩) hHeld ?_
      simp only [Act.put, List.setIfInBounds_toArray, List.set_cons_zero, List.set_cons_succ]
      refine takeL (i := 1) (v := .agg (drumV d)) rfl (by kernel_rfl) (by kernel_rfl) (by kernel_rfl) (fun _ _ _ h => h) (by simpa using yieldsIf_load_mid (S := (Below w30.heap.size w30)) (by rfl) _ _ rfl _ _ rfl (drumV d).toList _ (fun w' hS => (V6.out.below hS).range) hud rfl hlnd) hHeld ?_
      simp only [Act.put, List.setIfInBounds_toArray, List.set_cons_zero, List.set_cons_succ]
      refine takeL (i := 2) (v := .int .i64 (k : Int)) rfl (by kernel_rfl) (by kernel_rfl) (by kernel_rfl) (fun _ _ _ h => h) (Or.inl ⟨by rfl, by intro w' hS; clear hS; go_simp⟩) hHeld ?_
      simp only [Act.put, List.setIfInBounds_toArray, List.set_cons_zero, List.set_cons_succ]
      refine takeL (i := 3) (v := .pointer (some ⟨g5, 1, none⟩)) rfl (by kernel_rfl) (by kernel_rfl) (by kernel_rfl) (fun _ _ _ h => h) (Or.inl ⟨by rfl, by intro w' hS; clear hS; go_simp⟩) hHeld ?_
      simp only [Act.put, List.setIfInBounds_toArray, List.set_cons_zero, List.set_cons_succ]
      refine takeL (i := 4) (v := .slice (some ⟨gh, oh, none⟩) l.length cf) rfl (by kernel_rfl) (by kernel_rfl) (by kernel_rfl) (fun _ _ _ h => h) (Or.inl ⟨by rfl, by intro w' hS; have y1 := (V5.out.below hS).cell (i := 0) rfl; have y2 := (V5.out.below hS).cell (i := 1) rfl; clear hS; go_simp⟩) hHeld ?_
      simp only [Act.put, List.setIfInBounds_toArray, List.set_cons_zero, List.set_cons_succ]
      refine takeL (i := 5) (v := .int .i64 (a : Int)) rfl (by kernel_rfl) (by kernel_rfl) (by kernel_rfl) (fun _ _ _ h => h) (Or.inl ⟨by rfl, by intro w' hS; clear hS; go_simp⟩) hHeld ?_
      simp only [Act.put, List.setIfInBounds_toArray, List.set_cons_zero, List.set_cons_succ]
      refine takeL (i := 6) (v := .pointer (some ⟨gh, oh + a * 2, none⟩)) rfl (by kernel_rfl) (by kernel_rfl) (by kernel_rfl) (fun _ _ _ h => h) (Or.inl ⟨by rfl, by intro w' hS; clear hS; go_simp⟩) hHeld ?_
      simp only [Act.put, List.setIfInBounds_toArray, List.set_cons_zero, List.set_cons_succ]
      refine takeL (i := 7) (v := .pointer (some ⟨gh, oh + a * 2, none⟩)) rfl (by kernel_rfl) (by kernel_rfl) (by kernel_rfl) (fun _ _ _ h => h) (Or.inl ⟨by rfl, by intro w' hS; clear hS; go_simp⟩) hHeld ?_
      simp only [Act.put, List.setIfInBounds_toArray, List.set_cons_zero, List.set_cons_succ]
      refine takeL (i := 8) (v := .int .i8 p) rfl (by kernel_rfl) (by kernel_rfl) (by kernel_rfl) (fun _ _ _ h => h) (Or.inl ⟨by rfl, by intro w' hS; have y1 := keepc X1.out hS; clear hS; go_simp⟩) hHeld ?_
      simp only [Act.put, List.setIfInBounds_toArray, List.set_cons_zero, List.set_cons_succ]
      refine takeL (i := 9) (v := .int .i64 p) rfl (by kernel_rfl) (by kernel_rfl) (by kernel_rfl) (fun _ _ _ h => h) (Or.inl ⟨by rfl, by intro w' hS; clear hS; go_simp⟩) hHeld ?_
      simp only [Act.put, List.setIfInBounds_toArray, List.set_cons_zero, List.set_cons_succ]
      refine wpAnyH_ready (rs := [10]) (by kernel_rfl) (by simp) ?_
      refine readyL rfl (fun K hK => ?_) AllReadyH.nil
      go_simp
      refine (c_specFreeTracks s _ cf l d (k : Int) p _ (HT.out.below hHeld) HW.out HH.out hl30 LD WD.out (by omega) (by omega)).mono ?_
      rintro e wa ⟨Az, cz, rfl, og, hbk⟩
      have HO := Lib.hid og.at_
      clear og
      rw [HQ.out] at HO
      rw [HQ.out, F3_.out]
      go_wp2_with fail
      refine hK.out _ _ (bstep hHeld hbk) (fun hHeld => ?_)
      clear hK K
      try simp only [Act.put, List.setIfInBounds_toArray, List.set_cons_zero, List.set_cons_succ]
      refine takeL (i := 11) (v := .tuple #[.slice Az Q.length cz, .int .i64 0]) rfl (by kernel_rfl) (by kernel_rfl) (by kernel_rfl) (fun _ _ _ h => h) (Or.inl ⟨by rfl, by intro w' hS; clear hS; go_simp⟩) hHeld ?_
      simp only [Act.put, List.setIfInBounds_toArray, List.set_cons_zero, List.set_cons_succ]
      refine takeL (i := 12) (v := .slice Az Q.length cz) rfl (by kernel_rfl) (by kernel_rfl) (by kernel_rfl) (fun _ _ _ h => h) (Or.inl ⟨by rfl, by intro w' hS; clear hS; go_simp⟩) hHeld ?_
      simp only [Act.put, List.setIfInBounds_toArray, List.set_cons_zero, List.set_cons_succ]
      refine takeL (i := 13) (v := .int .i64 0) rfl (by kernel_rfl) (by kernel_rfl) (by kernel_rfl) (fun _ _ _ h => h) (Or.inl ⟨by rfl, by intro w' hS; clear hS; go_simp⟩) hHeld ?_
      simp only [Act.put, List.setIfInBounds_toArray, List.set_cons_zero, List.set_cons_succ]
      refine wpAnyH_ready (rs := [14]) (by kernel_rfl) (by simp) ?_
      refine readyL rfl (fun K hK => ?_) AllReadyH.nil
      go_simp
      refine hK.out _ _ (hHeld) (fun hHeld => ?_)
      clear hK K
      try simp only [Act.put, List.setIfInBounds_toArray, List.set_cons_zero, List.set_cons_succ]
      refine wpAnyH_ready (rs := [15]) (by kernel_rfl) (by simp) ?_
      refine readyL rfl (fun K hK => ?_) AllReadyH.nil
      go_simp
      refine hK.out _ _ (hHeld) (fun hHeld => ?_)
      clear hK K
      try simp only [Act.put, List.setIfInBounds_toArray, List.set_cons_zero, List.set_cons_succ]
      refine wpAnyH_done (by kernel_rfl) ?_ _
      go_wp2_with fail
      go_meet
      case rel => exact ⟨Az, cz, rfl, rfl, HO.out, hHeld⟩
    obtain ⟨A54, c54, rfl, rfl, h1, b31⟩ := hcut
    obtain ⟨w31, rfl⟩ : ∃ x, x = wc := ⟨_, rfl⟩
    replace H1 := Lib.hid (H1.out.below b31)
    replace H2 := Lib.hid (H2.out.below b31)
    replace V5 := Lib.hid (V5.out.below b31)
    replace HT := Lib.hid (HT.out.below b31)
    replace V6 := Lib.hid (V6.out.below b31)
    replace O52 := Lib.hid (O52.out.below b31)
    replace HB := Lib.hid (bstep HB.out b31)
    clear b31
    have O54 := Lib.hid h1
    clear h1
    go_upto_region 39 with fail
    go_cut [56, 57] from 406 to 413 (fun x y w' => ∃ g, x = .pointer (some ⟨g, 0, none⟩) ∧ y = .int .i64 (z1) ∧ Var w' g (drumV R1) 31 ∧ w31.heap.size ≤ g ∧ Below w31.heap.size w31 w')
    case first => as_aux_lemma =>
      clear HC1 HC2 H1 H2 HB HF HD hws hwz hwz2 hs1 HT_ HM_ HZ_ HU_ HU1_ HU2_ HK_ HK1_ HK2_ T1_ WT_ T2_ T3_ T4_ T5_ T6_ T7_ WM_ M1_ M2_ M3_ M4_ M5_ U1_ U2_ U3_ U4_ U5_ U6_ U7_ U8_ U9_ HF_ HE_ S1_ S2_ DF_ WE_ S3_ S4_ HWF HHF lU U9b HBB HPP F1_ HN_ hN1 HP lQ hG lR2 HPF F3_ F5_ HQ HR2 HZ2 O52 O54
      skip
      have y1 := V5.out.cell (i := 0) rfl
      have y2 := V5.out.cell (i := 1) rfl
      go_wp2_with (first | (refine wpList_loadD (by rfl) rfl V6.out rfl Tryz.underlying31 size_Drum LD ?_))
      refine (c_implWithPin s Af cf l d (k : Int) (a : Int) _ HT.out HW.out HH.out hl30 LD WD.out (by omega) (by omega)).mono ?_
      rintro e ww ⟨rfl, bb⟩
      rw [HR1.out, HZ1.out]
      clear y1 y2
      go_wp2_with (first | (refine wpList_alloc_row rfl 31 rfl (.agg (drumV zD)) zero_Drum ?_) | (refine wpList_storeD rfl rfl (Var.new ww (drumV zD) 31) rfl rfl size_Drum lR1 zD_len ?_))
      go_meet
      case rel => exact ⟨_, rfl, rfl, (Var.new _ _ _).row _, bb.size, brow (balloc bb _) bb.size _⟩
    obtain ⟨gV56, rfl, rfl, v, -, b32⟩ := hcut
    obtain ⟨w32, rfl⟩ : ∃ x, x = wc := ⟨_, rfl⟩
    replace H1 := Lib.hid (H1.out.below b32)
    replace H2 := Lib.hid (H2.out.below b32)
    replace V5 := Lib.hid (V5.out.below b32)
    replace HT := Lib.hid (HT.out.below b32)
    replace V6 := Lib.hid (V6.out.below b32)
    replace O52 := Lib.hid (O52.out.below b32)
    replace O54 := Lib.hid (O54.out.below b32)
    replace HB := Lib.hid (bstep HB.out b32)
    clear b32
    have V56 := Lib.hid v
    clear v
    go_upto_region 40 with fail
    go_cut [58, 59] from 414 to 421 (fun x y w' => ∃ g, x = .pointer (some ⟨g, 0, none⟩) ∧ y = .int .i64 (z2) ∧ Var w' g (drumV R2) 31 ∧ w32.heap.size ≤ g ∧ Below w32.heap.size w32 w')
    case first => as_aux_lemma =>
      clear HC1 HC2 H1 H2 HB HF HD hws hwz hwz2 hs1 HT_ HM_ HZ_ HU_ HU1_ HU2_ HK_ HK1_ HK2_ T1_ WT_ T2_ T3_ T4_ T5_ T6_ T7_ WM_ M1_ M2_ M3_ M4_ M5_ U1_ U2_ U3_ U4_ U5_ U6_ U7_ U8_ U9_ HF_ HE_ S1_ S2_ DF_ WE_ S3_ S4_ HWF HHF lU U9b HBB HPP F1_ HN_ hN1 HP lQ hG lR1 HPF F3_ F5_ HQ HR1 HZ1 O52 O54 V56
      skip
      have y1 := V5.out.cell (i := 0) rfl
      have y2 := V5.out.cell (i := 1) rfl
      go_wp2_with (first | (refine wpList_loadD (by rfl) rfl V6.out rfl Tryz.underlying31 size_Drum LD ?_))
      refine (c_implWithoutPin s Af cf l d (k : Int) (a : Int) _ HT.out HW.out HH.out hl30 LD WD.out (by omega) (by omega)).mono ?_
      rintro e ww ⟨rfl, bb⟩
      rw [HR2.out, HZ2.out]
      clear y1 y2
      go_wp2_with (first | (refine wpList_alloc_row rfl 31 rfl (.agg (drumV zD)) zero_Drum ?_) | (refine wpList_storeD rfl rfl (Var.new ww (drumV zD) 31) rfl rfl size_Drum lR2 zD_len ?_))
      go_meet
      case rel => exact ⟨_, rfl, rfl, (Var.new _ _ _).row _, bb.size, brow (balloc bb _) bb.size _⟩
    obtain ⟨gV58, rfl, rfl, v, -, b33⟩ := hcut
    obtain ⟨w33, rfl⟩ : ∃ x, x = wc := ⟨_, rfl⟩
    replace H1 := Lib.hid (H1.out.below b33)
    replace H2 := Lib.hid (H2.out.below b33)
    replace V5 := Lib.hid (V5.out.below b33)
    replace HT := Lib.hid (HT.out.below b33)
    replace V6 := Lib.hid (V6.out.below b33)
    replace O52 := Lib.hid (O52.out.below b33)
    replace O54 := Lib.hid (O54.out.below b33)
    replace V56 := Lib.hid (V56.out.below b33)
    replace HB := Lib.hid (bstep HB.out b33)
    clear b33
    have V58 := Lib.hid v
    clear v
    go_upto_region 41 with fail
    go_cut [440] from 422 to 440 (fun x w' => x = .bool false ∧ Below w33.heap.size w33 w')
    case first => as_aux_lemma =>
      clear hl2 HC1 HC2 H1 H2 HB V5 HF HT hl0 V6 HD LD hlo hhi hws hq0 hq1 hz0 hwz hwz2 hs1 HT_ HM_ HZ_ HU_ HU1_ HU2_ HK_ HK1_ HK2_ T1_ WT_ T2_ T3_ T4_ T5_ T6_ T7_ WM_ M1_ M2_ M3_ M4_ M5_ U1_ U2_ U3_ U4_ U5_ U6_ U7_ U8_ U9_ HW HH WD hl30 hb hlF HF_ HE_ S1_ S2_ DF_ WE_ S3_ S4_ HWF HHF lU U9b HBB HPP F1_ HN_ hN1 HP p1 p2 hk lR1 lR2 HPF F3_ F5_ HQ HR1 HR2 HZ1 HZ2 V56 V58
      go_wp2_with fail
      refine (c_A2Same A52 A54 c52 c54 Q _ O52.out O54.out lQ).mono ?_
      rintro e ww ⟨rfl, bb⟩
      go_wp2
      go_meet
      case rel => exact ⟨rfl, bb⟩
    obtain ⟨rfl, b34⟩ := hcut
    obtain ⟨w34, rfl⟩ : ∃ x, x = wc := ⟨_, rfl⟩
    replace H1 := Lib.hid (H1.out.below b34)
    replace H2 := Lib.hid (H2.out.below b34)
    replace V5 := Lib.hid (V5.out.below b34)
    replace HT := Lib.hid (HT.out.below b34)
    replace V6 := Lib.hid (V6.out.below b34)
    replace O52 := Lib.hid (O52.out.below b34)
    replace O54 := Lib.hid (O54.out.below b34)
    replace V56 := Lib.hid (V56.out.below b34)
    replace V58 := Lib.hid (V58.out.below b34)
    replace HB := Lib.hid (bstep HB.out b34)
    clear b34
    clear O52
    go_upto_region 43 with fail
    have hk2 : k < d.length := by omega
    go_cut [448] from 441 to 448 (fun x w' => x = .bool (pinB d k a) ∧ Below w34.heap.size w34 w')
    case first => as_aux_lemma =>
      clear HC1 HC2 H1 H2 HB V5 HF HT HD LD hws hwz hwz2 hs1 HT_ HM_ HZ_ HU_ HU1_ HU2_ HK_ HK1_ HK2_ T1_ WT_ T2_ T3_ T4_ T5_ T6_ T7_ WM_ M1_ M2_ M3_ M4_ M5_ U1_ U2_ U3_ U4_ U5_ U6_ U7_ U8_ U9_ HW HH hl30 HF_ HE_ S1_ S2_ DF_ WE_ S3_ S4_ HWF HHF lU U9b HBB HPP F1_ HN_ hN1 HP lQ hG lR1 lR2 HPF F3_ F5_ HQ HR1 HR2 HZ1 HZ2 O54 V56 V58
      have x1 := V6.out.cell (drumV_get hk2)
      have h1 : (0 : Int) ≤ (k : Int) := by omega
      have h2 : (k : Int) < 96 := by omega
      have h3 : IntKind.u64.wrap (a : Int) = (a : Int) := IntWalk.u64_in _ (by omega)
      have h4 : min a 32 = a := by omega
      go_wp2
      go_meet
      case rel => exact ⟨congrArg Value.bool (by rw [pinB_at hk2, tmod_two (div_bd (WD.out.get hk2) a).1]), Below.refl _ _⟩
    obtain ⟨rfl, b35⟩ := hcut
    obtain ⟨w35, rfl⟩ : ∃ x, x = wc := ⟨_, rfl⟩
    replace H1 := Lib.hid (H1.out.below b35)
    replace H2 := Lib.hid (H2.out.below b35)
    replace V5 := Lib.hid (V5.out.below b35)
    replace HT := Lib.hid (HT.out.below b35)
    replace V6 := Lib.hid (V6.out.below b35)
    replace O54 := Lib.hid (O54.out.below b35)
    replace V56 := Lib.hid (V56.out.below b35)
    replace V58 := Lib.hid (V58.out.below b35)
    replace HB := Lib.hid (bstep HB.out b35)
    clear b35
    rcases hpin : pinB d k a with _ | _
    · obtain ⟨q1, q2, wR, q3, q4, q5, q6, q7, q8⟩ := HPF.out.2 hpin
      subst q1
      subst q2
      have Q4 := Lib.hid q4
      have Q5 := Lib.hid q5
      have Q6 := Lib.hid q6
      have Q7 := Lib.hid q7
      have Q8 := Lib.hid q8
      clear q3 q4 q5 q6 q7 q8 V58 O54
      go_upto_region 46 with fail
      go_cut [62, 63] from 478 to 485 (fun x y w' => ∃ g, x = .pointer (some ⟨g, 0, none⟩) ∧ y = .int .i64 (0) ∧ Var w' g (drumV d) 31 ∧ w35.heap.size ≤ g ∧ Below w35.heap.size w35 w')
      case first => as_aux_lemma =>
        clear HC1 HC2 H1 H2 HB HF V6 HD hws hwz hwz2 hs1 HT_ HM_ HZ_ HU_ HU1_ HU2_ HK_ HK1_ HK2_ T1_ WT_ T2_ T3_ T4_ T5_ T6_ T7_ WM_ M1_ M2_ M3_ M4_ M5_ U1_ U2_ U3_ U4_ U5_ U6_ U7_ U8_ U9_ WD HF_ HE_ S1_ S2_ DF_ WE_ S3_ S4_ HWF HHF lU U9b HBB HPP F1_ HN_ hN1 HP lQ hG lR2 HPF F3_ F5_ HQ HR1 HR2 HZ1 HZ2 hk2 Q6 Q7 Q8
        skip
        have y1 := V5.out.cell (i := 0) rfl
        have y2 := V5.out.cell (i := 1) rfl
        go_wp2_with (first | (refine wpList_loadD (by rfl) rfl V56.out rfl Tryz.underlying31 size_Drum lR1 ?_))
        refine (c_implWithoutPin s Af cf l R1 (k : Int) (a : Int) _ HT.out HW.out HH.out hl30 lR1 wR (by omega) (by omega)).mono ?_
        rintro e ww ⟨rfl, bb⟩
        rw [Q5.out, Q4.out]
        clear y1 y2
        go_wp2_with (first | (refine wpList_alloc_row rfl 31 rfl (.agg (drumV zD)) zero_Drum ?_) | (refine wpList_storeD rfl rfl (Var.new ww (drumV zD) 31) rfl rfl size_Drum LD zD_len ?_))
        go_meet
        case rel => exact ⟨_, rfl, rfl, (Var.new _ _ _).row _, bb.size, brow (balloc bb _) bb.size _⟩
      obtain ⟨gV62, rfl, rfl, v, -, b36⟩ := hcut
      obtain ⟨w36, rfl⟩ : ∃ x, x = wc := ⟨_, rfl⟩
      replace H1 := Lib.hid (H1.out.below b36)
      replace H2 := Lib.hid (H2.out.below b36)
      replace V5 := Lib.hid (V5.out.below b36)
      replace HT := Lib.hid (HT.out.below b36)
      replace V6 := Lib.hid (V6.out.below b36)
      replace V56 := Lib.hid (V56.out.below b36)
      replace HB := Lib.hid (bstep HB.out b36)
      clear b36
      have V62 := Lib.hid v
      clear v
      go_upto_region 47 with fail
      go_cut [64, 65, 66] from 486 to 493 (fun x y z w' => x = .int .i64 1 ∧ y = .int .i64 0 ∧ z = .int .i64 0 ∧ Below w36.heap.size w36 w')
      case first => as_aux_lemma =>
        clear hl2 HC1 HC2 H1 H2 HB HF hl0 HD hlo hhi hws hq0 hq1 hz0 hwz hwz2 hs1 HT_ HM_ HZ_ HU_ HU1_ HU2_ HK_ HK1_ HK2_ T1_ WT_ T2_ T3_ T4_ T5_ T6_ T7_ WM_ M1_ M2_ M3_ M4_ M5_ U1_ U2_ U3_ U4_ U5_ U6_ U7_ U8_ U9_ hb hlF HF_ HE_ S1_ S2_ DF_ WE_ S3_ S4_ HWF HHF lU U9b HBB HPP F1_ HN_ hN1 HP p1 p2 hk lQ hG lR2 HPF F3_ F5_ HQ HR1 HR2 HZ1 HZ2 hk2 Q4 Q5
        have y1 := V5.out.cell (i := 0) rfl
        have y2 := V5.out.cell (i := 1) rfl
        go_wp2_with (first | (refine wpList_loadD (by rfl) rfl V6.out rfl Tryz.underlying31 size_Drum LD ?_) | (refine wpList_loadD (by rfl) rfl V56.out rfl Tryz.underlying31 size_Drum lR1 ?_))
        refine (c_implPinsToMove s Af cf l d R1 _ HT.out HW.out HH.out hl30 LD WD.out lR1 wR).mono ?_
        rintro e ww ⟨rfl, bb⟩
        rw [Q6.out, Q7.out, Q8.out]
        go_wp2
        go_meet
        case rel => exact ⟨rfl, rfl, rfl, bb⟩
      obtain ⟨rfl, rfl, rfl, b37⟩ := hcut
      obtain ⟨w37, rfl⟩ : ∃ x, x = wc := ⟨_, rfl⟩
      replace H1 := Lib.hid (H1.out.below b37)
      replace H2 := Lib.hid (H2.out.below b37)
      replace V5 := Lib.hid (V5.out.below b37)
      replace HT := Lib.hid (HT.out.below b37)
      replace V6 := Lib.hid (V6.out.below b37)
      replace V56 := Lib.hid (V56.out.below b37)
      replace V62 := Lib.hid (V62.out.below b37)
      replace HB := Lib.hid (bstep HB.out b37)
      clear b37
      go_wp2_with (first | (refine wpList_loadD (by rfl) rfl V62.out rfl Tryz.underlying31 size_Drum LD ?_) | (refine wpList_loadD (by rfl) rfl V6.out rfl Tryz.underlying31 size_Drum LD ?_) | (refine wpList_eqlD (eq_drum d LD) eqg_drum (by rfl) rfl rfl rfl ?_))
      go_ret
      exact ⟨rfl, HB.out⟩
    · obtain ⟨q1, q2, wR, q3, q4, q5⟩ := HPF.out.1 hpin
      subst q1
      subst q2
      have NM := Lib.hid (F5_.out hpin)
      have Q4 := Lib.hid q4
      have Q5 := Lib.hid q5
      clear q3 q4 q5 V56
      go_upto_region 44 with fail
      go_cut [60, 61] from 449 to 456 (fun x y w' => ∃ g, x = .pointer (some ⟨g, 0, none⟩) ∧ y = .int .i64 (0) ∧ Var w' g (drumV d) 31 ∧ w35.heap.size ≤ g ∧ Below w35.heap.size w35 w')
      case first => as_aux_lemma =>
        clear HC1 HC2 H1 H2 HB HF V6 HD hws hwz hwz2 hs1 HT_ HM_ HZ_ HU_ HU1_ HU2_ HK_ HK1_ HK2_ T1_ WT_ T2_ T3_ T4_ T5_ T6_ T7_ WM_ M1_ M2_ M3_ M4_ M5_ U1_ U2_ U3_ U4_ U5_ U6_ U7_ U8_ U9_ WD HF_ HE_ S1_ S2_ DF_ WE_ S3_ S4_ HWF HHF lU U9b HBB HPP F1_ HN_ hN1 HP lQ hG lR1 HPF F3_ F5_ HQ HR1 HR2 HZ1 HZ2 O54 hk2 NM
        skip
        have y1 := V5.out.cell (i := 0) rfl
        have y2 := V5.out.cell (i := 1) rfl
        go_wp2_with (first | (refine wpList_loadD (by rfl) rfl V58.out rfl Tryz.underlying31 size_Drum lR2 ?_))
        refine (c_implWithPin s Af cf l R2 (k : Int) (a : Int) _ HT.out HW.out HH.out hl30 lR2 wR (by omega) (by omega)).mono ?_
        rintro e ww ⟨rfl, bb⟩
        rw [Q5.out, Q4.out]
        clear y1 y2
        go_wp2_with (first | (refine wpList_alloc_row rfl 31 rfl (.agg (drumV zD)) zero_Drum ?_) | (refine wpList_storeD rfl rfl (Var.new ww (drumV zD) 31) rfl rfl size_Drum LD zD_len ?_))
        go_meet
        case rel => exact ⟨_, rfl, rfl, (Var.new _ _ _).row _, bb.size, brow (balloc bb _) bb.size _⟩
      obtain ⟨gV60, rfl, rfl, v, -, b36⟩ := hcut
      obtain ⟨w36, rfl⟩ : ∃ x, x = wc := ⟨_, rfl⟩
      replace H1 := Lib.hid (H1.out.below b36)
      replace H2 := Lib.hid (H2.out.below b36)
      replace V5 := Lib.hid (V5.out.below b36)
      replace HT := Lib.hid (HT.out.below b36)
      replace V6 := Lib.hid (V6.out.below b36)
      replace O54 := Lib.hid (O54.out.below b36)
      replace V58 := Lib.hid (V58.out.below b36)
      replace HB := Lib.hid (bstep HB.out b36)
      clear b36
      have V60 := Lib.hid v
      clear v
      go_wp2_with (first | (refine wpList_loadD (by rfl) rfl V60.out rfl Tryz.underlying31 size_Drum LD ?_) | (refine wpList_loadD (by rfl) rfl V6.out rfl Tryz.underlying31 size_Drum LD ?_) | (refine wpList_eqlD (eq_drum d LD) eqg_drum (by rfl) rfl rfl rfl ?_))
      refine (c_A2Has A54 c54 Q (a : Int) _ O54.out lQ).mono ?_
      rintro e ww ⟨rfl, bb⟩
      rw [decide_eq_false NM.out]
      go_wp2
      go_ret
      exact ⟨rfl, bstep HB.out bb⟩
  · go_enter Tryz.func3, Tryz.ntmps3
    go_wp2_with fail
    refine (c_a2Long A B kc km code.length more.length _).mono ?_
    rintro e w' ⟨rfl, rfl⟩
    rw [hlong]
    go_wp2
    go_ret
    exact ⟨rfl, Below.refl _ _⟩
end Go.Proofs.YtnakdlfjjeligaaGreat
namespace Go.Proofs.YtnakdlfjjeligaaGreat.ofTurnedDrums
open Go.ChangeShapes Go.WideShapes Go.ChangeAt Go.RowKit
theorem own : ownKnob Tryz.prog.godebug = none := by kernel_rfl
theorem laidOut : laidOutB Tryz.prog = true := by kernel_rfl
set_option maxRecDepth 100000 in
theorem lifted (os : Os) (started : os.Started) (H : Type) (enc : TypeId × Value → H) :
    ReturnsInHanded {} Tryz.checked os 3 .any (Rows.fnTurnedDrumsSpec.pre6 enc Tryz.prog Tryz.f3 Rows.fnTurnedDrumsRow.domain false) (Rows.fnTurnedDrumsSpec.post enc Tryz.prog Tryz.f3 false true false false) := by
  refine returnsInHanded_of_change (C := Tryz.checked) own started (by kernel_rfl) Tryz.func3
    (ChangeSpec.witness6 (enc := enc) (C := Tryz.checked) false ⟨#[], #[.slice none 0 0, .slice none 0 0], []⟩ 8 (by kernel_rfl) (by kernel_rfl) (by kernel_rfl) (by kernel_rfl)) ?_
  intro W base args ds gs before hval0 hW hcnd _
  have hval : ∀ (j : Nat) t v, Tryz.f3.params[j]? = some t → args[j]? = some v → Value.okWide Tryz.prog W .any base t v := hval0
  have hW' := hW
  have hlt := fun p (hp : p ∈ before) => hW.lt p hp
  obtain ⟨p, q, hA0, hV, rfl, hfz, hnd⟩ := hW
  have hA : DataW.TrodAll enc Tryz.prog W 0 (fun _ => true) true Tryz.f3.params.toList args.toList ds p := hA0
  obtain ⟨rfl, rfl⟩ := trodVars_none hV
  simp only [List.append_nil] at hlt hW'
  have hback := fun W' hb => trodAll_below (W' := W') laidOut hb (by rw [Tryz.params3]; decide +kernel) hlt hA
  rw [Tryz.params3] at hA hval
  obtain ⟨v0, vs0, d0, ds0, p0, q0, hargs, rfl, rfl, h0, r0⟩ := trodAll_cons hA
  obtain ⟨v1, vs1, d1, ds1, p1, q1, rfl, rfl, rfl, h1, r1⟩ := trodAll_cons r0
  obtain ⟨rfl, rfl, rfl⟩ := trodAll_nil r1
  obtain rfl : args = #[v0, v1] := by cases args; simp_all
  obtain ⟨A, ka, code, rfl, hnl, hra, hca⟩ := open_bytes1 Tryz.underlying22 Tryz.underlying5 (by kernel_rfl) (hval 0 _ _ rfl rfl) h0
  obtain ⟨B, kb, more, rfl, hnm, hrb, hcb⟩ := open_bytes1 Tryz.underlying22 Tryz.underlying5 (by kernel_rfl) (hval 1 _ _ rfl rfl) h1
  refine (law_TurnedDrums A B ka kb code more W hra hrb hca hcb).mono fun e W' ⟨he, bel⟩ => ?_
  subst he
  exact ⟨_, rfl, _, _, _, [], _, [], hW', trodAll_mk1 (shut_bool Tryz.underlying4 _), hback W' bel, rfl, bel.frame _, fun h => by cases h⟩
theorem over : Rows.fnTurnedDrumsRow.holds Tryz.pinned (OpenSpec.ofChange Rows.fnTurnedDrumsSpec) :=
  OpenClaim.holds_of_wide 3 Tryz.f3 rfl rfl rfl rfl rfl rfl rfl ⟨rfl, rfl, rfl, rfl, rfl⟩ rfl rfl rfl rfl rfl (by kernel_rfl) Tryz.func3 (by kernel_rfl)
    (of_decide_eq_true (by kernel_rfl)) (by unfold Func.isWrapper; first | (rw [if_pos (by decide +kernel)]; kernel_rfl) | (rw [if_neg (by decide +kernel)]; exact ⟨rfl, rfl⟩))
    (fun os started H enc _ => lifted os started H enc)
end Go.Proofs.YtnakdlfjjeligaaGreat.ofTurnedDrums
namespace Go.Proofs.YtnakdlfjjeligaaGreat
theorem fnTurnedDrums_holds : Rows.FnTurnedDrumsSaid := ofTurnedDrums.over
#print axioms fnTurnedDrums_holds
end Go.Proofs.YtnakdlfjjeligaaGreat
