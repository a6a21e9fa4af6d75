/-
  TransposeFor, in the reference and in the program.
-/
import Derived.Test.YtmdocjiljjbijaaWalkN
import Derived.Test.YtmdocjiljjbijaaWalkE
import Derived.Test.YtmdocjiljjbijaaDataD
namespace Go.Proofs.Ytmdocjiljjbijaa
open Go.RowKit
set_option linter.unusedVariables false
set_option linter.unusedSimpArgs false
set_option maxRecDepth 4000

/-- A tune that is transposed so is a tune of these bells. -/
def fitT (l : List (Int × Int)) (bells t : Int) : Bool := movB (addG 0 t) l && (bits .andNot .u64 (pitchesL (movR (addG 0 t) l)) bells == 0)
/-- The first that fits: upward, then downward, from k on. -/
def tfGo (fit : Int → Bool) : Nat → Nat → Int × Int
  | _, 0 => (0, 6)
  | k, n + 1 => if fit (k : Int) then ((k : Int), 0) else if fit (-(k : Int)) then (-(k : Int), 0) else tfGo fit (k + 1) n
theorem tfGo_at (fit : Int → Bool) {k : Nat} (hk : k < 49) : tfGo fit k (49 - k) = if fit (k : Int) then ((k : Int), 0) else if fit (-(k : Int)) then (-(k : Int), 0) else tfGo fit (k + 1) (49 - (k + 1)) := by
  obtain ⟨n, hn⟩ : ∃ n, 49 - k = n + 1 := ⟨48 - k, by omega⟩
  rw [hn, show 49 - (k + 1) = n by omega]
  rfl
noncomputable def rTF (bells : Int) (l : List (Int × Int)) : Int × Int := if okT l then tfGo (fitT l bells) 0 49 else (0, 1)
theorem fitT_no (l : List (Int × Int)) (bells t : Int) (h : movB (addG 0 t) l = false) : fitT l bells t = false := by unfold fitT; rw [h]; rfl
theorem fitT_at (l : List (Int × Int)) (bells t : Int) (h : movB (addG 0 t) l = true) : fitT l bells t = decide (bits .andNot .u64 (pitchesL (movR (addG 0 t) l)) bells = 0) := by unfold fitT; rw [h]; rfl
theorem tf_hit {fit : Int → Bool} {k : Nat} {x : Int × Int} (hk : k < 49) (HG : x = tfGo fit k (49 - k)) (j : Nat) (hj : j < 2) (h1 : 1 ≤ j → fit (k : Int) = false) (t : Int) (ht : t = (1 - 2 * (j : Int)) * (k : Int)) (h : fit t = true) : x = (t, 0) := by
  rw [HG, tfGo_at fit hk]
  match j, hj with
  | 0, _ => obtain rfl : t = (k : Int) := by rw [ht]; simp
            rw [if_pos h]
  | 1, _ => obtain rfl : t = -(k : Int) := by rw [ht]; simp
            rw [if_neg (by rw [h1 (by omega)]; decide), if_pos h]
/-- What is known of the tries at one size. -/
def triedT (fit : Int → Bool) (k j : Nat) : Prop := (1 ≤ j → fit (k : Int) = false) ∧ (2 ≤ j → fit (-(k : Int)) = false)
theorem triedT_zero (fit : Int → Bool) (k : Nat) : triedT fit k 0 := ⟨fun h => absurd h (by omega), fun h => absurd h (by omega)⟩
theorem triedT_step {fit : Int → Bool} {k j : Nat} (h : triedT fit k j) (hj : j < 2) (t : Int) (ht : t = (1 - 2 * (j : Int)) * (k : Int)) (hf : fit t = false) : triedT fit k (j + 1) := by
  match j, hj with
  | 0, _ => obtain rfl : t = (k : Int) := by rw [ht]; simp
            exact ⟨fun _ => hf, fun h => absurd h (by omega)⟩
  | 1, _ => obtain rfl : t = -(k : Int) := by rw [ht]; simp
            exact ⟨fun _ => h.1 (by omega), fun _ => hf⟩
theorem triedT_next {fit : Int → Bool} {k : Nat} {x : Int × Int} (hk : k < 49) (HG : x = tfGo fit k (49 - k)) (h : triedT fit k 2) : x = tfGo fit (k + 1) (49 - (k + 1)) := by
  rw [HG, tfGo_at fit hk, if_neg (by rw [h.1 (by omega)]; decide), if_neg (by rw [h.2 (by omega)]; decide)]

theorem c_TransIn (A : Option Addr) (c : Nat) (l : List (Int × Int)) (s : Int) (w : World) (h : At2 .i16 .i8 w A l) (hw : Wf l) (hok : okT l = true) (hs : -48 ≤ s ∧ s ≤ 48) :
    Calls Try.prog 12 #[.slice A l.length c, .int .i64 s] w fun e w' => ∃ A' c', e = .returned (.tuple #[.slice A' (movR (addG 0 s) l).length c', .int .i64 (if movB (addG 0 s) l then 0 else 4)]) ∧ At2 .i16 .i8 w' A' (movR (addG 0 s) l) ∧ Below w.heap.size w w' := by
  have hl := okT_len hok
  have hin : inB s (-48) 48 = true := inB_iff.2 hs
  refine (c_implTranspose A c l s w h hw (by omega) (by omega)).mono ?_
  rintro e w' ⟨v, rfl, o, b⟩
  rw [hin, rMove_ok hok] at o
  rw [hin, cMove_ok hok]
  obtain ⟨A', c', rfl, _, ha⟩ := o.reads
  exact ⟨A', c', rfl, ha, b⟩

set_option maxHeartbeats 800000 in
theorem c_specTransposeFor (bells : Int) (A : Option Addr) (c : Nat) (l : List (Int × Int)) (w : World) (h : At2 .i16 .i8 w A l) (hw : Wf l) (hn : l.length ≤ 1073741824) :
    Calls Try.prog 11 #[.int .u64 bells, .slice A l.length c] w fun e w' => e = .returned (.tuple #[.int .i64 (rTF bells l).1, .int .i64 (rTF bells l).2]) ∧ Below w.heap.size w w' := by
  rcases hok : okT l with _ | _
  · have HR := Lib.hid (show rTF bells l = (0, 1) by unfold rTF; rw [hok]; rfl)
    go_enter Try.func11, Try.ntmps11
    go_wp2_with fail
    refine (c_l01Ok A c l w h hw hn).mono ?_
    rintro e w1 ⟨rfl, b1⟩
    rw [hok]
    go_wp2
    go_ret2
    exact ⟨by rw [HR.out]; rfl, b1⟩
  · have hr : rTF bells l = tfGo (fitT l bells) 0 49 := by unfold rTF; rw [hok]; rfl
    obtain ⟨x, hx⟩ : ∃ x, rTF bells l = x := ⟨_, rfl⟩
    rw [hx] at hr ⊢
    obtain ⟨fit, hfit⟩ : ∃ f, fitT l bells = f := ⟨_, rfl⟩
    rw [hfit] at hr
    have HF := Lib.hid hfit
    have HR := Lib.hid hr
    have hlen := okT_len hok
    clear hx hr hfit
    go_enter Try.func11, Try.ntmps11
    go_wp2_with fail
    refine (c_l01Ok A c l w h hw hn).mono ?_
    rintro e w1 ⟨rfl, b1⟩
    rw [hok]
    go_wp2
    go_loopw [6] (fun i w' => ∃ k : Nat, i = .int .i64 (k : Int) ∧ k ≤ 49 ∧ RowKit.Hid (x = tfGo fit k (49 - k)) ∧ Below w.heap.size w w') (fun i _ => 49 - (intOf i).toNat)
    case atStart => exact ⟨0, rfl, by omega, HR, b1⟩
    case round =>
      obtain ⟨k, rfl, hk, HG, hb⟩ := hrel
      by_cases hlt : k < 49
      · have hw1 : IntKind.i64.wrap ((k : Int) + 1) = ((k + 1 : Nat) : Int) := IntWalk.i64_in _ (by omega)
        have hle : decide ((k : Int) ≤ 48) = true := decide_eq_true (by omega)
        go_wp2
        go_loopw [7] (fun i w' => ∃ j : Nat, i = .int .i64 (1 - 2 * (j : Int)) ∧ j ≤ 2 ∧ RowKit.Hid (triedT fit k j) ∧ Below w.heap.size w w') (fun i _ => (3 + intOf i).toNat)
        case atStart => exact ⟨0, rfl, by omega, Lib.hid (triedT_zero fit k), hb⟩
        case round =>
          obtain ⟨j, rfl, hj, HT, hb2⟩ := hrel
          by_cases hjlt : j < 2
          · obtain ⟨t, ht⟩ : ∃ t : Int, t = (1 - 2 * (j : Int)) * (k : Int) := ⟨_, rfl⟩
            have hti : -48 ≤ t ∧ t ≤ 48 := by
              rcases (show j = 0 ∨ j = 1 by omega) with rfl | rfl <;> (rw [ht]; constructor <;> omega)
            have hwm : IntKind.i64.wrap ((1 - 2 * (j : Int)) * (k : Int)) = t := by rw [ht]; exact IntWalk.i64_in _ (by rw [← ht]; omega)
            have hws : IntKind.i64.wrap ((1 - 2 * (j : Int)) - 2) = 1 - 2 * ((j + 1 : Nat) : Int) := by rw [IntWalk.i64_in _ (by omega)]; omega
            have hge : decide (-1 ≤ 1 - 2 * (j : Int)) = true := decide_eq_true (by omega)
            have HTI := Lib.hid hti
            have HTT := Lib.hid ht
            clear hti ht
            rcases hB : movB (addG 0 t) l with _ | _
            · have HB := Lib.hid hB
              have HN := Lib.hid (triedT_step HT.out hjlt t HTT.out (HF.out ▸ fitT_no l bells t hB : fit t = false))
              clear hB
              go_wp2_with fail
              refine (c_l01Changed A c l 0 t _ (h.below hb2) hok (by omega) (by have := HTI.out; omega)).mono ?_
              rintro e w3 ⟨A3, c3, rfl, o3, b3⟩
              have B3 := bstep hb2 b3
              have O3 := Lib.hid o3.at_
              clear o3
              rw [HB.out]
              go_wp2
              go_roundw
              case rel => refine ⟨j + 1, by first | rfl | rw [hws], by omega, HN, B3⟩
              case measure => simp [intOf]; omega
            · have hK : okT (movR (addG 0 t) l) = true := by
                have hR : movR (addG 0 t) l = l.map (addG 0 t) := by unfold movR; rw [hB]; rfl
                rw [hR]; exact movR_ok hok hB (fun p q _ _ _ _ h => addG_mono _ _ h)
              have hRl := movR_len (addG 0 t) l
              have hq0 := fitT_at l bells t hB
              have HB := Lib.hid hB
              clear hB
              obtain ⟨R, hRR⟩ : ∃ R, movR (addG 0 t) l = R := ⟨_, rfl⟩
              have HRR := Lib.hid hRR
              rw [hRR] at hK hRl hq0
              have HK := Lib.hid hK
              clear hRR hK
              rcases hq : decide (bits .andNot .u64 (pitchesL R) bells = 0) with _ | _
              · have HN := Lib.hid (triedT_step HT.out hjlt t HTT.out (HF.out ▸ hq0.trans hq))
                have hqb : (bits .andNot .u64 (pitchesL R) bells == 0) = false := hq
                clear hq0
                go_wp2_with fail
                refine (c_l01Changed A c l 0 t _ (h.below hb2) hok (by omega) (by have := HTI.out; omega)).mono ?_
                rintro e w3 ⟨A3, c3, rfl, o3, b3⟩
                have B3 := bstep hb2 b3
                have O3 := Lib.hid o3.at_
                clear o3
                rw [HB.out]
                rw [HRR.out] at O3 ⊢
                go_wp2_with fail
                refine (c_l01Pitches A3 c3 _ w3 O3.out HK.out (by omega)).mono ?_
                rintro e w' ⟨rfl, rfl⟩
                have B4 := B3
                go_wp2
                go_roundw
                case rel => refine ⟨j + 1, by first | rfl | rw [hws], by omega, HN, B4⟩
                case measure => simp [intOf]; omega
              · have HX := Lib.hid (tf_hit hlt HG.out j hjlt HT.out.1 t HTT.out (HF.out ▸ hq0.trans hq))
                have hqb : (bits .andNot .u64 (pitchesL R) bells == 0) = true := hq
                clear hq0
                go_wp2_with fail
                refine (c_l01Changed A c l 0 t _ (h.below hb2) hok (by omega) (by have := HTI.out; omega)).mono ?_
                rintro e w3 ⟨A3, c3, rfl, o3, b3⟩
                have B3 := bstep hb2 b3
                have O3 := Lib.hid o3.at_
                clear o3
                rw [HB.out]
                rw [HRR.out] at O3 ⊢
                go_wp2_with fail
                refine (c_l01Pitches A3 c3 _ w3 O3.out HK.out (by omega)).mono ?_
                rintro e w' ⟨rfl, rfl⟩
                have B4 := B3
                go_wp2
                go_ret2
                rw [HX.out]
                exact ⟨rfl, B4⟩
          · obtain rfl : j = 2 := by omega
            have HN := Lib.hid (triedT_next hlt HG.out HT.out)
            have hge : decide ((-1 : Int) ≤ 1 - 2 * ((2 : Nat) : Int)) = false := by decide
            go_wp2
            go_roundw
            case rel => exact ⟨k + 1, by first | rfl | rw [hw1], by omega, HN, hb2⟩
            case measure => simp [intOf]; omega
      · obtain rfl : k = 49 := by omega
        have HX := Lib.hid (show x = (0, 6) from HG.out)
        go_wp2
        go_ret2
        rw [HX.out]
        exact ⟨rfl, hb⟩

set_option maxHeartbeats 800000 in
theorem c_implTransposeFor (bells : Int) (A : Option Addr) (c : Nat) (l : List (Int × Int)) (w : World) (h : At2 .i16 .i8 w A l) (hw : Wf l) (hn : l.length ≤ 1073741824) :
    Calls Try.prog 10 #[.int .u64 bells, .slice A l.length c] w fun e w' => e = .returned (.tuple #[.int .i64 (rTF bells l).1, .int .i64 (rTF bells l).2]) ∧ Below w.heap.size w w' := by
  rcases hok : okT l with _ | _
  · have HR := Lib.hid (show rTF bells l = (0, 1) by unfold rTF; rw [hok]; rfl)
    go_enter Try.func10, Try.ntmps10
    go_wp2_with fail
    refine (c_tuneCode_one A c l w _ h hw hn).mono ?_
    rintro e w1 ⟨rfl, b1⟩
    rw [hok]
    go_wp2
    go_ret2
    exact ⟨by rw [HR.out]; rfl, b1⟩
  · have hr : rTF bells l = tfGo (fitT l bells) 0 49 := by unfold rTF; rw [hok]; rfl
    obtain ⟨x, hx⟩ : ∃ x, rTF bells l = x := ⟨_, rfl⟩
    rw [hx] at hr ⊢
    obtain ⟨fit, hfit⟩ : ∃ f, fitT l bells = f := ⟨_, rfl⟩
    rw [hfit] at hr
    have HF := Lib.hid hfit
    have HR := Lib.hid hr
    have hlen := okT_len hok
    clear hx hr hfit
    go_enter Try.func10, Try.ntmps10
    go_wp2_with fail
    refine (c_tuneCode_one A c l w _ h hw hn).mono ?_
    rintro e w1 ⟨rfl, b1⟩
    rw [hok]
    go_wp2
    go_loopw [18] (fun i w' => ∃ k : Nat, i = .int .i64 (k : Int) ∧ k ≤ 49 ∧ RowKit.Hid (x = tfGo fit k (49 - k)) ∧ Below w.heap.size w w') (fun i _ => 49 - (intOf i).toNat)
    case atStart => exact ⟨0, rfl, by omega, HR, b1⟩
    case round =>
      obtain ⟨k, rfl, hk, HG, hb⟩ := hrel
      by_cases hlt : k < 49
      · have hw1 : IntKind.i64.wrap ((k : Int) + 1) = ((k + 1 : Nat) : Int) := IntWalk.i64_in _ (by omega)
        have hw2n : IntKind.i64.wrap (-(k : Int)) = -(k : Int) := IntWalk.i64_in _ (by omega)
        have hle : decide ((k : Int) < 49) = true := decide_eq_true (by omega)
        have V := Lib.hid (Var.new wr #[.int .i64 (k : Int), .int .i64 (-(k : Int))] 2)
        go_wp2
        go_loopw [26] (fun i w' => ∃ j : Nat, i = .int .i64 (j : Int) ∧ j ≤ 2 ∧ RowKit.Hid (triedT fit k j) ∧ Below (wr.alloc (.cells #[.int .i64 (k : Int), .int .i64 (-(k : Int))] 2)).heap.size (wr.alloc (.cells #[.int .i64 (k : Int), .int .i64 (-(k : Int))] 2)) w') (fun i _ => 3 - (intOf i).toNat)
        case atStart => exact ⟨0, rfl, by omega, Lib.hid (triedT_zero fit k), Below.refl _ _⟩
        case round =>
          obtain ⟨j, rfl, hj, HT, hb2⟩ := hrel
          have B2 := bstep (balloc hb (.cells #[.int .i64 (k : Int), .int .i64 (-(k : Int))] 2)) hb2
          by_cases hjlt : j < 2
          · obtain ⟨t, ht⟩ : ∃ t : Int, t = (1 - 2 * (j : Int)) * (k : Int) := ⟨_, rfl⟩
            have hti : -48 ≤ t ∧ t ≤ 48 := by
              rcases (show j = 0 ∨ j = 1 by omega) with rfl | rfl <;> (rw [ht]; constructor <;> omega)
            have hws : IntKind.i64.wrap ((j : Int) + 1) = ((j + 1 : Nat) : Int) := IntWalk.i64_in _ (by omega)
            have hcell := (V.out.below hb2).cell (i := j) (v := .int .i64 t) (by rcases (show j = 0 ∨ j = 1 by omega) with rfl | rfl <;> (rw [ht]; simp))
            have hj1 : (0 : Int) ≤ (j : Int) := by omega
            have hj2 : (j : Int) < 2 := by omega
            have HTI := Lib.hid hti
            have HTT := Lib.hid ht
            clear hti ht
            rcases hB : movB (addG 0 t) l with _ | _
            · have HB := Lib.hid hB
              have HN := Lib.hid (triedT_step HT.out hjlt t HTT.out (HF.out ▸ fitT_no l bells t hB : fit t = false))
              clear hB
              go_wp2_with fail
              refine (c_TransIn A c l t _ (h.below B2) hw hok HTI.out).mono ?_
              rintro e w3 ⟨A3, c3, rfl, o3, b3⟩
              have B3 := bstep hb2 b3
              have O3 := Lib.hid o3
              clear o3
              rw [HB.out]
              go_wp2
              go_roundw
              case rel => refine ⟨j + 1, by first | rfl | rw [hws], by omega, HN, B3⟩
              case measure => simp [intOf]; omega
            · have hK : okT (movR (addG 0 t) l) = true := by
                have hR : movR (addG 0 t) l = l.map (addG 0 t) := by unfold movR; rw [hB]; rfl
                rw [hR]; exact movR_ok hok hB (fun p q _ _ _ _ h => addG_mono _ _ h)
              have hRl := movR_len (addG 0 t) l
              have hq0 := fitT_at l bells t hB
              have HB := Lib.hid hB
              clear hB
              obtain ⟨R, hRR⟩ : ∃ R, movR (addG 0 t) l = R := ⟨_, rfl⟩
              have HRR := Lib.hid hRR
              rw [hRR] at hK hRl hq0
              have HK := Lib.hid hK
              clear hRR hK
              rcases hq : decide (bits .andNot .u64 (pitchesL R) bells = 0) with _ | _
              · have HN := Lib.hid (triedT_step HT.out hjlt t HTT.out (HF.out ▸ hq0.trans hq))
                have hqb : (bits .andNot .u64 (pitchesL R) bells == 0) = false := hq
                clear hq0
                go_wp2_with fail
                refine (c_TransIn A c l t _ (h.below B2) hw hok HTI.out).mono ?_
                rintro e w3 ⟨A3, c3, rfl, o3, b3⟩
                have B3 := bstep hb2 b3
                have O3 := Lib.hid o3
                clear o3
                rw [HB.out]
                rw [HRR.out] at O3 ⊢
                go_wp2_with fail
                refine (c_pitches A3 c3 _ w3 O3.out HK.out (by omega)).mono ?_
                rintro e w4 ⟨rfl, b4⟩
                have B4 := bstep B3 b4
                go_wp2
                go_roundw
                case rel => refine ⟨j + 1, by first | rfl | rw [hws], by omega, HN, B4⟩
                case measure => simp [intOf]; omega
              · have HX := Lib.hid (tf_hit hlt HG.out j hjlt HT.out.1 t HTT.out (HF.out ▸ hq0.trans hq))
                have hqb : (bits .andNot .u64 (pitchesL R) bells == 0) = true := hq
                clear hq0
                go_wp2_with fail
                refine (c_TransIn A c l t _ (h.below B2) hw hok HTI.out).mono ?_
                rintro e w3 ⟨A3, c3, rfl, o3, b3⟩
                have B3 := bstep hb2 b3
                have O3 := Lib.hid o3
                clear o3
                rw [HB.out]
                rw [HRR.out] at O3 ⊢
                go_wp2_with fail
                refine (c_pitches A3 c3 _ w3 O3.out HK.out (by omega)).mono ?_
                rintro e w4 ⟨rfl, b4⟩
                have B4 := bstep B3 b4
                go_wp2
                go_ret2
                rw [HX.out]
                exact ⟨rfl, bstep (balloc hb _) B4⟩
          · obtain rfl : j = 2 := by omega
            have HN := Lib.hid (triedT_next hlt HG.out HT.out)
            go_wp2
            go_roundw
            case rel => exact ⟨k + 1, by first | rfl | rw [hw1], by omega, HN, B2⟩
            case measure => simp [intOf]; omega
      · obtain rfl : k = 49 := by omega
        have HX := Lib.hid (show x = (0, 6) from HG.out)
        go_wp2
        go_ret2
        rw [HX.out]
        exact ⟨rfl, hb⟩


end Go.Proofs.Ytmdocjiljjbijaa
