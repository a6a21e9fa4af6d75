/-
  The walks of BestShift, in the reference and in the program.
-/
import Derived.Test.YtmdocjiljjbijaaWalkH
import Derived.Test.YtmdocjiljjbijaaPureC
import Derived.Test.YtmdocjiljjbijaaDataD
namespace Go.Proofs.Ytmdocjiljjbijaa
open Go.RowKit
set_option linter.unusedVariables false
set_option linter.unusedSimpArgs false
set_option maxRecDepth 4000

/-- The shifts of one size: the one, then the other. -/
noncomputable def innB (a b : List (Int × Int)) (x : Int × Int) (s : Int) : Nat → Int × Int
  | 0 => x
  | 1 => stepB a b x s
  | _ => stepB a b (stepB a b x s) (-s)
theorem innB_step (a b : List (Int × Int)) (x : Int × Int) (s : Int) (j : Nat) (hj : j < 2) (t : Int) (ht : t = (1 - 2 * (j : Int)) * s) : innB a b x s (j + 1) = stepB a b (innB a b x s j) t := by
  match j, hj with
  | 0, _ => obtain rfl : t = s := by rw [ht]; simp
            rfl
  | 1, _ => obtain rfl : t = -s := by rw [ht]; simp
            rfl
theorem innB_bd {a b : List (Int × Int)} {x : Int × Int} {s m : Int} (hb : b.length ≤ 120) (h : -m ≤ x.1 ∧ x.1 ≤ m ∧ -1 ≤ x.2 ∧ x.2 ≤ 120) (hs : -m ≤ s ∧ s ≤ m) (j : Nat) :
    -m ≤ (innB a b x s j).1 ∧ (innB a b x s j).1 ≤ m ∧ -1 ≤ (innB a b x s j).2 ∧ (innB a b x s j).2 ≤ 120 := by
  match j with
  | 0 => exact h
  | 1 => exact stepB_bd hb h hs
  | j + 2 => exact stepB_bd hb (stepB_bd hb h hs) (by omega)

theorem c_specBestShift (A B : Option Addr) (c d : Nat) (l m : List (Int × Int)) (w : World) (h : At2 .i16 .i8 w A l) (h2 : At2 .i16 .i8 w B m) (hw : Wf l) (hw2 : Wf m) (hn : l.length ≤ 1073741824) (hn2 : m.length ≤ 1073741824) :
    Calls Try.prog 19 #[.slice A l.length c, .slice B m.length d] w fun e w' => e = .returned (.tuple #[.int .i64 (rBest1 l m), .int .i64 (rBest2 l m), .int .i64 (cTT l m)]) ∧ Below w.heap.size w w' := by
  rcases hok : (okT l && okT m) with _ | _
  · have hcc : cTT l m = 1 := by simp only [cTT, hok]; rfl
    have hr : rBest1 l m = 0 ∧ rBest2 l m = 0 := by simp only [rBest1, rBest2, hok]; exact ⟨rfl, rfl⟩
    have HR := Lib.hid hr; clear hr
    have HC := Lib.hid hcc; clear hcc
    go_enter Try.func19, Try.ntmps19
    go_wp2_with fail
    refine (c_l01Both A B c d l m w h h2 hw hw2 hn hn2).mono ?_
    rintro e w1 ⟨rfl, b1⟩
    rw [HC.out]
    go_wp2
    go_ret3
    exact ⟨by rw [HR.out.1, HR.out.2, HC.out]; rfl, b1⟩
  · have hcc : cTT l m = 0 := by simp only [cTT, hok]; rfl
    have hr : rBest1 l m = (bstL l m 200).1 ∧ rBest2 l m = (bstL l m 200).2 := by simp only [rBest1, rBest2, hok]; exact ⟨rfl, rfl⟩
    have HR := Lib.hid hr; clear hr
    obtain ⟨ok1, ok2⟩ := Bool.and_eq_true_iff.1 hok
    clear hok
    have HC := Lib.hid hcc; clear hcc
    have hm := okT_len ok2
    go_enter Try.func19, Try.ntmps19
    go_wp2_with fail
    refine (c_l01Both A B c d l m w h h2 hw hw2 hn hn2).mono ?_
    rintro e w1 ⟨rfl, b1⟩
    rw [HC.out]
    go_wp2_with fail
    refine (c_l01Common A B c d l m 0 w1 (h.below b1) (h2.below b1) ok1 ok2 (by omega)).mono ?_
    rintro e w2 ⟨rfl, b2⟩
    have B2 := bstep b1 b2
    go_wp2
    go_loopw [8, 9, 10] (fun x y i w' => ∃ k : Nat, i = .int .i64 ((k : Int) + 1) ∧ x = .int .i64 (bstL l m k).1 ∧ y = .int .i64 (bstL l m k).2 ∧ k ≤ 200 ∧ (-200 ≤ (bstL l m k).1 ∧ (bstL l m k).1 ≤ 200 ∧ -1 ≤ (bstL l m k).2 ∧ (bstL l m k).2 ≤ 120) ∧ Below w.heap.size w w') (fun _ _ i _ => 201 - (intOf i).toNat)
    case atStart =>
      have := commonL_le l m 0
      exact ⟨0, rfl, rfl, rfl, by omega, ⟨by simp [bstL], by simp [bstL], by simp only [bstL]; omega, by simp only [bstL]; omega⟩, B2⟩
    case round =>
      obtain ⟨k, rfl, rfl, rfl, hk, hbd, hb⟩ := hrel
      by_cases hlt : k < 200
      · have hw1 : IntKind.i64.wrap (((k : Int) + 1) + 1) = ((k + 1 : Nat) : Int) + 1 := IntWalk.i64_in _ (by omega)
        have hbd0 : ∀ j, -200 ≤ (innB l m (bstL l m k) ((k : Int) + 1) j).1 ∧ (innB l m (bstL l m k) ((k : Int) + 1) j).1 ≤ 200 ∧ -1 ≤ (innB l m (bstL l m k) ((k : Int) + 1) j).2 ∧ (innB l m (bstL l m k) ((k : Int) + 1) j).2 ≤ 120 := innB_bd hm hbd (by omega)
        have HBD := Lib.hid hbd0
        clear hbd0 hbd
        obtain ⟨x, hx⟩ : ∃ x, bstL l m k = x := ⟨_, rfl⟩
        have HX := Lib.hid hx
        have hle : decide ((k : Int) + 1 ≤ 200) = true := decide_eq_true (by omega)
        rw [hx] at HBD ⊢
        clear hx
        go_wp2
        go_loopw [8, 9, 11] (fun x' y i w' => ∃ j : Nat, i = .int .i64 (1 - 2 * (j : Int)) ∧ x' = .int .i64 (innB l m x ((k : Int) + 1) j).1 ∧ y = .int .i64 (innB l m x ((k : Int) + 1) j).2 ∧ j ≤ 2 ∧ Below w.heap.size w w') (fun _ _ i _ => (3 + intOf i).toNat)
        case atStart => exact ⟨0, rfl, rfl, rfl, by omega, hb⟩
        case round =>
          obtain ⟨j, rfl, rfl, rfl, hj, hb2⟩ := hrel
          by_cases hjlt : j < 2
          · obtain ⟨t, ht⟩ : ∃ t : Int, t = (1 - 2 * (j : Int)) * ((k : Int) + 1) := ⟨_, rfl⟩
            have hst := innB_step l m x ((k : Int) + 1) j hjlt t ht
            have hti : -200 ≤ t ∧ t ≤ 200 := by
              rcases (show j = 0 ∨ j = 1 by omega) with rfl | rfl <;> (rw [ht]; constructor <;> omega)
            have hwm : IntKind.i64.wrap ((1 - 2 * (j : Int)) * ((k : Int) + 1)) = t := by rw [ht]; exact IntWalk.i64_in _ (by rw [← ht]; omega)
            have hws : IntKind.i64.wrap ((1 - 2 * (j : Int)) - 2) = 1 - 2 * ((j + 1 : Nat) : Int) := by rw [IntWalk.i64_in _ (by omega)]; omega
            have hge : decide (-1 ≤ 1 - 2 * (j : Int)) = true := decide_eq_true (by omega)
            obtain ⟨y, hy⟩ : ∃ y, innB l m x ((k : Int) + 1) j = y := ⟨_, rfl⟩
            rw [hy] at hst ⊢
            unfold stepB at hst
            have HT := Lib.hid ht
            have HTI := Lib.hid hti
            clear hy ht hti
            rcases hlt2 : decide (y.2 < (commonL l m t : Nat)) with _ | _
            · rw [hlt2] at hst
              have HS := Lib.hid hst
              clear hst
              go_wp2_with fail
              refine (c_l01Common A B c d l m t _ (h.below hb2) (h2.below hb2) ok1 ok2 HTI.out).mono ?_
              rintro e w3 ⟨rfl, b3⟩
              go_wp2
              go_roundw
              case rel => exact ⟨j + 1, by first | rfl | rw [hws], by rw [HS.out]; rfl, by rw [HS.out]; rfl, by omega, bstep hb2 b3⟩
              case measure => simp [intOf]; omega
            · rw [hlt2] at hst
              have HS := Lib.hid hst
              clear hst
              go_wp2_with fail
              refine (c_l01Common A B c d l m t _ (h.below hb2) (h2.below hb2) ok1 ok2 HTI.out).mono ?_
              rintro e w3 ⟨rfl, b3⟩
              go_wp2
              go_roundw
              case rel => exact ⟨j + 1, by first | rfl | rw [hws], by rw [HS.out]; rfl, by rw [HS.out]; rfl, by omega, bstep hb2 b3⟩
              case measure => simp [intOf]; omega
          · obtain rfl : j = 2 := by omega
            have hge : decide ((-1 : Int) ≤ 1 - 2 * ((2 : Nat) : Int)) = false := by decide
            have HE := Lib.hid (show innB l m x ((k : Int) + 1) 2 = bstL l m (k + 1) by rw [← HX.out]; rfl)
            have HB2 := Lib.hid (HE.out ▸ HBD.out 2)
            go_wp2
            go_roundw
            case rel => exact ⟨k + 1, by first | rfl | rw [hw1], by rw [HE.out], by rw [HE.out], by omega, HB2.out, hb2⟩
            case measure => simp [intOf]; omega
      · obtain rfl : k = 200 := by omega
        go_wp2
        go_ret3
        exact ⟨by rw [HR.out.1, HR.out.2, HC.out]; rfl, hb⟩

theorem c_implBestShift (A B : Option Addr) (c d : Nat) (l m : List (Int × Int)) (w : World) (h : At2 .i16 .i8 w A l) (h2 : At2 .i16 .i8 w B m) (hw : Wf l) (hw2 : Wf m) (hn : l.length ≤ 1073741824) (hn2 : m.length ≤ 1073741824) :
    Calls Try.prog 18 #[.slice A l.length c, .slice B m.length d] w fun e w' => e = .returned (.tuple #[.int .i64 (rBest1 l m), .int .i64 (rBest2 l m), .int .i64 (cTT l m)]) ∧ Below w.heap.size w w' := by
  rcases hok : (okT l && okT m) with _ | _
  · have hcc : cTT l m = 1 := by simp only [cTT, hok]; rfl
    have hr : rBest1 l m = 0 ∧ rBest2 l m = 0 := by simp only [rBest1, rBest2, hok]; exact ⟨rfl, rfl⟩
    have HR := Lib.hid hr; clear hr
    have HC := Lib.hid hcc; clear hcc
    go_enter Try.func18, Try.ntmps18
    go_wp2_with fail
    refine (c_tuneCode_two A B c d l m w _ h hw hn h2 hw2 hn2).mono ?_
    rintro e w1 ⟨rfl, b1⟩
    rw [hok]
    go_wp2
    go_ret3
    exact ⟨by rw [HR.out.1, HR.out.2, HC.out]; rfl, b1⟩
  · have hcc : cTT l m = 0 := by simp only [cTT, hok]; rfl
    have hr : rBest1 l m = (bstL l m 200).1 ∧ rBest2 l m = (bstL l m 200).2 := by simp only [rBest1, rBest2, hok]; exact ⟨rfl, rfl⟩
    have HR := Lib.hid hr; clear hr
    obtain ⟨ok1, ok2⟩ := Bool.and_eq_true_iff.1 hok
    have HC := Lib.hid hcc; clear hcc
    have hm := okT_len ok2
    go_enter Try.func18, Try.ntmps18
    go_wp2_with fail
    refine (c_tuneCode_two A B c d l m w _ h hw hn h2 hw2 hn2).mono ?_
    rintro e w1 ⟨rfl, b1⟩
    rw [hok]
    clear hok
    go_wp2
    go_loopw [8, 9, 21] (fun x y i w' => ∃ k : Nat, i = .int .i64 (k : Int) ∧ x = .int .i64 (bstI l m k).1 ∧ y = .int .i64 (bstI l m k).2 ∧ k ≤ 201 ∧ (-200 ≤ (bstI l m k).1 ∧ (bstI l m k).1 ≤ 200 ∧ -1 ≤ (bstI l m k).2 ∧ (bstI l m k).2 ≤ 120) ∧ Below w.heap.size w w') (fun _ _ i _ => 202 - (intOf i).toNat)
    case atStart =>
      exact ⟨0, rfl, rfl, rfl, by omega, ⟨by simp [bstI], by simp [bstI], by simp [bstI], by simp [bstI]⟩, b1⟩
    case round =>
      obtain ⟨k, rfl, rfl, rfl, hk, hbd, hb⟩ := hrel
      by_cases hlt : k < 201
      · have hw1 : IntKind.i64.wrap ((k : Int) + 1) = ((k + 1 : Nat) : Int) := IntWalk.i64_in _ (by omega)
        have hw2n : IntKind.i64.wrap (-(k : Int)) = -(k : Int) := IntWalk.i64_in _ (by omega)
        have hbd0 : ∀ j, -200 ≤ (innB l m (bstI l m k) (k : Int) j).1 ∧ (innB l m (bstI l m k) (k : Int) j).1 ≤ 200 ∧ -1 ≤ (innB l m (bstI l m k) (k : Int) j).2 ∧ (innB l m (bstI l m k) (k : Int) j).2 ≤ 120 := innB_bd hm hbd (by omega)
        have HBD := Lib.hid hbd0
        clear hbd0 hbd
        obtain ⟨x, hx⟩ : ∃ x, bstI l m k = x := ⟨_, rfl⟩
        have HX := Lib.hid hx
        have hle : decide ((k : Int) < 201) = true := decide_eq_true (by omega)
        rw [hx] at HBD ⊢
        clear hx
        have V := Lib.hid (Var.new wr #[.int .i64 (k : Int), .int .i64 (-(k : Int))] 2)
        go_wp2
        go_loopw [8, 9, 29] (fun x' y i w' => ∃ j : Nat, i = .int .i64 (j : Int) ∧ x' = .int .i64 (innB l m x (k : Int) j).1 ∧ y = .int .i64 (innB l m x (k : Int) j).2 ∧ j ≤ 2 ∧ Below (wr.alloc (.cells #[.int .i64 (k : Int), .int .i64 (-(k : Int))] 2)).heap.size (wr.alloc (.cells #[.int .i64 (k : Int), .int .i64 (-(k : Int))] 2)) w') (fun _ _ i _ => (3 - intOf i).toNat)
        case atStart => exact ⟨0, rfl, rfl, rfl, by omega, Below.refl _ _⟩
        case round =>
          obtain ⟨j, rfl, rfl, rfl, hj, hb2⟩ := hrel
          have B2 := bstep (balloc hb (.cells #[.int .i64 (k : Int), .int .i64 (-(k : Int))] 2)) hb2
          by_cases hjlt : j < 2
          · obtain ⟨t, ht⟩ : ∃ t : Int, t = (1 - 2 * (j : Int)) * (k : Int) := ⟨_, rfl⟩
            have hst := innB_step l m x (k : Int) j hjlt t ht
            have hti : -200 ≤ t ∧ t ≤ 200 := by
              rcases (show j = 0 ∨ j = 1 by omega) with rfl | rfl <;> (rw [ht]; constructor <;> omega)
            have hws : IntKind.i64.wrap ((j : Int) + 1) = ((j + 1 : Nat) : Int) := IntWalk.i64_in _ (by omega)
            have hcell := (V.out.below hb2).cell (i := j) (v := .int .i64 t) (by rcases (show j = 0 ∨ j = 1 by omega) with rfl | rfl <;> (rw [ht]; simp))
            have hj1 : (0 : Int) ≤ (j : Int) := by omega
            have hj2 : (j : Int) < 2 := by omega
            obtain ⟨y, hy⟩ : ∃ y, innB l m x (k : Int) j = y := ⟨_, rfl⟩
            rw [hy] at hst ⊢
            unfold stepB at hst
            have HTI := Lib.hid hti
            clear hy ht hti
            rcases hlt2 : decide (y.2 < (commonL l m t : Nat)) with _ | _
            · rw [hlt2] at hst
              have HS := Lib.hid hst
              clear hst
              go_wp2_with fail
              refine (c_common A B c d l m t _ (h.below B2) (h2.below B2) ok1 ok2 HTI.out).mono ?_
              rintro e w3 ⟨rfl, b3⟩
              go_wp2
              go_roundw
              case rel => exact ⟨j + 1, by first | rfl | rw [hws], by rw [HS.out]; rfl, by rw [HS.out]; rfl, by omega, bstep hb2 b3⟩
              case measure => simp [intOf]; omega
            · rw [hlt2] at hst
              have HS := Lib.hid hst
              clear hst
              go_wp2_with fail
              refine (c_common A B c d l m t _ (h.below B2) (h2.below B2) ok1 ok2 HTI.out).mono ?_
              rintro e w3 ⟨rfl, b3⟩
              go_wp2
              go_roundw
              case rel => exact ⟨j + 1, by first | rfl | rw [hws], by rw [HS.out]; rfl, by rw [HS.out]; rfl, by omega, bstep hb2 b3⟩
              case measure => simp [intOf]; omega
          · obtain rfl : j = 2 := by omega
            have HE := Lib.hid (show innB l m x (k : Int) 2 = bstI l m (k + 1) by rw [bstI_succ, ← HX.out]; rfl)
            have HB2 := Lib.hid (HE.out ▸ HBD.out 2)
            go_wp2
            go_roundw
            case rel => exact ⟨k + 1, by first | rfl | rw [hw1], by rw [HE.out], by rw [HE.out], by omega, HB2.out, B2⟩
            case measure => simp [intOf]; omega
      · obtain rfl : k = 201 := by omega
        go_wp2
        go_ret3
        exact ⟨by rw [HR.out.1, HR.out.2, HC.out]; rfl, hb⟩

end Go.Proofs.Ytmdocjiljjbijaa
