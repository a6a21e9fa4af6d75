/-
  MakeTune, in the reference and in the program.
-/
import Derived.Test.YtbdopmcjoncelaaGreatDoorWalkNS
import Derived.Test.YtbdopmcjoncelaaGreatDoorWalkS
import Derived.Test.YtbdopmcjoncelaaGreatDoorWalkT
import Derived.Test.YtbdopmcjoncelaaGreatDoorPure
import Derived.Test.YtbdopmcjoncelaaGreatDoorData
namespace Go.Proofs.YtbdopmcjoncelaaGreatDoor
open Go.RowKit
set_option linter.unusedVariables false
set_option linter.unusedSimpArgs false
set_option maxRecDepth 4000

theorem c_MakeTune1 (p : Int × Int) (w : World) (hp : Wn p) :
    Calls Tryz.prog 60 #[.agg #[.int .i16 p.1, .int .i8 p.2]] w fun e w' => e = .returned (.bool (!okN p)) ∧ Below w.heap.size w w' := by
  have hu := Tryz.underlying40
  go_enter Tryz.func60, Tryz.ntmps60
  go_wp2_with fail
  refine (c_isNote p _ hp).mono ?_
  rintro e w1 ⟨rfl, b1⟩
  go_wp2
  go_ret
  exact ⟨rfl, bstep (balloc (Below.refl _ _) _) b1⟩

theorem c_IndexNote (A : Option Addr) (c : Nat) (l : List (Int × Int)) (w : World) (h : At2 .i16 .i8 w A l) (hw : Wf l) (hn : l.length ≤ 1073741824) :
    Calls Tryz.prog 81 #[.slice A l.length c, .func (.func 60) #[] #[]] w fun e w' => ∃ r : Int, e = .returned (.int .i64 r) ∧ decide (0 ≤ r) = !l.all okN ∧ Below w.heap.size w w' := by
  have hu := Tryz.underlying40
  go_enter Tryz.func81, Tryz.ntmps81
  go_wp2
  go_loopw [8] (fun i w' => ∃ k : Nat, i = .int .i64 k ∧ k ≤ l.length ∧ (∀ i (hi : i < l.length), i < k → okN l[i] = true) ∧ Below w.heap.size w w') (fun i _ => l.length - (intOf i).toNat)
  case atStart => exact ⟨0, rfl, by omega, fun _ _ h => absurd h (by omega), Below.refl _ _⟩
  case round =>
    obtain ⟨k, rfl, hk, hz, hb⟩ := hrel
    have HZ := Lib.hid hz; clear hz
    by_cases hlt : k < l.length
    · obtain ⟨b, off, hAe, hbl, hc⟩ := (h.below hb).get (by omega)
      subst hAe
      have y1 := (hc k hlt).1
      have y2 := (hc k hlt).2
      clear hc
      have hwn := hw.get hlt
      rcases hx : okN l[k] with _ | _
      · have hall := Lib.hid (show l.all okN = false by rw [List.all_eq_false]; exact ⟨l[k], List.getElem_mem hlt, by simp [hx]⟩)
        go_wp2_with (go_at_call 60; refine (c_MakeTune1 _ _ hwn).mono ?_; rintro e w1 ⟨rfl, hb1⟩; rw [hx])
        go_ret
        exact ⟨(k : Int), rfl, by rw [hall.out]; exact decide_eq_true (by omega), bstep hb hb1⟩
      · have HX := Lib.hid hx
        go_wp2_with (go_at_call 60; refine (c_MakeTune1 _ _ hwn).mono ?_; rintro e w1 ⟨rfl, hb1⟩; rw [hx])
        go_roundw
        case rel => exact ⟨k + 1, by go_num, by omega, fun i hi hik => by
          by_cases e : i = k
          · subst e; exact HX.out
          · exact HZ.out i hi (by omega), bstep hb hb1⟩
        case measure => simp [intOf]; omega
    · obtain rfl : k = l.length := by omega
      have hall := Lib.hid (show l.all okN = true by rw [List.all_eq_true]; intro x hx; obtain ⟨i, hi, rfl⟩ := List.getElem_of_mem hx; exact HZ.out i hi hi)
      go_wp2
      go_ret
      exact ⟨-1, rfl, by rw [hall.out]; decide, hb⟩

theorem c_ContainsNote (A : Option Addr) (c : Nat) (l : List (Int × Int)) (w : World) (h : At2 .i16 .i8 w A l) (hw : Wf l) (hn : l.length ≤ 1073741824) :
    Calls Tryz.prog 59 #[.slice A l.length c, .func (.func 60) #[] #[]] w fun e w' => e = .returned (.bool (!l.all okN)) ∧ Below w.heap.size w w' := by
  go_enter Tryz.func59, Tryz.ntmps59
  go_wp2_with (go_at_call 81; refine (c_IndexNote A c l w h hw hn).mono ?_; rintro e w1 ⟨r, rfl, hr, hb1⟩; have HR := Lib.hid hr; clear hr)
  go_ret
  exact ⟨ret_bool HR.out, hb1⟩

set_option maxHeartbeats 800000 in
theorem c_implMakeTune (A : Option Addr) (c : Nat) (l : List (Int × Int)) (w : World) (h : At2 .i16 .i8 w A l) (hw : Wf l) (hn : l.length ≤ 1073741824) :
    Calls Tryz.prog 25 #[.slice A l.length c] w fun e w' => ∃ v, e = .returned (.tuple #[v, .int .i64 (cMake l)]) ∧ Own2 .i16 .i8 40 w' w.heap.size v (rMake l) ∧ Below w.heap.size w w' := by
  have hu := Tryz.underlying40
  rcases hall : l.all okN with _ | _
  · have HC := Lib.hid (show cMake l = 2 by unfold cMake; rw [hall]; rfl)
    have HR := Lib.hid (show rMake l = [] by unfold rMake; rw [hall]; rfl)
    have HA := Lib.hid hall
    clear hall
    go_enter Tryz.func25, Tryz.ntmps25
    go_wp2_with fail
    refine (c_ContainsNote A c l w h hw hn).mono ?_
    rintro e w1 ⟨rfl, b1⟩
    rw [HA.out]
    go_wp2
    go_ret2
    rw [HR.out, HC.out]
    exact ⟨_, rfl, World.ownsRow_nil _ _ _ _, b1⟩
  · have hN : ∀ x ∈ l, okN x = true := by rw [List.all_eq_true] at hall; exact hall
    have hLM := okT_sortU hN
    have hs0 := sortU_len l
    have hwf := wf_sortU hw
    have hC1 : cMake l = (if (sortU l).length ≤ 120 then 0 else 3) := by unfold cMake; rw [hall]; rfl
    have hR1 : rMake l = (if (sortU l).length ≤ 120 then sortU l else []) := by unfold rMake; rw [hall]; rfl
    have HA := Lib.hid hall
    clear hall hN
    rcases hq : decide ((sortU l).length ≤ 120) with _ | _
    all_goals
      rw [hq] at hLM
      have HC := Lib.hid hC1
      have HR := Lib.hid hR1
      have HWF := Lib.hid hwf
      have HOK := Lib.hid hLM
      have HQ := Lib.hid hq
      clear hC1 hR1 hwf hLM hq
      go_enter Tryz.func25, Tryz.ntmps25
      go_wp2_with fail
      refine (c_ContainsNote A c l w h hw hn).mono ?_
      rintro e w1 ⟨rfl, b1⟩
      rw [HA.out]
      go_wp2_with fail
      refine (c_madeN A c l _ (h.below b1) hn).mono ?_
      rintro e w3 ⟨A3, c3, rfl, o3, b3⟩
      have B3 := bstep b1 b3
      have O3 := Lib.hid (o3.base_le b1.size)
      clear o3
      obtain ⟨S, hS⟩ : ∃ S, sortU l = S := ⟨_, rfl⟩
      rw [hS] at HC HR O3 hs0 HWF HOK HQ ⊢
      clear hS
      go_wp2_with fail
      refine (c_checked A3 c3 S 3 _ O3.out.at_ HWF.out (by omega)).mono ?_
      rintro e w4 ⟨rfl, b4⟩
      rw [HOK.out]
      go_wp2
      go_ret2
    · have hq2 := of_decide_eq_false HQ.out
      rw [HR.out, HC.out, if_neg hq2, if_neg hq2]
      exact ⟨_, rfl, World.ownsRow_nil _ _ _ _, bstep B3 b4⟩
    · have hq2 := of_decide_eq_true HQ.out
      rw [HR.out, HC.out, if_pos hq2, if_pos hq2]
      exact ⟨_, rfl, O3.out.below b4, bstep B3 b4⟩

end Go.Proofs.YtbdopmcjoncelaaGreatDoor
