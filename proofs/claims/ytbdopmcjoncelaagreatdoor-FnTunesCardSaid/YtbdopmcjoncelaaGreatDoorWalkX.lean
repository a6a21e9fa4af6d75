/-
  Together and JoinTunes, in the reference and in the program.
-/
import Derived.Test.YtbdopmcjoncelaaGreatDoorWalkW
import Derived.Test.YtbdopmcjoncelaaGreatDoorWalkS
import Derived.Test.YtbdopmcjoncelaaGreatDoorWalkT
import Derived.Test.YtbdopmcjoncelaaGreatDoorWalkU
import Derived.Test.YtbdopmcjoncelaaGreatDoorWalkH
import Derived.Test.YtbdopmcjoncelaaGreatDoorWalkK
import Derived.Test.YtbdopmcjoncelaaGreatDoorPure
namespace Go.Proofs.YtbdopmcjoncelaaGreatDoor
open Go.RowKit
set_option linter.unusedVariables false
set_option linter.unusedSimpArgs false
set_option maxRecDepth 4000

set_option maxHeartbeats 800000 in
theorem c_implTogether (A B : Option Addr) (c d : Nat) (l m : List (Int × Int)) (w : World) (h : At2 .i16 .i8 w A l) (h2 : At2 .i16 .i8 w B m) (hw : Wf l) (hw2 : Wf m) (hn : l.length ≤ 1073741824) (hn2 : m.length ≤ 1073741824) :
    Calls Tryz.prog 21 #[.slice A l.length c, .slice B m.length d] w fun e w' => ∃ v, e = .returned (.tuple #[v, .int .i64 (cTog l m)]) ∧ Own2 .i16 .i8 40 w' w.heap.size v (rTog l m) ∧ Below w.heap.size w w' := by
  have hu := Tryz.underlying40
  rcases hok : (okT l && okT m) with _ | _
  · have HC := Lib.hid (show cTog l m = 1 by unfold cTog; rw [hok]; rfl)
    have HR := Lib.hid (show rTog l m = [] by unfold rTog; rw [hok]; rfl)
    go_enter Tryz.func21, Tryz.ntmps21
    go_wp2_with fail
    refine (c_tuneCode_two A B c d l m w _ h hw hn h2 hw2 hn2).mono ?_
    rintro e w1 ⟨rfl, b1⟩
    rw [hok]
    go_wp2
    go_ret2
    rw [HR.out, HC.out]
    exact ⟨_, rfl, World.ownsRow_nil _ _ _ _, b1⟩
  · have HC0 := Lib.hid (show cTog l m = (if okT l && okT m then _ else _) from rfl)
    have HR0 := Lib.hid (show rTog l m = (if okT l && okT m then _ else _) from rfl)
    rw [hok] at HC0 HR0
    have hok1 : okT l = true := by rw [Bool.and_eq_true] at hok; exact hok.1
    have hok2 : okT m = true := by rw [Bool.and_eq_true] at hok; exact hok.2
    have hl1 := okT_len hok1
    have hl2 := okT_len hok2
    have hLM := okT_sortU (okN_two hok1 hok2)
    have hlm : (l ++ m).length ≤ 1073741824 := by rw [List.length_append]; omega
    have hs0 := sortU_len (l ++ m)
    have hwf := wf_sortU (wf_of_okN (okN_two hok1 hok2))
    have hC1 : cTog l m = (if (sortU (l ++ m)).length ≤ 120 then 0 else 3) := HC0.out
    have hR1 : rTog l m = (if (sortU (l ++ m)).length ≤ 120 then sortU (l ++ m) else []) := HR0.out
    obtain ⟨LM, hLMe⟩ : ∃ x, l ++ m = x := ⟨_, rfl⟩
    have HLM := Lib.hid hLMe
    rw [hLMe] at hC1 hR1 hlm hs0 hLM hwf
    clear hLMe
    rcases hq : decide ((sortU LM).length ≤ 120) with _ | _
    all_goals
      rw [hq] at hLM
      have HC := Lib.hid hC1
      have HR := Lib.hid hR1
      have HWF := Lib.hid hwf
      have HOK := Lib.hid hLM
      have HQ := Lib.hid hq
      clear hC1 hR1 hwf hLM hq
      go_enter Tryz.func21, Tryz.ntmps21
      go_wp2_with fail
      refine (c_tuneCode_two A B c d l m w _ h hw hn h2 hw2 hn2).mono ?_
      rintro e w1 ⟨rfl, b1⟩
      rw [hok]
      go_wp2_with fail
      refine (c_Concat2 A B c d l m _ w1 (h.below b1) (h2.below b1) (by omega)).mono ?_
      rintro e w2 ⟨A2, c2, rfl, o2, b2⟩
      rw [HLM.out] at o2 ⊢
      have O2 := Lib.hid o2
      clear o2
      go_wp2_with fail
      refine (c_madeN A2 c2 LM _ O2.out.at_ hlm).mono ?_
      rintro e w3 ⟨A3, c3, rfl, o3, b3⟩
      have B3 := bstep (bstep b1 b2) b3
      have O3 := Lib.hid (o3.base_le (bstep b1 b2).size)
      clear o3
      obtain ⟨S, hS⟩ : ∃ S, sortU LM = S := ⟨_, rfl⟩
      rw [hS] at HC HR O3 hs0 HWF HOK HQ ⊢
      clear hS
      go_wp2_with fail
      refine (c_checked A3 c3 S 3 _ O3.out.at_ HWF.out (by omega)).mono ?_
      rintro e w4 ⟨rfl, b4⟩
      rw [HOK.out]
      go_wp2
      go_ret2
    · have hq2 := of_decide_eq_false HQ.out
      rw [HR.out, HC.out, if_neg hq2, if_neg hq2]
      exact ⟨_, rfl, World.ownsRow_nil _ _ _ _, bstep B3 b4⟩
    · have hq2 := of_decide_eq_true HQ.out
      rw [HR.out, HC.out, if_pos hq2, if_pos hq2]
      exact ⟨_, rfl, O3.out.below b4, bstep B3 b4⟩

end Go.Proofs.YtbdopmcjoncelaaGreatDoor
