/-
  Together and JoinTunes, in the reference and in the program.
-/
import Derived.Test.YtmdocjiljjbijaaWalkW
import Derived.Test.YtmdocjiljjbijaaWalkS
import Derived.Test.YtmdocjiljjbijaaWalkT
import Derived.Test.YtmdocjiljjbijaaWalkU
import Derived.Test.YtmdocjiljjbijaaWalkH
import Derived.Test.YtmdocjiljjbijaaWalkK
import Derived.Test.YtmdocjiljjbijaaPureP
namespace Go.Proofs.Ytmdocjiljjbijaa
open Go.RowKit
set_option linter.unusedVariables false
set_option linter.unusedSimpArgs false
set_option maxRecDepth 4000

set_option maxHeartbeats 800000 in
theorem c_specJoinTunes (A B : Option Addr) (c d : Nat) (l m : List (Int × Int)) (w : World) (h : At2 .i16 .i8 w A l) (h2 : At2 .i16 .i8 w B m) (hw : Wf l) (hw2 : Wf m) (hn : l.length ≤ 1073741824) (hn2 : m.length ≤ 1073741824) :
    Calls Try.prog 28 #[.slice A l.length c, .slice B m.length d] w fun e w' => ∃ v, e = .returned (.tuple #[v, .int .i64 (cJoin l m)]) ∧ Own2 .i16 .i8 43 w' w.heap.size v (rJoin l m) ∧ Below w.heap.size w w' := by
  have hu := Try.underlying43
  rcases hok : (okT l && okT m) with _ | _
  · have HC := Lib.hid (show cJoin l m = 1 by unfold cJoin; rw [hok]; rfl)
    have HR := Lib.hid (show rJoin l m = [] by unfold rJoin; rw [hok]; rfl)
    have HT := Lib.hid (show cTT l m = 1 by unfold cTT; rw [hok]; rfl)
    clear hok
    go_enter Try.func28, Try.ntmps28
    go_wp2_with fail
    refine (c_l01Both A B c d l m w h h2 hw hw2 hn hn2).mono ?_
    rintro e w1 ⟨rfl, b1⟩
    rw [HT.out]
    go_wp2
    go_ret2
    rw [HR.out, HC.out]
    exact ⟨_, rfl, Own2.lit0 b1.size, balloc b1 _⟩
  · have HT := Lib.hid (show cTT l m = 0 by unfold cTT; rw [hok]; rfl)
    have HC0 := Lib.hid (show cJoin l m = (if okT l && okT m then _ else _) from rfl)
    have HR0 := Lib.hid (show rJoin l m = (if okT l && okT m then _ else _) from rfl)
    rw [hok] at HC0 HR0
    have hok1 : okT l = true := by rw [Bool.and_eq_true] at hok; exact hok.1
    have hok2 : okT m = true := by rw [Bool.and_eq_true] at hok; exact hok.2
    have hl1 := okT_len hok1
    have hl2 := okT_len hok2
    clear hok
    have hC1 : cJoin l m = (if joinB l m then 0 else 3) := HC0.out
    have hR1 : rJoin l m = (if joinB l m then l ++ m.map (addG (lengthL l) 0) else []) := HR0.out
    have hbd := lengthL_bd hok1
    rcases hB : movB (addG (lengthL l) 0) m with _ | _
    · have hj : joinB l m = false := by unfold joinB; rw [hB]; rfl
      rw [hj] at hC1 hR1
      have HC := Lib.hid hC1
      have HR := Lib.hid hR1
      have HB := Lib.hid hB
      clear hC1 hR1 hB hj
      go_enter Try.func28, Try.ntmps28
      go_wp2_with fail
      refine (c_l01Both A B c d l m w h h2 hw hw2 hn hn2).mono ?_
      rintro e w1 ⟨rfl, b1⟩
      rw [HT.out]
      go_wp2_with fail
      refine (c_l01Length A c l _ (h.below b1) hw hn).mono ?_
      rintro e w' ⟨rfl, rfl⟩
      go_wp2_with fail
      refine (c_l01Changed B d m (lengthL l) 0 _ (h2.below b1) hok2 (by omega) (by omega)).mono ?_
      rintro e w2 ⟨A2, c2, rfl, o2, b2⟩
      rw [HB.out]
      have B2 := bstep b1 b2
      clear o2
      go_wp2
      go_ret2
      rw [HR.out, HC.out]
      exact ⟨_, rfl, Own2.lit0 B2.size, balloc B2 _⟩
    · have hm : movR (addG (lengthL l) 0) m = m.map (addG (lengthL l) 0) := by unfold movR; rw [hB]; rfl
      have hj : joinB l m = decide (l.length + m.length ≤ 120) := by unfold joinB; rw [hB, Bool.true_and]
      rw [hj] at hC1 hR1
      have HB := Lib.hid hB
      have HM := Lib.hid hm
      have hMl : (m.map (addG (lengthL l) 0)).length = m.length := by rw [List.length_map]
      obtain ⟨M, hMe⟩ : ∃ M, m.map (addG (lengthL l) 0) = M := ⟨_, rfl⟩
      rw [hMe] at HM hMl hR1
      have HML := Lib.hid hMl
      clear hB hm hj hMe hMl
      obtain ⟨L, hL⟩ : ∃ L, lengthL l = L := ⟨_, rfl⟩
      have HL := Lib.hid hL
      rw [hL] at HB HM hbd
      clear hL
      rcases hq : decide (l.length + m.length ≤ 120) with _ | _
      all_goals
        rw [hq] at hC1 hR1
        have HC := Lib.hid hC1
        have HR := Lib.hid hR1
        clear hC1 hR1
        go_enter Try.func28, Try.ntmps28
        go_wp2_with fail
        refine (c_l01Both A B c d l m w h h2 hw hw2 hn hn2).mono ?_
        rintro e w1 ⟨rfl, b1⟩
        rw [HT.out]
        go_wp2_with fail
        refine (c_l01Length A c l _ (h.below b1) hw hn).mono ?_
        rintro e w' ⟨rfl, rfl⟩
        rw [HL.out]
        go_wp2_with fail
        refine (c_l01Changed B d m L 0 _ (h2.below b1) hok2 (by omega) (by omega)).mono ?_
        rintro e w2 ⟨A2, c2, rfl, o2, b2⟩
        rw [HB.out, HM.out]
        rw [HM.out] at o2
        have B2 := bstep b1 b2
        have o2sep := Lib.hid (fun k hk => o2.high (k := k) hk)
        have O2 := Lib.hid o2
        clear o2
        have hw1 : IntKind.i64.wrap ((l.length : Int) + (m.length : Int)) = (l.length : Int) + (m.length : Int) := IntWalk.i64_in _ (by omega)
      · have hgt : decide (120 < (l.length : Int) + (m.length : Int)) = true := decide_eq_true (by have := of_decide_eq_false hq; omega)
        clear hq
        go_wp2
        go_ret2
        rw [HR.out, HC.out]
        exact ⟨_, rfl, Own2.lit0 B2.size, balloc B2 _⟩
      · have hgt : decide (120 < (l.length : Int) + (m.length : Int)) = false := decide_eq_false (by have := of_decide_eq_true hq; omega)
        clear hq
        have B3 := balloc B2 (.cells #[] 43)
        have hown1 := Own2.lit0 (k1 := .i16) (k2 := .i8) (E := 43) (w := w2) (base := w.heap.size) B2.size
        have hA := h.below B3
        have hz0 : ([] : List (Int × Int)).length + l.length ≤ 1073741824 := by simp; omega
        have hz2 : l.length + M.length ≤ 1073741824 := by have := HML.out; omega
        have hbs1 := B3.size
        have O3 := Lib.hid (O2.out.alloc (.cells #[] 43))
        clear O2
        go_wp2_with (first
          | (at_builtin; refine append_pairsU rfl (.tmp 34) (.tmp 35) 25 25 rfl 43 43 .i16 .i8 4 Try.underlying25 Try.underlying25 info_Note (by decide) w.heap.size _ _ rfl hown1 _ _ l rfl hA hz0 hbs1 ?_; intro A4 c4 w4 ho4 hg4; rw [List.nil_append] at ho4 ⊢; have B4 := bgrown B3 hg4 (fun j hj => hown1.low hj); have O4 := Lib.hid (O3.out.apart hg4 (fun k hk e => by have z2 := o2sep.out k hk; have e2 : w2.heap.size = k := Option.some.inj e; omega)))
          | (at_builtin; refine append_pairsU rfl (.tmp 36) (.tmp 37) 25 25 rfl 43 43 .i16 .i8 4 Try.underlying25 Try.underlying25 info_Note (by decide) w.heap.size _ _ rfl ho4 _ _ M rfl O4.out.at_ hz2 B4.size ?_; intro A5 c5 w5 ho5 hg5; have B5 := bgrown B4 hg5 (fun j hj => ho4.low hj); rw [List.length_append] at ho5; have O5 := Lib.hid ho5; clear ho5 ho4 hown1))
        go_ret2
        rw [HR.out, HC.out]
        exact ⟨_, rfl, O5.out, B5⟩
set_option maxHeartbeats 800000 in
theorem c_implJoinTunes (A B : Option Addr) (c d : Nat) (l m : List (Int × Int)) (w : World) (h : At2 .i16 .i8 w A l) (h2 : At2 .i16 .i8 w B m) (hw : Wf l) (hw2 : Wf m) (hn : l.length ≤ 1073741824) (hn2 : m.length ≤ 1073741824) :
    Calls Try.prog 27 #[.slice A l.length c, .slice B m.length d] w fun e w' => ∃ v, e = .returned (.tuple #[v, .int .i64 (cJoin l m)]) ∧ Own2 .i16 .i8 43 w' w.heap.size v (rJoin l m) ∧ Below w.heap.size w w' := by
  have hu := Try.underlying43
  rcases hok : (okT l && okT m) with _ | _
  · have HC := Lib.hid (show cJoin l m = 1 by unfold cJoin; rw [hok]; rfl)
    have HR := Lib.hid (show rJoin l m = [] by unfold rJoin; rw [hok]; rfl)
    have B1 := balloc (Below.refl _ w) (.cells #[.slice A l.length c] 25)
    have V1 := Lib.hid (Var.new w #[.slice A l.length c] 25)
    go_enter Try.func27, Try.ntmps27
    go_upto_region 1 with fail
    obtain ⟨b0, hb0⟩ : ∃ b, w.heap.size = b := ⟨_, rfl⟩
    rw [hb0] at V1 ⊢
    clear hb0
    obtain ⟨w0, hw0⟩ : ∃ u, w.alloc (.cells #[.slice A l.length c] 25) = u := ⟨_, rfl⟩
    rw [hw0] at V1 B1 ⊢
    clear hw0
    have hcell0 := V1.out.cell (i := 0) rfl
    go_wp2_with fail
    refine (c_tuneCode_two A B c d l m w0 _ (h.below B1) hw hn (h2.below B1) hw2 hn2).mono ?_
    rintro e w1 ⟨rfl, b1⟩
    rw [hok]
    go_wp2
    go_ret2
    rw [HR.out, HC.out]
    exact ⟨_, rfl, World.ownsRow_nil _ _ _ _, bstep B1 b1⟩
  · have HC0 := Lib.hid (show cJoin l m = (if okT l && okT m then _ else _) from rfl)
    have HR0 := Lib.hid (show rJoin l m = (if okT l && okT m then _ else _) from rfl)
    rw [hok] at HC0 HR0
    have hok1 : okT l = true := by rw [Bool.and_eq_true] at hok; exact hok.1
    have hok2 : okT m = true := by rw [Bool.and_eq_true] at hok; exact hok.2
    have hl1 := okT_len hok1
    have hl2 := okT_len hok2
    have hC1 : cJoin l m = (if joinB l m then 0 else 3) := HC0.out
    have hR1 : rJoin l m = (if joinB l m then l ++ m.map (addG (lengthL l) 0) else []) := HR0.out
    have hbd := lengthL_bd hok1
    have B1 := balloc (Below.refl _ w) (.cells #[.slice A l.length c] 25)
    have V1 := Lib.hid (Var.new w #[.slice A l.length c] 25)
    rcases hB : movB (addG (lengthL l) 0) m with _ | _
    · have hj : joinB l m = false := by unfold joinB; rw [hB]; rfl
      rw [hj] at hC1 hR1
      have HC := Lib.hid hC1
      have HR := Lib.hid hR1
      have HB := Lib.hid hB
      clear hC1 hR1 hB hj
      go_enter Try.func27, Try.ntmps27
      go_upto_region 1 with fail
      obtain ⟨b0, hb0⟩ : ∃ b, w.heap.size = b := ⟨_, rfl⟩
      rw [hb0] at V1 ⊢
      clear hb0
      obtain ⟨w0, hw0⟩ : ∃ u, w.alloc (.cells #[.slice A l.length c] 25) = u := ⟨_, rfl⟩
      rw [hw0] at V1 B1 ⊢
      clear hw0
      have hcell0 := V1.out.cell (i := 0) rfl
      go_wp2_with fail
      refine (c_tuneCode_two A B c d l m w0 _ (h.below B1) hw hn (h2.below B1) hw2 hn2).mono ?_
      rintro e w1 ⟨rfl, b1⟩
      rw [hok]
      clear hcell0
      have hcell1 := Lib.hid ((V1.out.below b1).cell (i := 0) rfl)
      have B2 := bstep B1 b1
      go_wp2_with fail
      refine (c_movedJoin b0 A c l B d m _ (h2.below B2) hok2 ⟨hcell1.out, h.below B2⟩ ⟨hbd, hw, hn⟩).mono ?_
      rintro e w2 ⟨A2, c2, rfl, o2, b2⟩
      rw [HB.out]
      have B3 := bstep B2 b2
      clear o2
      go_wp2
      go_ret2
      rw [HR.out, HC.out]
      exact ⟨_, rfl, World.ownsRow_nil _ _ _ _, B3⟩
    · have hm : movR (addG (lengthL l) 0) m = m.map (addG (lengthL l) 0) := by unfold movR; rw [hB]; rfl
      have hj : joinB l m = decide (l.length + m.length ≤ 120) := by unfold joinB; rw [hB, Bool.true_and]
      have hJ := okT_join hok1 hok2 hB
      rw [hj] at hC1 hR1
      have HB := Lib.hid hB
      have hMl : (m.map (addG (lengthL l) 0)).length = m.length := by rw [List.length_map]
      have hMo : ∀ x ∈ m.map (addG (lengthL l) 0), okN x = true := fun x hx => by
        rw [List.mem_map] at hx
        obtain ⟨z, hz, rfl⟩ := hx
        unfold movB at hB
        rw [List.all_eq_true] at hB
        exact hB z hz
      have HM := Lib.hid hm
      obtain ⟨M, hMe⟩ : ∃ M, m.map (addG (lengthL l) 0) = M := ⟨_, rfl⟩
      rw [hMe] at HM hMl hR1 hJ hMo
      have hwf : Wf (l ++ M) := hw.append (wf_of_okN hMo)
      have HWF := Lib.hid hwf
      have HML := Lib.hid hMl
      clear hB hm hj hMe hMl hMo hwf
      rcases hq : decide (l.length + m.length ≤ 120) with _ | _
      all_goals
        rw [hq] at hC1 hR1 hJ
        have HJ := Lib.hid hJ
        have HC := Lib.hid hC1
        have HR := Lib.hid hR1
        clear hC1 hR1 hq hJ
        go_enter Try.func27, Try.ntmps27
        go_upto_region 1 with fail
        obtain ⟨b0, hb0⟩ : ∃ b, w.heap.size = b := ⟨_, rfl⟩
        rw [hb0] at V1 ⊢
        clear hb0
        obtain ⟨w0, hw0⟩ : ∃ u, w.alloc (.cells #[.slice A l.length c] 25) = u := ⟨_, rfl⟩
        rw [hw0] at V1 B1 ⊢
        clear hw0
        have hcell0 := V1.out.cell (i := 0) rfl
        go_wp2_with fail
        refine (c_tuneCode_two A B c d l m w0 _ (h.below B1) hw hn (h2.below B1) hw2 hn2).mono ?_
        rintro e w1 ⟨rfl, b1⟩
        rw [hok]
        clear hcell0
        have hcell1 := Lib.hid ((V1.out.below b1).cell (i := 0) rfl)
        have B2 := bstep B1 b1
        go_wp2_with fail
        refine (c_movedJoin b0 A c l B d m _ (h2.below B2) hok2 ⟨hcell1.out, h.below B2⟩ ⟨hbd, hw, hn⟩).mono ?_
        rintro e w2 ⟨A2, c2, rfl, o2, b2⟩
        rw [HB.out, HM.out]
        rw [HM.out] at o2
        have B3 := bstep B2 b2
        have O2 := Lib.hid o2
        have hcell2 := ((V1.out.below b1).below b2).cell (i := 0) rfl
        have hlM : l.length + M.length ≤ 1073741824 := by have := HML.out; omega
        have hlM2 : (l ++ M).length ≤ 1073741824 := by rw [List.length_append]; exact hlM
        clear o2
        go_wp2_with fail
        refine (c_Concat2 A A2 c c2 l M _ w2 (h.below B3) O2.out.at_ hlM).mono ?_
        rintro e w3 ⟨A3, c3, rfl, o3, b3⟩
        clear hcell2
        have O3 := Lib.hid (o3.base_le B3.size)
        have B4 := bstep B3 b3
        clear o3
        obtain ⟨R, hRe⟩ : ∃ R, l ++ M = R := ⟨_, rfl⟩
        rw [hRe] at O3 HR HJ HWF hlM2 ⊢
        clear hRe
        go_wp2_with fail
        refine (c_checked A3 c3 R 3 _ O3.out.at_ HWF.out hlM2).mono ?_
        rintro e w4 ⟨rfl, b4⟩
        rw [HJ.out]
        go_wp2
        go_ret2
        rw [HR.out, HC.out]
      · exact ⟨_, rfl, World.ownsRow_nil _ _ _ _, bstep B4 b4⟩
      · exact ⟨_, rfl, O3.out.below b4, bstep B4 b4⟩

end Go.Proofs.Ytmdocjiljjbijaa
