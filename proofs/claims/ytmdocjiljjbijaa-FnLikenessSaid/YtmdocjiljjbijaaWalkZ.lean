/-
  CanonOf, in the reference and in the program.
-/
import Derived.Test.YtmdocjiljjbijaaWalkS
import Derived.Test.YtmdocjiljjbijaaWalkT
import Derived.Test.YtmdocjiljjbijaaWalkU
import Derived.Test.YtmdocjiljjbijaaWalkK
import Derived.Test.YtmdocjiljjbijaaWalkF
import Derived.Test.YtmdocjiljjbijaaPureP
import Derived.Test.YtmdocjiljjbijaaDataD
namespace Go.Proofs.Ytmdocjiljjbijaa
open Go.RowKit
set_option linter.unusedVariables false
set_option linter.unusedSimpArgs false
set_option maxRecDepth 4000

theorem mul_bd8 {k : Nat} {s : Int} (h1 : k ≤ 8) (h2 : -200 ≤ s ∧ s ≤ 200) : -1600 ≤ (k : Int) * s ∧ (k : Int) * s ≤ 1600 := by
  rcases (show k = 0 ∨ k = 1 ∨ k = 2 ∨ k = 3 ∨ k = 4 ∨ k = 5 ∨ k = 6 ∨ k = 7 ∨ k = 8 by omega) with rfl | rfl | rfl | rfl | rfl | rfl | rfl | rfl | rfl <;> omega
theorem voices_no {l : List (Int × Int)} {s t : Int} {n k : Nat} (hk : k < n) (h : movB (voiceG s t k) l = false) : ¬ voicesOk l s t n := fun H => by rw [H k hk] at h; cases h
set_option maxHeartbeats 1600000 in
theorem c_specCanonOf (A : Option Addr) (c : Nat) (l : List (Int × Int)) (v s t : Int) (w : World) (h : At2 .i16 .i8 w A l) (hw : Wf l) (hn : l.length ≤ 1073741824) (hv : -9223372036854775808 ≤ v ∧ v ≤ 9223372036854775807) (hs : -9223372036854775808 ≤ s ∧ s ≤ 9223372036854775807) (ht : -9223372036854775808 ≤ t ∧ t ≤ 9223372036854775807) :
    Calls Try.prog 25 #[.slice A l.length c, .int .i64 v, .int .i64 s, .int .i64 t] w fun e w' => ∃ u, e = .returned (.tuple #[u, .int .i64 (cCan l v s t)]) ∧ Own2 .i16 .i8 43 w' w.heap.size u (rCan l v s t) ∧ Below w.heap.size w w' := by
  have hu := Try.underlying43
  rcases hok : okT l with _ | _
  · have HC := Lib.hid (show cCan l v s t = 1 by unfold cCan; rw [hok]; rfl)
    have HR := Lib.hid (show rCan l v s t = [] by unfold rCan; rw [hok]; rfl)
    go_enter Try.func25, Try.ntmps25
    go_wp2_with fail
    refine (c_l01Ok A c l w h hw hn).mono ?_
    rintro e w1 ⟨rfl, b1⟩
    rw [hok]
    go_wp2
    go_ret2
    rw [HR.out, HC.out]
    exact ⟨_, rfl, Own2.lit0 b1.size, balloc b1 _⟩
  · rcases e1 : inB v 1 8 with _ | _
    · have hin : inCan v s t = false := by unfold inCan; rw [e1]; rfl
      have HC := Lib.hid (show cCan l v s t = 2 by unfold cCan; rw [hok, hin]; rfl)
      have HR := Lib.hid (show rCan l v s t = [] by unfold rCan; rw [hok, hin]; rfl)
      clear hin
      go_enter Try.func25, Try.ntmps25
      go_wp2_with fail
      refine (c_l01Ok A c l w h hw hn).mono ?_
      rintro e w1 ⟨rfl, b1⟩
      rw [hok]
      go_wp2_with fail
      refine (c_l00In _ _ _ _).mono ?_
      rintro e w' ⟨rfl, rfl⟩
      rw [e1]
      go_wp2
      go_ret2
      rw [HR.out, HC.out]
      exact ⟨_, rfl, Own2.lit0 b1.size, balloc b1 _⟩
    · rcases e2 : inB s 0 200 with _ | _
      · have hin : inCan v s t = false := by unfold inCan; rw [e1, e2]; rfl
        have HC := Lib.hid (show cCan l v s t = 2 by unfold cCan; rw [hok, hin]; rfl)
        have HR := Lib.hid (show rCan l v s t = [] by unfold rCan; rw [hok, hin]; rfl)
        clear hin
        go_enter Try.func25, Try.ntmps25
        go_wp2_with fail
        refine (c_l01Ok A c l w h hw hn).mono ?_
        rintro e w1 ⟨rfl, b1⟩
        rw [hok]
        go_wp2_with fail
        refine (c_l00In _ _ _ _).mono ?_
        rintro e w' ⟨rfl, rfl⟩
        rw [e1]
        go_wp2_with fail
        refine (c_l00In _ _ _ _).mono ?_
        rintro e w' ⟨rfl, rfl⟩
        rw [e2]
        go_wp2
        go_ret2
        rw [HR.out, HC.out]
        exact ⟨_, rfl, Own2.lit0 b1.size, balloc b1 _⟩
      · rcases e3 : inB t (-48) 48 with _ | _
        · have hin : inCan v s t = false := by unfold inCan; rw [e1, e2, e3]; rfl
          have HC := Lib.hid (show cCan l v s t = 2 by unfold cCan; rw [hok, hin]; rfl)
          have HR := Lib.hid (show rCan l v s t = [] by unfold rCan; rw [hok, hin]; rfl)
          clear hin
          go_enter Try.func25, Try.ntmps25
          go_wp2_with fail
          refine (c_l01Ok A c l w h hw hn).mono ?_
          rintro e w1 ⟨rfl, b1⟩
          rw [hok]
          go_wp2_with fail
          refine (c_l00In _ _ _ _).mono ?_
          rintro e w' ⟨rfl, rfl⟩
          rw [e1]
          go_wp2_with fail
          refine (c_l00In _ _ _ _).mono ?_
          rintro e w' ⟨rfl, rfl⟩
          rw [e2]
          go_wp2_with fail
          refine (c_l00In _ _ _ _).mono ?_
          rintro e w' ⟨rfl, rfl⟩
          rw [e3]
          go_wp2
          go_ret2
          rw [HR.out, HC.out]
          exact ⟨_, rfl, Own2.lit0 b1.size, balloc b1 _⟩
        · have hin : inCan v s t = true := by unfold inCan; rw [e1, e2, e3]; rfl
          have hvb := inB_iff.1 e1
          have hsb := inB_iff.1 e2
          have htb := inB_iff.1 e3
          have hsb2 : -200 ≤ s ∧ s ≤ 200 := by omega
          have htb2 : -200 ≤ t ∧ t ≤ 200 := by omega
          have hll := okT_len hok
          have HC00 : cCan l v s t = (if voicesOk l s t v.toNat then cLim (voicesL l s t v.toNat) else 3) := by unfold cCan; rw [hok, hin]; rfl
          have HR00 : rCan l v s t = (if voicesOk l s t v.toNat then rLim (voicesL l s t v.toNat) else []) := by unfold rCan; rw [hok, hin]; rfl
          obtain ⟨n, hnv⟩ : ∃ n : Nat, v = (n : Int) := ⟨v.toNat, by omega⟩
          have hvn : v.toNat = n := by omega
          subst hnv
          rw [hvn] at HC00 HR00
          have HC0 := Lib.hid HC00
          have HR0 := Lib.hid HR00
          clear HC00 HR00 hin hvn
          go_enter Try.func25, Try.ntmps25
          go_wp2_with fail
          refine (c_l01Ok A c l w h hw hn).mono ?_
          rintro e w1 ⟨rfl, b1⟩
          rw [hok]
          go_wp2_with fail
          refine (c_l00In _ _ _ _).mono ?_
          rintro e w' ⟨rfl, rfl⟩
          rw [e1]
          go_wp2_with fail
          refine (c_l00In _ _ _ _).mono ?_
          rintro e w' ⟨rfl, rfl⟩
          rw [e2]
          go_wp2_with fail
          refine (c_l00In _ _ _ _).mono ?_
          rintro e w' ⟨rfl, rfl⟩
          rw [e3]
          go_wp2
          go_loopw [10, 11] (fun x i w' => ∃ (k : Nat) (A' : Option Addr) (c' : Nat), i = .int .i64 (k : Int) ∧ x = .slice A' (voicesL l s t k).length c' ∧ k ≤ n ∧ voicesOk l s t k ∧ Own2 .i16 .i8 43 w' w.heap.size x (voicesL l s t k) ∧ Below w.heap.size w w') (fun _ i _ => n - (intOf i).toNat)
          case atStart => exact ⟨0, _, _, rfl, rfl, by omega, fun _ h => absurd h (by omega), Own2.lit0 b1.size, balloc b1 _⟩
          case round =>
            obtain ⟨k, A1, c1, rfl, rfl, hk, hz, hown, hb⟩ := hrel
            have HZ := Lib.hid hz
            have HO := Lib.hid hown
            clear hown hz
            by_cases hlt : k < n
            · have m1 := mul_bd8 (k := k) (by omega) hsb2
              have m2 := mul_bd8 (k := k) (by omega) htb2
              have hvg : voiceG s t k = addG ((k : Int) * s) ((k : Int) * t) := rfl
              have hvl := voicesL_len l s t k
              have hkl : k * l.length ≤ 8 * 120 := Nat.mul_le_mul (by omega) hll
              have hdn : decide ((k : Int) < (n : Int)) = true := decide_eq_true (by omega)
              obtain ⟨ks, hks⟩ : ∃ x, (k : Int) * s = x := ⟨_, rfl⟩
              obtain ⟨kt, hkt⟩ : ∃ x, (k : Int) * t = x := ⟨_, rfl⟩
              rw [hks] at m1 hvg
              rw [hkt] at m2 hvg
              have hw1 : IntKind.i64.wrap ((k : Int) * s) = ks := by rw [hks]; exact IntWalk.i64_in _ (by omega)
              have hw2 : IntKind.i64.wrap ((k : Int) * t) = kt := by rw [hkt]; exact IntWalk.i64_in _ (by omega)
              rcases hB : movB (addG ks kt) l with _ | _
              · have HNO := Lib.hid (voices_no (n := n) hlt (by rw [hvg]; exact hB))
                have HB := Lib.hid hB
                clear hks hkt hB hvg
                go_wp2_with fail
                refine (c_l01Changed A c l ks kt _ (h.below hb) hok (by omega) (by omega)).mono ?_
                rintro e w2 ⟨A2, c2, rfl, o2, b2⟩
                rw [HB.out]
                have B2 := bstep hb b2
                clear o2
                go_wp2
                go_ret2
                rw [HR0.out, HC0.out, if_neg HNO.out, if_neg HNO.out]
                exact ⟨_, rfl, Own2.lit0 B2.size, balloc B2 _⟩
              · have HM := Lib.hid (show movR (addG ks kt) l = l.map (addG ks kt) by unfold movR; rw [hB]; rfl)
                have HV := Lib.hid (show voicesL l s t (k + 1) = voicesL l s t k ++ l.map (addG ks kt) by rw [voicesL, hvg])
                have HOK := Lib.hid (show voicesOk l s t (k + 1) from fun j hj => by
                  by_cases e : j = k
                  · subst e; rw [hvg]; exact hB
                  · exact HZ.out j (by omega))
                have HB := Lib.hid hB
                have hlm : (l.map (addG ks kt)).length = l.length := by rw [List.length_map]
                clear hks hkt hB hvg
                go_wp2_with fail
                refine (c_l01Changed A c l ks kt _ (h.below hb) hok (by omega) (by omega)).mono ?_
                rintro e w2 ⟨A2, c2, rfl, o2, b2⟩
                rw [HB.out, HM.out]
                rw [HM.out] at o2
                have B2 := bstep hb b2
                have hO2 := o2.at_
                have hown2 := HO.out.below b2
                obtain ⟨M, hM⟩ : ∃ M, l.map (addG ks kt) = M := ⟨_, rfl⟩
                obtain ⟨VL, hVL⟩ : ∃ M, voicesL l s t k = M := ⟨_, rfl⟩
                rw [hM] at HV hO2 hlm ⊢
                rw [hVL] at HV hown2 hvl ⊢
                clear hM o2 HO hVL
                have hlen2 : VL.length + M.length ≤ 1073741824 := by omega
                have hbs := B2.size
                clear hlm hvl
                go_wp2_with (at_builtin; refine append_pairsU rfl (.tmp 53) (.tmp 54) 24 25 rfl 43 43 .i16 .i8 4 Try.underlying24 Try.underlying25 info_Note (by decide) w.heap.size _ _ rfl hown2 _ _ M rfl hO2 hlen2 hbs ?_; intro A3 c3 w3 ho3 hg3)
                have B4 := bgrown B2 hg3 (fun j hj => hown2.low hj)
                go_roundw
                case rel => exact ⟨k + 1, A3, c3, by go_num, by rw [HV.out, List.length_append], by omega, HOK.out, by rw [HV.out]; rw [List.length_append] at ho3; exact ho3, B4⟩
                case measure => simp [intOf]; omega
            · obtain rfl : k = n := by omega
              have hvl := voicesL_len l s t k
              have hkl : k * l.length ≤ 8 * 120 := Nat.mul_le_mul (by omega) hll
              rw [if_pos HZ.out] at HC0 HR0
              have hC1 : cCan l (k : Int) s t = (if (sortU (voicesL l s t k)).length ≤ 120 then 0 else 3) := HC0.out
              have hR1 : rCan l (k : Int) s t = (if (sortU (voicesL l s t k)).length ≤ 120 then sortU (voicesL l s t k) else []) := HR0.out
              clear HC0 HR0
              have hdn : decide ((k : Int) < (k : Int)) = false := decide_eq_false (by omega)
              obtain ⟨VL, hVL⟩ : ∃ M, voicesL l s t k = M := ⟨_, rfl⟩
              rw [hVL] at HO hvl hC1 hR1 ⊢
              have hvb : VL.length ≤ 536870912 := by omega
              clear hVL HZ hvl hkl
              rcases hq : decide ((sortU VL).length ≤ 120) with _ | _
              all_goals
                have HC := Lib.hid hC1
                have HR := Lib.hid hR1
                clear hC1 hR1
                go_wp2_with fail
                refine (c_l01Sorted A1 c1 VL _ HO.out.at_ hvb).mono ?_
                rintro e w5 ⟨g5, c5, rfl, o5, b5⟩
                have B5 := bstep hb b5
                have O5 := Lib.hid (o5.base_le hb.size)
                clear o5
                obtain ⟨S, hS⟩ : ∃ S, sortU VL = S := ⟨_, rfl⟩
                rw [hS] at hq HC HR O5 ⊢
                clear hS
              · have hq2 := of_decide_eq_false hq
                have hgt : decide (120 < (S.length : Int)) = true := decide_eq_true (by omega)
                rw [if_neg hq2] at HC HR
                clear hq
                go_wp2
                go_ret2
                rw [HR.out, HC.out]
                exact ⟨_, rfl, Own2.lit0 B5.size, balloc B5 _⟩
              · have hq2 := of_decide_eq_true hq
                have hgt : decide (120 < (S.length : Int)) = false := decide_eq_false (by omega)
                rw [if_pos hq2] at HC HR
                clear hq
                go_wp2
                go_ret2
                rw [HR.out, HC.out]
                exact ⟨_, rfl, O5.out, B5⟩
set_option maxHeartbeats 1600000 in
theorem c_implCanonOf (A : Option Addr) (c : Nat) (l : List (Int × Int)) (v s t : Int) (w : World) (h : At2 .i16 .i8 w A l) (hw : Wf l) (hn : l.length ≤ 1073741824) (hv : -9223372036854775808 ≤ v ∧ v ≤ 9223372036854775807) (hs : -9223372036854775808 ≤ s ∧ s ≤ 9223372036854775807) (ht : -9223372036854775808 ≤ t ∧ t ≤ 9223372036854775807) :
    Calls Try.prog 24 #[.slice A l.length c, .int .i64 v, .int .i64 s, .int .i64 t] w fun e w' => ∃ u, e = .returned (.tuple #[u, .int .i64 (cCan l v s t)]) ∧ Own2 .i16 .i8 43 w' w.heap.size u (rCan l v s t) ∧ Below w.heap.size w w' := by
  have hu := Try.underlying43
  rcases hok : okT l with _ | _
  · have HC := Lib.hid (show cCan l v s t = 1 by unfold cCan; rw [hok]; rfl)
    have HR := Lib.hid (show rCan l v s t = [] by unfold rCan; rw [hok]; rfl)
    rcases e1 : inB v 1 8 with _ | _
    · skip
      go_enter Try.func24, Try.ntmps24
      go_upto_region 1 with fail
      have H1 := Lib.hid ((Var.new w #[.int .i64 s] 2).below (balloc (Below.refl _ _) (.cells #[.int .i64 t] 2)))
      have H2 := Lib.hid (Var.new (w.alloc (.cells #[.int .i64 s] 2)) #[.int .i64 t] 2)
      have B1 := balloc (balloc (Below.refl _ w) (.cells #[.int .i64 s] 2)) (.cells #[.int .i64 t] 2)
      have hsz : (w.alloc (.cells #[.int .i64 s] 2)).heap.size = w.heap.size + 1 := by simp
      rw [hsz] at H2
      clear hsz
      obtain ⟨b0, hb0⟩ : ∃ b, w.heap.size = b := ⟨_, rfl⟩
      have HB0 := Lib.hid hb0
      rw [hb0] at H1 H2 ⊢
      clear hb0
      obtain ⟨b5, hb5⟩ : ∃ b, b0 + 1 = b := ⟨_, rfl⟩
      rw [hb5] at H2 ⊢
      clear hb5
      obtain ⟨w1, hw1⟩ : ∃ w1, (w.alloc (.cells #[.int .i64 s] 2)).alloc (.cells #[.int .i64 t] 2) = w1 := ⟨_, rfl⟩
      rw [hw1] at H1 H2 B1 ⊢
      clear hw1
      have hce1 := H1.out.cell (i := 0) rfl
      have hce2 := H2.out.cell (i := 0) rfl
      go_wp2_with fail
      refine (c_within _ _ _ _).mono ?_
      rintro e w' ⟨rfl, rfl⟩
      rw [e1]
      go_wp2_with fail
      refine (c_tuneCode_one A c l w1 _ (h.below B1) hw hn).mono ?_
      rintro e w2 ⟨rfl, b2⟩
      rw [hok]
      clear hce1 hce2
      have B2 := bstep B1 b2
      go_wp2_with fail
      refine (c_unless _ _ _).mono ?_
      rintro e w' ⟨rfl, rfl⟩
      go_wp2_with fail
      refine (c_firstOf_two _ _ _ _).mono ?_
      rintro e w3 ⟨rfl, b3⟩
      have B3 := bstep B2 b3
      have HSEP := Lib.hid (And.intro H1.out.lt H2.out.lt)
      have hw13 : w1.heap.size ≤ w3.heap.size := by have := b2.size; have := b3.size; omega
      have hce1 := Lib.hid (((H1.out.below b2).below b3).cell (i := 0) rfl)
      have hce2 := Lib.hid (((H2.out.below b2).below b3).cell (i := 0) rfl)
      
      go_wp2
      go_ret2
      rw [HR.out, HC.out]
      exact ⟨_, rfl, World.ownsRow_nil _ _ _ _, B3⟩
    · rcases e2 : inB s 0 200 with _ | _
      · skip
        go_enter Try.func24, Try.ntmps24
        go_upto_region 1 with fail
        have H1 := Lib.hid ((Var.new w #[.int .i64 s] 2).below (balloc (Below.refl _ _) (.cells #[.int .i64 t] 2)))
        have H2 := Lib.hid (Var.new (w.alloc (.cells #[.int .i64 s] 2)) #[.int .i64 t] 2)
        have B1 := balloc (balloc (Below.refl _ w) (.cells #[.int .i64 s] 2)) (.cells #[.int .i64 t] 2)
        have hsz : (w.alloc (.cells #[.int .i64 s] 2)).heap.size = w.heap.size + 1 := by simp
        rw [hsz] at H2
        clear hsz
        obtain ⟨b0, hb0⟩ : ∃ b, w.heap.size = b := ⟨_, rfl⟩
        have HB0 := Lib.hid hb0
        rw [hb0] at H1 H2 ⊢
        clear hb0
        obtain ⟨b5, hb5⟩ : ∃ b, b0 + 1 = b := ⟨_, rfl⟩
        rw [hb5] at H2 ⊢
        clear hb5
        obtain ⟨w1, hw1⟩ : ∃ w1, (w.alloc (.cells #[.int .i64 s] 2)).alloc (.cells #[.int .i64 t] 2) = w1 := ⟨_, rfl⟩
        rw [hw1] at H1 H2 B1 ⊢
        clear hw1
        have hce1 := H1.out.cell (i := 0) rfl
        have hce2 := H2.out.cell (i := 0) rfl
        go_wp2_with fail
        refine (c_within _ _ _ _).mono ?_
        rintro e w' ⟨rfl, rfl⟩
        rw [e1]
        go_wp2_with fail
        refine (c_within _ _ _ _).mono ?_
        rintro e w' ⟨rfl, rfl⟩
        rw [e2]
        go_wp2_with fail
        refine (c_tuneCode_one A c l w1 _ (h.below B1) hw hn).mono ?_
        rintro e w2 ⟨rfl, b2⟩
        rw [hok]
        clear hce1 hce2
        have B2 := bstep B1 b2
        go_wp2_with fail
        refine (c_unless _ _ _).mono ?_
        rintro e w' ⟨rfl, rfl⟩
        go_wp2_with fail
        refine (c_firstOf_two _ _ _ _).mono ?_
        rintro e w3 ⟨rfl, b3⟩
        have B3 := bstep B2 b3
        have HSEP := Lib.hid (And.intro H1.out.lt H2.out.lt)
        have hw13 : w1.heap.size ≤ w3.heap.size := by have := b2.size; have := b3.size; omega
        have hce1 := Lib.hid (((H1.out.below b2).below b3).cell (i := 0) rfl)
        have hce2 := Lib.hid (((H2.out.below b2).below b3).cell (i := 0) rfl)
        
        go_wp2
        go_ret2
        rw [HR.out, HC.out]
        exact ⟨_, rfl, World.ownsRow_nil _ _ _ _, B3⟩
      · rcases e3 : inB t (-48) 48 with _ | _
        all_goals
          go_enter Try.func24, Try.ntmps24
          go_upto_region 1 with fail
          have H1 := Lib.hid ((Var.new w #[.int .i64 s] 2).below (balloc (Below.refl _ _) (.cells #[.int .i64 t] 2)))
          have H2 := Lib.hid (Var.new (w.alloc (.cells #[.int .i64 s] 2)) #[.int .i64 t] 2)
          have B1 := balloc (balloc (Below.refl _ w) (.cells #[.int .i64 s] 2)) (.cells #[.int .i64 t] 2)
          have hsz : (w.alloc (.cells #[.int .i64 s] 2)).heap.size = w.heap.size + 1 := by simp
          rw [hsz] at H2
          clear hsz
          obtain ⟨b0, hb0⟩ : ∃ b, w.heap.size = b := ⟨_, rfl⟩
          have HB0 := Lib.hid hb0
          rw [hb0] at H1 H2 ⊢
          clear hb0
          obtain ⟨b5, hb5⟩ : ∃ b, b0 + 1 = b := ⟨_, rfl⟩
          rw [hb5] at H2 ⊢
          clear hb5
          obtain ⟨w1, hw1⟩ : ∃ w1, (w.alloc (.cells #[.int .i64 s] 2)).alloc (.cells #[.int .i64 t] 2) = w1 := ⟨_, rfl⟩
          rw [hw1] at H1 H2 B1 ⊢
          clear hw1
          have hce1 := H1.out.cell (i := 0) rfl
          have hce2 := H2.out.cell (i := 0) rfl
          go_wp2_with fail
          refine (c_within _ _ _ _).mono ?_
          rintro e w' ⟨rfl, rfl⟩
          rw [e1]
          go_wp2_with fail
          refine (c_within _ _ _ _).mono ?_
          rintro e w' ⟨rfl, rfl⟩
          rw [e2]
          go_wp2_with fail
          refine (c_within _ _ _ _).mono ?_
          rintro e w' ⟨rfl, rfl⟩
          rw [e3]
          go_wp2_with fail
          refine (c_tuneCode_one A c l w1 _ (h.below B1) hw hn).mono ?_
          rintro e w2 ⟨rfl, b2⟩
          rw [hok]
          clear hce1 hce2
          have B2 := bstep B1 b2
          go_wp2_with fail
          refine (c_unless _ _ _).mono ?_
          rintro e w' ⟨rfl, rfl⟩
          go_wp2_with fail
          refine (c_firstOf_two _ _ _ _).mono ?_
          rintro e w3 ⟨rfl, b3⟩
          have B3 := bstep B2 b3
          have HSEP := Lib.hid (And.intro H1.out.lt H2.out.lt)
          have hw13 : w1.heap.size ≤ w3.heap.size := by have := b2.size; have := b3.size; omega
          have hce1 := Lib.hid (((H1.out.below b2).below b3).cell (i := 0) rfl)
          have hce2 := Lib.hid (((H2.out.below b2).below b3).cell (i := 0) rfl)
          
          go_wp2
          go_ret2
          rw [HR.out, HC.out]
          exact ⟨_, rfl, World.ownsRow_nil _ _ _ _, B3⟩
  · rcases e1 : inB v 1 8 with _ | _
    · have hin : inCan v s t = false := by unfold inCan; rw [e1]; rfl
      have HC := Lib.hid (show cCan l v s t = 2 by unfold cCan; rw [hok, hin]; rfl)
      have HR := Lib.hid (show rCan l v s t = [] by unfold rCan; rw [hok, hin]; rfl)
      clear hin
      go_enter Try.func24, Try.ntmps24
      go_upto_region 1 with fail
      have H1 := Lib.hid ((Var.new w #[.int .i64 s] 2).below (balloc (Below.refl _ _) (.cells #[.int .i64 t] 2)))
      have H2 := Lib.hid (Var.new (w.alloc (.cells #[.int .i64 s] 2)) #[.int .i64 t] 2)
      have B1 := balloc (balloc (Below.refl _ w) (.cells #[.int .i64 s] 2)) (.cells #[.int .i64 t] 2)
      have hsz : (w.alloc (.cells #[.int .i64 s] 2)).heap.size = w.heap.size + 1 := by simp
      rw [hsz] at H2
      clear hsz
      obtain ⟨b0, hb0⟩ : ∃ b, w.heap.size = b := ⟨_, rfl⟩
      have HB0 := Lib.hid hb0
      rw [hb0] at H1 H2 ⊢
      clear hb0
      obtain ⟨b5, hb5⟩ : ∃ b, b0 + 1 = b := ⟨_, rfl⟩
      rw [hb5] at H2 ⊢
      clear hb5
      obtain ⟨w1, hw1⟩ : ∃ w1, (w.alloc (.cells #[.int .i64 s] 2)).alloc (.cells #[.int .i64 t] 2) = w1 := ⟨_, rfl⟩
      rw [hw1] at H1 H2 B1 ⊢
      clear hw1
      have hce1 := H1.out.cell (i := 0) rfl
      have hce2 := H2.out.cell (i := 0) rfl
      go_wp2_with fail
      refine (c_within _ _ _ _).mono ?_
      rintro e w' ⟨rfl, rfl⟩
      rw [e1]
      go_wp2_with fail
      refine (c_tuneCode_one A c l w1 _ (h.below B1) hw hn).mono ?_
      rintro e w2 ⟨rfl, b2⟩
      rw [hok]
      clear hce1 hce2
      have B2 := bstep B1 b2
      go_wp2_with fail
      refine (c_unless _ _ _).mono ?_
      rintro e w' ⟨rfl, rfl⟩
      go_wp2_with fail
      refine (c_firstOf_two _ _ _ _).mono ?_
      rintro e w3 ⟨rfl, b3⟩
      have B3 := bstep B2 b3
      have HSEP := Lib.hid (And.intro H1.out.lt H2.out.lt)
      have hw13 : w1.heap.size ≤ w3.heap.size := by have := b2.size; have := b3.size; omega
      have hce1 := Lib.hid (((H1.out.below b2).below b3).cell (i := 0) rfl)
      have hce2 := Lib.hid (((H2.out.below b2).below b3).cell (i := 0) rfl)
      go_wp2
      go_ret2
      rw [HR.out, HC.out]
      exact ⟨_, rfl, World.ownsRow_nil _ _ _ _, B3⟩
    · rcases e2 : inB s 0 200 with _ | _
      · have hin : inCan v s t = false := by unfold inCan; rw [e1, e2]; rfl
        have HC := Lib.hid (show cCan l v s t = 2 by unfold cCan; rw [hok, hin]; rfl)
        have HR := Lib.hid (show rCan l v s t = [] by unfold rCan; rw [hok, hin]; rfl)
        clear hin
        go_enter Try.func24, Try.ntmps24
        go_upto_region 1 with fail
        have H1 := Lib.hid ((Var.new w #[.int .i64 s] 2).below (balloc (Below.refl _ _) (.cells #[.int .i64 t] 2)))
        have H2 := Lib.hid (Var.new (w.alloc (.cells #[.int .i64 s] 2)) #[.int .i64 t] 2)
        have B1 := balloc (balloc (Below.refl _ w) (.cells #[.int .i64 s] 2)) (.cells #[.int .i64 t] 2)
        have hsz : (w.alloc (.cells #[.int .i64 s] 2)).heap.size = w.heap.size + 1 := by simp
        rw [hsz] at H2
        clear hsz
        obtain ⟨b0, hb0⟩ : ∃ b, w.heap.size = b := ⟨_, rfl⟩
        have HB0 := Lib.hid hb0
        rw [hb0] at H1 H2 ⊢
        clear hb0
        obtain ⟨b5, hb5⟩ : ∃ b, b0 + 1 = b := ⟨_, rfl⟩
        rw [hb5] at H2 ⊢
        clear hb5
        obtain ⟨w1, hw1⟩ : ∃ w1, (w.alloc (.cells #[.int .i64 s] 2)).alloc (.cells #[.int .i64 t] 2) = w1 := ⟨_, rfl⟩
        rw [hw1] at H1 H2 B1 ⊢
        clear hw1
        have hce1 := H1.out.cell (i := 0) rfl
        have hce2 := H2.out.cell (i := 0) rfl
        go_wp2_with fail
        refine (c_within _ _ _ _).mono ?_
        rintro e w' ⟨rfl, rfl⟩
        rw [e1]
        go_wp2_with fail
        refine (c_within _ _ _ _).mono ?_
        rintro e w' ⟨rfl, rfl⟩
        rw [e2]
        go_wp2_with fail
        refine (c_tuneCode_one A c l w1 _ (h.below B1) hw hn).mono ?_
        rintro e w2 ⟨rfl, b2⟩
        rw [hok]
        clear hce1 hce2
        have B2 := bstep B1 b2
        go_wp2_with fail
        refine (c_unless _ _ _).mono ?_
        rintro e w' ⟨rfl, rfl⟩
        go_wp2_with fail
        refine (c_firstOf_two _ _ _ _).mono ?_
        rintro e w3 ⟨rfl, b3⟩
        have B3 := bstep B2 b3
        have HSEP := Lib.hid (And.intro H1.out.lt H2.out.lt)
        have hw13 : w1.heap.size ≤ w3.heap.size := by have := b2.size; have := b3.size; omega
        have hce1 := Lib.hid (((H1.out.below b2).below b3).cell (i := 0) rfl)
        have hce2 := Lib.hid (((H2.out.below b2).below b3).cell (i := 0) rfl)
        go_wp2
        go_ret2
        rw [HR.out, HC.out]
        exact ⟨_, rfl, World.ownsRow_nil _ _ _ _, B3⟩
      · rcases e3 : inB t (-48) 48 with _ | _
        · have hin : inCan v s t = false := by unfold inCan; rw [e1, e2, e3]; rfl
          have HC := Lib.hid (show cCan l v s t = 2 by unfold cCan; rw [hok, hin]; rfl)
          have HR := Lib.hid (show rCan l v s t = [] by unfold rCan; rw [hok, hin]; rfl)
          clear hin
          go_enter Try.func24, Try.ntmps24
          go_upto_region 1 with fail
          have H1 := Lib.hid ((Var.new w #[.int .i64 s] 2).below (balloc (Below.refl _ _) (.cells #[.int .i64 t] 2)))
          have H2 := Lib.hid (Var.new (w.alloc (.cells #[.int .i64 s] 2)) #[.int .i64 t] 2)
          have B1 := balloc (balloc (Below.refl _ w) (.cells #[.int .i64 s] 2)) (.cells #[.int .i64 t] 2)
          have hsz : (w.alloc (.cells #[.int .i64 s] 2)).heap.size = w.heap.size + 1 := by simp
          rw [hsz] at H2
          clear hsz
          obtain ⟨b0, hb0⟩ : ∃ b, w.heap.size = b := ⟨_, rfl⟩
          have HB0 := Lib.hid hb0
          rw [hb0] at H1 H2 ⊢
          clear hb0
          obtain ⟨b5, hb5⟩ : ∃ b, b0 + 1 = b := ⟨_, rfl⟩
          rw [hb5] at H2 ⊢
          clear hb5
          obtain ⟨w1, hw1⟩ : ∃ w1, (w.alloc (.cells #[.int .i64 s] 2)).alloc (.cells #[.int .i64 t] 2) = w1 := ⟨_, rfl⟩
          rw [hw1] at H1 H2 B1 ⊢
          clear hw1
          have hce1 := H1.out.cell (i := 0) rfl
          have hce2 := H2.out.cell (i := 0) rfl
          go_wp2_with fail
          refine (c_within _ _ _ _).mono ?_
          rintro e w' ⟨rfl, rfl⟩
          rw [e1]
          go_wp2_with fail
          refine (c_within _ _ _ _).mono ?_
          rintro e w' ⟨rfl, rfl⟩
          rw [e2]
          go_wp2_with fail
          refine (c_within _ _ _ _).mono ?_
          rintro e w' ⟨rfl, rfl⟩
          rw [e3]
          go_wp2_with fail
          refine (c_tuneCode_one A c l w1 _ (h.below B1) hw hn).mono ?_
          rintro e w2 ⟨rfl, b2⟩
          rw [hok]
          clear hce1 hce2
          have B2 := bstep B1 b2
          go_wp2_with fail
          refine (c_unless _ _ _).mono ?_
          rintro e w' ⟨rfl, rfl⟩
          go_wp2_with fail
          refine (c_firstOf_two _ _ _ _).mono ?_
          rintro e w3 ⟨rfl, b3⟩
          have B3 := bstep B2 b3
          have HSEP := Lib.hid (And.intro H1.out.lt H2.out.lt)
          have hw13 : w1.heap.size ≤ w3.heap.size := by have := b2.size; have := b3.size; omega
          have hce1 := Lib.hid (((H1.out.below b2).below b3).cell (i := 0) rfl)
          have hce2 := Lib.hid (((H2.out.below b2).below b3).cell (i := 0) rfl)
          go_wp2
          go_ret2
          rw [HR.out, HC.out]
          exact ⟨_, rfl, World.ownsRow_nil _ _ _ _, B3⟩
        · have hin : inCan v s t = true := by unfold inCan; rw [e1, e2, e3]; rfl
          have hvb := inB_iff.1 e1
          have hsb := inB_iff.1 e2
          have htb := inB_iff.1 e3
          have hsb2 : -200 ≤ s ∧ s ≤ 200 := by omega
          have htb2 : -200 ≤ t ∧ t ≤ 200 := by omega
          have hll := okT_len hok
          have HC00 : cCan l v s t = (if voicesOk l s t v.toNat then cLim (voicesL l s t v.toNat) else 3) := by unfold cCan; rw [hok, hin]; rfl
          have HR00 : rCan l v s t = (if voicesOk l s t v.toNat then rLim (voicesL l s t v.toNat) else []) := by unfold rCan; rw [hok, hin]; rfl
          obtain ⟨n, hnv⟩ : ∃ n : Nat, v = (n : Int) := ⟨v.toNat, by omega⟩
          have hvn : v.toNat = n := by omega
          subst hnv
          rw [hvn] at HC00 HR00
          have HC0 := Lib.hid HC00
          have HR0 := Lib.hid HR00
          clear HC00 HR00 hin hvn
          go_enter Try.func24, Try.ntmps24
          go_upto_region 1 with fail
          have H1 := Lib.hid ((Var.new w #[.int .i64 s] 2).below (balloc (Below.refl _ _) (.cells #[.int .i64 t] 2)))
          have H2 := Lib.hid (Var.new (w.alloc (.cells #[.int .i64 s] 2)) #[.int .i64 t] 2)
          have B1 := balloc (balloc (Below.refl _ w) (.cells #[.int .i64 s] 2)) (.cells #[.int .i64 t] 2)
          have hsz : (w.alloc (.cells #[.int .i64 s] 2)).heap.size = w.heap.size + 1 := by simp
          rw [hsz] at H2
          clear hsz
          obtain ⟨b0, hb0⟩ : ∃ b, w.heap.size = b := ⟨_, rfl⟩
          have HB0 := Lib.hid hb0
          rw [hb0] at H1 H2 ⊢
          clear hb0
          obtain ⟨b5, hb5⟩ : ∃ b, b0 + 1 = b := ⟨_, rfl⟩
          rw [hb5] at H2 ⊢
          clear hb5
          obtain ⟨w1, hw1⟩ : ∃ w1, (w.alloc (.cells #[.int .i64 s] 2)).alloc (.cells #[.int .i64 t] 2) = w1 := ⟨_, rfl⟩
          rw [hw1] at H1 H2 B1 ⊢
          clear hw1
          have hce1 := H1.out.cell (i := 0) rfl
          have hce2 := H2.out.cell (i := 0) rfl
          go_wp2_with fail
          refine (c_within _ _ _ _).mono ?_
          rintro e w' ⟨rfl, rfl⟩
          rw [e1]
          go_wp2_with fail
          refine (c_within _ _ _ _).mono ?_
          rintro e w' ⟨rfl, rfl⟩
          rw [e2]
          go_wp2_with fail
          refine (c_within _ _ _ _).mono ?_
          rintro e w' ⟨rfl, rfl⟩
          rw [e3]
          go_wp2_with fail
          refine (c_tuneCode_one A c l w1 _ (h.below B1) hw hn).mono ?_
          rintro e w2 ⟨rfl, b2⟩
          rw [hok]
          clear hce1 hce2
          have B2 := bstep B1 b2
          go_wp2_with fail
          refine (c_unless _ _ _).mono ?_
          rintro e w' ⟨rfl, rfl⟩
          go_wp2_with fail
          refine (c_firstOf_two _ _ _ _).mono ?_
          rintro e w3 ⟨rfl, b3⟩
          have B3 := bstep B2 b3
          have HSEP := Lib.hid (And.intro H1.out.lt H2.out.lt)
          have hw13 : w1.heap.size ≤ w3.heap.size := by have := b2.size; have := b3.size; omega
          have hce1 := Lib.hid (((H1.out.below b2).below b3).cell (i := 0) rfl)
          have hce2 := Lib.hid (((H2.out.below b2).below b3).cell (i := 0) rfl)
          go_wp2
          go_loopw [12, 38] (fun x i w' => ∃ (k : Nat) (A' : Option Addr) (c' : Nat), i = .int .i64 (k : Int) ∧ x = .slice A' (voicesL l s t k).length c' ∧ k ≤ n ∧ voicesOk l s t k ∧ Own2 .i16 .i8 43 w' w1.heap.size x (voicesL l s t k) ∧ Below w.heap.size w w' ∧ w1.heap.size ≤ w'.heap.size ∧ w'.cell? ⟨b0, 0, none⟩ = some (.int .i64 s) ∧ w'.cell? ⟨b5, 0, none⟩ = some (.int .i64 t)) (fun _ i _ => n - (intOf i).toNat)
          case atStart => exact ⟨0, _, _, rfl, rfl, by omega, fun _ h => absurd h (by omega), Own2.lit0 hw13, balloc B3 _, by have := (balloc (Below.refl _ w3) (.cells #[] 43)).size; omega, keepc hce1.out (balloc (Below.refl _ _) _), keepc hce2.out (balloc (Below.refl _ _) _)⟩
          case round =>
            obtain ⟨k, A1, c1, rfl, rfl, hk, hz, hown, hb, hws, hcs, hct⟩ := hrel
            have HZ := Lib.hid hz
            have HO := Lib.hid hown
            have HCS := Lib.hid hcs
            have HCT := Lib.hid hct
            clear hown hz hcs hct
            by_cases hlt : k < n
            · have hdn : decide ((k : Int) < (n : Int)) = true := decide_eq_true (by omega)
              have m1 := mul_bd8 (k := k) (by omega) hsb2
              have m2 := mul_bd8 (k := k) (by omega) htb2
              have hvg : voiceG s t k = addG ((k : Int) * s) ((k : Int) * t) := rfl
              have hvl := voicesL_len l s t k
              have hkl : k * l.length ≤ 8 * 120 := Nat.mul_le_mul (by omega) hll
              obtain ⟨ks, hks⟩ : ∃ x, (k : Int) * s = x := ⟨_, rfl⟩
              obtain ⟨kt, hkt⟩ : ∃ x, (k : Int) * t = x := ⟨_, rfl⟩
              have M1 := Lib.hid m1
              have M2 := Lib.hid m2
              rw [hks] at hvg
              rw [hkt] at hvg
              have HKS := Lib.hid hks
              have HKT := Lib.hid hkt
              have Bx := balloc (Below.refl _ wr) (.cells #[.int .i64 (k : Int)] 2)
              have Bk := balloc hb (.cells #[.int .i64 (k : Int)] 2)
              have hcq := Lib.hid (cell_new wr #[.int .i64 (k : Int)] 2 (i := 0) rfl)
              rcases hB : movB (addG ks kt) l with _ | _
              · have HNO := Lib.hid (voices_no (n := n) hlt (by rw [hvg]; exact hB))
                have HB := Lib.hid hB
                clear hks hkt hB hvg m1 m2
                go_wp2_with fail
                refine (c_movedCan wr.heap.size b0 b5 (k : Int) s t A c l _ (h.below Bk) hok ⟨hcq.out, keepc HCS.out Bx, keepc HCT.out Bx⟩ ⟨by omega, by omega, by omega, by omega, by omega, by omega, by have := M1.out; omega, by have := M2.out; omega⟩).mono ?_
                rintro e w4 ⟨A2, c2, rfl, o2, b4⟩
                rw [HKS.out, HKT.out, HB.out]
                have B4 := bstep Bk b4
                clear o2
                go_wp2
                go_ret2
                rw [HR0.out, HC0.out, if_neg HNO.out, if_neg HNO.out]
                exact ⟨_, rfl, World.ownsRow_nil _ _ _ _, B4⟩
              · have HM := Lib.hid (show movR (addG ks kt) l = l.map (addG ks kt) by unfold movR; rw [hB]; rfl)
                have HV := Lib.hid (show voicesL l s t (k + 1) = voicesL l s t k ++ l.map (addG ks kt) by rw [voicesL, hvg])
                have HOK := Lib.hid (show voicesOk l s t (k + 1) from fun j hj => by
                  by_cases e : j = k
                  · subst e; rw [hvg]; exact hB
                  · exact HZ.out j (by omega))
                have HB := Lib.hid hB
                have hlm : (l.map (addG ks kt)).length = l.length := by rw [List.length_map]
                clear hks hkt hB hvg m1 m2
                go_wp2_with fail
                refine (c_movedCan wr.heap.size b0 b5 (k : Int) s t A c l _ (h.below Bk) hok ⟨hcq.out, keepc HCS.out Bx, keepc HCT.out Bx⟩ ⟨by omega, by omega, by omega, by omega, by omega, by omega, by have := M1.out; omega, by have := M2.out; omega⟩).mono ?_
                rintro e w4 ⟨A2, c2, rfl, o2, b4⟩
                rw [HKS.out, HKT.out, HB.out, HM.out]
                rw [HKS.out, HKT.out, HM.out] at o2
                have B4 := bstep Bk b4
                have hO2 := o2.at_
                have hown2 := (HO.out.below Bx).below b4
                have HCS2 := Lib.hid (keepc (keepc HCS.out Bx) b4)
                have HCT2 := Lib.hid (keepc (keepc HCT.out Bx) b4)
                have hsep := HSEP
                obtain ⟨M, hM⟩ : ∃ M, l.map (addG ks kt) = M := ⟨_, rfl⟩
                obtain ⟨VL, hVL⟩ : ∃ M, voicesL l s t k = M := ⟨_, rfl⟩
                rw [hM] at HV hO2 hlm ⊢
                rw [hVL] at HV hown2 hvl ⊢
                clear hM o2 HO hVL
                have hlen2 : VL.length + M.length ≤ 1073741824 := by omega
                have hbs : w1.heap.size ≤ w4.heap.size := by have := Bx.size; have := b4.size; omega
                clear hlm hvl
                go_wp2_with (at_builtin; refine append_pairsU rfl (.tmp 49) (.tmp 50) 24 24 rfl 43 43 .i16 .i8 4 Try.underlying24 Try.underlying24 info_Note (by decide) w1.heap.size _ _ rfl hown2 _ _ M rfl hO2 hlen2 hbs ?_; intro A3 c3 w5 ho3 hg3)
                have B5 := bgrown B4 hg3 (fun j hj => by have := hown2.low hj; have := B1.size; omega)
                go_roundw
                case rel => exact ⟨k + 1, A3, c3, by go_num, by rw [HV.out, List.length_append], by omega, HOK.out, by rw [HV.out]; rw [List.length_append] at ho3; exact ho3, B5, by have := hg3.size; omega, hg3.cell HCS2.out (fun e => by have := hown2.low e.symm; obtain ⟨z1, z2⟩ := hsep.out; simp at *; omega), hg3.cell HCT2.out (fun e => by have := hown2.low e.symm; obtain ⟨z1, z2⟩ := hsep.out; simp at *; omega)⟩
                case measure => simp [intOf]; omega
            · obtain rfl : k = n := by omega
              have hvl := voicesL_len l s t k
              have hkl : k * l.length ≤ 8 * 120 := Nat.mul_le_mul (by omega) hll
              rw [if_pos HZ.out] at HC0 HR0
              have hC1 : cCan l (k : Int) s t = (if (sortU (voicesL l s t k)).length ≤ 120 then 0 else 3) := HC0.out
              have hR1 : rCan l (k : Int) s t = (if (sortU (voicesL l s t k)).length ≤ 120 then sortU (voicesL l s t k) else []) := HR0.out
              have hokV := voicesL_okN HZ.out
              clear HC0 HR0
              have hdn : decide ((k : Int) < (k : Int)) = false := decide_eq_false (by omega)
              obtain ⟨VL, hVL⟩ : ∃ M, voicesL l s t k = M := ⟨_, rfl⟩
              rw [hVL] at HO hvl hC1 hR1 hokV ⊢
              have hvb : VL.length ≤ 1073741824 := by omega
              have hLM := okT_sortU hokV
              have hwf := wf_sortU (wf_of_okN hokV)
              have hs0 := sortU_len VL
              clear hVL HZ hvl hkl hokV
              rcases hq : decide ((sortU VL).length ≤ 120) with _ | _
              all_goals
                rw [hq] at hLM
                have HC := Lib.hid hC1
                have HR := Lib.hid hR1
                have HWF := Lib.hid hwf
                have HOK := Lib.hid hLM
                have HQ := Lib.hid hq
                clear hC1 hR1 hwf hLM hq
                go_wp2_with fail
                refine (c_madeN A1 c1 VL _ HO.out.at_ hvb).mono ?_
                rintro e w4 ⟨A3, c3, rfl, o3, b4⟩
                have B4 := bstep hb b4
                have O3 := Lib.hid (o3.base_le (base' := w.heap.size) hb.size)
                clear o3
                obtain ⟨S, hS⟩ : ∃ S, sortU VL = S := ⟨_, rfl⟩
                rw [hS] at HC HR O3 hs0 HWF HOK HQ ⊢
                clear hS
                go_wp2_with fail
                refine (c_checked A3 c3 S 3 _ O3.out.at_ HWF.out (by omega)).mono ?_
                rintro e w5 ⟨rfl, b5⟩
                rw [HOK.out]
                go_wp2
                go_ret2
              · have hq2 := of_decide_eq_false HQ.out
                rw [HR.out, HC.out, if_neg hq2, if_neg hq2]
                exact ⟨_, rfl, World.ownsRow_nil _ _ _ _, bstep B4 b5⟩
              · have hq2 := of_decide_eq_true HQ.out
                rw [HR.out, HC.out, if_pos hq2, if_pos hq2]
                exact ⟨_, rfl, O3.out.below b5, bstep B4 b5⟩

end Go.Proofs.Ytmdocjiljjbijaa
