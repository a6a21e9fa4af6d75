/-
  The statement FnLikenessSaid: whatever bytes are given, the law's call returns true, and the bytes read as they did: what is said of transposed tunes, least gaps, best shifts, canons and joined tunes holds. Conditions: none beyond the statement's own.
-/
import Derived.Test.YtmdocjiljjbijaaRows
import Derived.Test.YtmdocjiljjbijaaOpen
import Derived.Test.YtmdocjiljjbijaaWalkSR
import Derived.Test.YtmdocjiljjbijaaWalkP
import Derived.Test.YtmdocjiljjbijaaWalkLG
import Derived.Test.YtmdocjiljjbijaaWalkI
import Derived.Test.YtmdocjiljjbijaaWalkJ
import Derived.Test.YtmdocjiljjbijaaWalkZ
import Derived.Test.YtmdocjiljjbijaaWalkX
import Derived.Test.YtmdocjiljjbijaaWalkN
import Derived.Test.YtmdocjiljjbijaaDataN
import Derived.ChangeSlices
import Derived.Deep.CutRange
namespace Go.Proofs.Ytmdocjiljjbijaa
open Go.RowKit Go.ChangeShapes Go.WideShapes Go.Deep
set_option linter.unusedVariables false
set_option linter.unusedSimpArgs false
set_option maxRecDepth 100000

theorem tfGo_spec (fit : Int → Bool) (n : Nat) : ∀ k : Nat, (tfGo fit k n = (0, 6) ∧ ∀ j : Nat, k ≤ j → j < k + n → fit (j : Int) = false ∧ fit (-(j : Int)) = false) ∨
    ∃ j : Nat, k ≤ j ∧ j < k + n ∧ (∀ i : Nat, k ≤ i → i < j → fit (i : Int) = false ∧ fit (-(i : Int)) = false) ∧ ((tfGo fit k n = ((j : Int), 0) ∧ fit (j : Int) = true) ∨ (tfGo fit k n = (-(j : Int), 0) ∧ fit (j : Int) = false ∧ fit (-(j : Int)) = true)) := by
  induction n with
  | zero => intro k; exact .inl ⟨rfl, fun j h1 h2 => absurd h1 (by omega)⟩
  | succ n ih =>
    intro k
    rcases h1 : fit (k : Int) with _ | _
    · rcases h2 : fit (-(k : Int)) with _ | _
      · have hd : tfGo fit k (n + 1) = tfGo fit (k + 1) n := by rw [tfGo, h1, h2]; rfl
        rw [hd]
        rcases ih (k + 1) with ⟨a1, a2⟩ | ⟨j, a1, a2, a3, a4⟩
        · refine .inl ⟨a1, fun j hj1 hj2 => ?_⟩
          by_cases e : j = k
          · subst e; exact ⟨h1, h2⟩
          · exact a2 j (by omega) (by omega)
        · refine .inr ⟨j, by omega, by omega, fun i hi1 hi2 => ?_, a4⟩
          by_cases e : i = k
          · subst e; exact ⟨h1, h2⟩
          · exact a3 i (by omega) hi2
      · exact .inr ⟨k, Nat.le_refl _, by omega, fun i hi1 hi2 => absurd hi1 (by omega), .inr ⟨by rw [tfGo, h1, h2]; rfl, h1, h2⟩⟩
    · exact .inr ⟨k, Nat.le_refl _, by omega, fun i hi1 hi2 => absurd hi1 (by omega), .inl ⟨by rw [tfGo, h1]; rfl, h1⟩⟩
/-- What TransposeFor tells. -/
theorem tf_facts {fit : Int → Bool} {x : Int × Int} (hx : x = tfGo fit 0 49) : (x.2 = 0 ∨ x.2 = 6) ∧ (-48 ≤ x.1 ∧ x.1 ≤ 48) ∧ (x.2 = 0 → fit x.1 = true) ∧ (fit 0 = true → x = (0, 0)) ∧
    ∀ m : Int, 0 ≤ m → m ≤ 12 → ∀ s : Int, s = 1 ∨ s = -1 → fit (s * m) = true → x.2 = 0 ∧ ¬ m < x.1 ∧ ¬ m < -x.1 ∧ ¬ (m = -x.1 ∧ 0 < s ∧ x.1 < 0) := by
  rcases tfGo_spec fit 49 0 with ⟨a1, a2⟩ | ⟨j, a1, a2, a3, a4⟩
  · rw [← hx] at a1
    subst a1
    refine ⟨.inr rfl, by simp, fun h => (by cases h), fun h => ?_, fun m h0 h1 s hs hf => ?_⟩
    · have := (a2 0 (by omega) (by omega)).1
      rw [show ((0 : Nat) : Int) = 0 from rfl, h] at this; cases this
    · exfalso
      obtain ⟨n, rfl⟩ : ∃ n : Nat, m = (n : Int) := ⟨m.toNat, by omega⟩
      have h2 := a2 n (by omega) (by omega)
      rcases hs with rfl | rfl
      · rw [Int.one_mul, h2.1] at hf; cases hf
      · rw [Int.neg_mul, Int.one_mul, h2.2] at hf; cases hf
  · rw [← hx] at a4
    have hz : fit 0 = true → j = 0 := fun h => by
      rcases Nat.eq_zero_or_pos j with e | e
      · exact e
      · have := (a3 0 (by omega) e).1
        rw [show ((0 : Nat) : Int) = 0 from rfl, h] at this; cases this
    have key : ∀ m : Int, 0 ≤ m → ∀ s : Int, s = 1 ∨ s = -1 → fit (s * m) = true → (j : Int) ≤ m := fun m h0 s hs hf => by
      obtain ⟨n, rfl⟩ : ∃ n : Nat, m = (n : Int) := ⟨m.toNat, by omega⟩
      rcases Nat.lt_or_ge n j with h | h
      · exfalso
        have h2 := a3 n (by omega) h
        rcases hs with rfl | rfl
        · rw [Int.one_mul, h2.1] at hf; cases hf
        · rw [Int.neg_mul, Int.one_mul, h2.2] at hf; cases hf
      · omega
    rcases a4 with ⟨e, hf⟩ | ⟨e, hf1, hf2⟩
    · subst e
      refine ⟨.inl rfl, by simp only []; omega, fun _ => hf, fun h => by rw [hz h]; rfl, fun m h0 h1 s hs hfm => ?_⟩
      have := key m h0 s hs hfm
      exact ⟨rfl, by simp only []; omega, by simp only []; omega, by simp only []; omega⟩
    · subst e
      refine ⟨.inl rfl, by simp only []; omega, fun _ => hf2, fun h => by rw [hz h]; rfl, fun m h0 h1 s hs hfm => ?_⟩
      have hk := key m h0 s hs hfm
      refine ⟨rfl, by simp only []; omega, by simp only []; omega, fun ⟨h2, h3, h4⟩ => ?_⟩
      simp only [] at h2 h4
      rcases hs with rfl | rfl
      · rw [Int.one_mul, h2, Int.neg_neg, hf1] at hfm; cases hfm
      · omega

theorem gap_ex {l : List (Int × Int)} (hok : okT l = true) : ∃ st, MinOf st (GapS l l.length 0) := by
  have key : ∀ i : Nat, i ≤ l.length → ∃ st, MinOf st (GapS l i 0) := by
    intro i
    induction i with
    | zero => intro _; exact ⟨_, GapS_zero l⟩
    | succ i ih =>
      intro hi
      have inner : ∀ j : Nat, j ≤ i → ∃ st, MinOf st (GapS l i j) := by
        intro j
        induction j with
        | zero => intro _; exact ih (by omega)
        | succ j ij =>
          intro hj
          obtain ⟨st, h⟩ := ij (by omega)
          by_cases hp : (l[j]'(by omega)).2 = (l[i]'(by omega)).2
          · exact ⟨_, h.add (c := ((l[i]'(by omega)).1 - (l[j]'(by omega)).1, (l[i]'(by omega)).2)) (gap_pos hok (by omega) (by omega) hp) (GapS_step (by omega) (by omega) hp)⟩
          · exact ⟨_, h.congr (GapS_skip (by omega) (by omega) hp)⟩
      obtain ⟨st, h⟩ := inner i (Nat.le_refl _)
      exact ⟨st, h.congr (GapS_next l i)⟩
  exact key _ (Nat.le_refl _)
/-- What LeastGap tells, for the law. -/
theorem gap_facts {l : List (Int × Int)} (hok : okT l = true) : ∃ g p z : Int, rG1 l = g ∧ rG2 l = p ∧ cG l = z ∧ (0 ≤ g ∧ g ≤ 199) ∧
    (∀ i k : Nat, ∀ (hi : i < l.length) (hk : k < i), (l[k]'(by omega)).2 = l[i].2 → z = 0 ∧ g ≤ l[i].1 - (l[k]'(by omega)).1) ∧ someG l g p l.length 0 = (z == 0) := by
  obtain ⟨st, h⟩ := gap_ex hok
  have hb := h.bd hok
  have e := gapL_eq h
  refine ⟨_, _, _, rfl, rfl, rfl, ?_, ?_, ?_⟩
  · unfold rG1; rw [hok, e]; simp only [if_true]; split <;> omega
  · intro i k hi hk hp
    obtain ⟨h0, h1⟩ := gap_le h hi hk hp
    unfold cG rG1
    rw [hok, e]
    simp only [if_true]
    rw [if_neg (by omega), if_neg (by omega)]
    exact ⟨rfl, h1⟩
  · have h2 := someG_end h
    unfold rG1 rG2 cG
    rw [hok, e]
    simp only [if_true]
    rw [h2]
    by_cases h0 : st.1 < 0
    · rw [if_pos h0]; simp [h0]
    · rw [if_neg h0]; simp [h0]
set_option maxHeartbeats 8000000 in
theorem law_Likeness (A B : Option Addr) (c d : Nat) (code more : List Int) (w : World) (h1 : At1 .u8 w A code) (h2 : At1 .u8 w B more) (hc1 : ∀ x ∈ code, 0 ≤ x ∧ x ≤ 255) (hc2 : ∀ x ∈ more, 0 ≤ x ∧ x ≤ 255) :
    Calls Try.prog 3 #[.slice A code.length c, .slice B more.length d] w fun e w' => e = .returned (.bool true) ∧ Below w.heap.size w w' := by
  rcases hlong : (decide (3000 < code.length) || decide (3000 < more.length)) with _ | _
  · have hl1 : code.length ≤ 3000 := by simp at hlong; omega
    have hl2 : more.length ≤ 3000 := by simp at hlong; omega
    go_enter Try.func3, Try.ntmps3
    go_wp2_with fail
    refine (c_a2Long A B c d code.length more.length _).mono ?_
    rintro e w' ⟨rfl, rfl⟩
    rw [hlong]
    clear hlong
    go_wp2_with fail
    refine (c_A2Tune A c code _ h1 hc1 (by omega)).mono ?_
    rintro e w1 ⟨gt, ct, t, rfl, hdt, ot, b1⟩
    have HDT := Lib.hid hdt
    have HT := Lib.hid ot.at_
    have hokt := hdt.1
    have hlt := hdt.2.1
    have HWT := Lib.hid (wf_of_okN (fun x hx => okN_of_okT hdt.1 hx))
    clear hdt ot
    go_wp2_with fail
    refine (c_A2Tune B d more _ (h2.below b1) hc2 (by omega)).mono ?_
    rintro e w2 ⟨gu, cu, u, rfl, hdu, ou, b2⟩
    have HDU := Lib.hid hdu
    have HU := Lib.hid ou.at_
    have hoku := hdu.1
    have hlu := hdu.2.1
    have HWU := Lib.hid (wf_of_okN (fun x hx => okN_of_okT hdu.1 hx))
    clear hdu ou
    have HT2 := Lib.hid (HT.out.below b2)
    have B2 := bstep b1 b2
    go_wp2_with fail
    refine (c_A2Bells B (some ⟨gt, 0, none⟩) d ct more t _ (h2.below B2) hc2 (by omega) HT2.out hokt).mono ?_
    rintro e w3 ⟨bells, rfl, b3⟩
    have B3 := bstep B2 b3
    have HT3 := Lib.hid (HT2.out.below b3)
    have HU3 := Lib.hid (HU.out.below b3)
    have hlt2 : t.length ≤ 1073741824 := by omega
    have hlu2 : u.length ≤ 1073741824 := by omega
    obtain ⟨P, hP⟩ : ∃ P, pitchesL t = P := ⟨_, rfl⟩
    obtain ⟨X, hX⟩ : ∃ X, bits .andNot .u64 P bells = X := ⟨_, rfl⟩
    obtain ⟨can, hcan⟩ : ∃ b, (X == 0) = b := ⟨_, rfl⟩
    have HCT := Lib.hid (show cT t = 0 by unfold cT; rw [hokt]; rfl)
    have HCAN := Lib.hid (show rCanPlay bells t = can by unfold rCanPlay; rw [hokt, hP, hX, Bool.true_and, hcan])
    have HMIS := Lib.hid (show rMissingFor bells t = X by unfold rMissingFor; rw [hokt, hP, hX]; rfl)
    have HPIT := Lib.hid (show rPitchesOf t = P by unfold rPitchesOf; rw [hokt, hP]; rfl)
    obtain ⟨x1, x2, hx⟩ : ∃ x1 x2, rTF bells t = (x1, x2) := ⟨_, _, rfl⟩
    have hxf : (x1, x2) = tfGo (fitT t bells) 0 49 := by rw [← hx]; unfold rTF; rw [hokt]; rfl
    have hfit0 : fitT t bells 0 = can := by unfold fitT; rw [movB_zero hokt, movR_zero hokt, hP, hX, Bool.true_and, hcan]
    have HF := Lib.hid (tf_facts hxf)
    have HX1 := Lib.hid (show (rTF bells t).1 = x1 by rw [hx])
    have HX2 := Lib.hid (show (rTF bells t).2 = x2 by rw [hx])
    have HFIT := Lib.hid hfit0
    have HXX := Lib.hid hX
    have HCC := Lib.hid hcan
    have HOKT := Lib.hid hokt
    have HOKU := Lib.hid hoku
    clear hX hcan hx hxf hfit0 hP hokt hoku
    go_wp2_with fail
    refine (c_implCanPlay bells (some ⟨gt, 0, none⟩) ct t _ HT3.out HWT.out hlt2).mono ?_
    rintro e w4 ⟨rfl, b4⟩
    rw [HCAN.out, HCT.out]
    go_wp2_with fail
    refine (c_implMissingFor bells (some ⟨gt, 0, none⟩) ct t _ (HT3.out.below b4) HWT.out hlt2).mono ?_
    rintro e w5 ⟨rfl, b5⟩
    rw [HMIS.out, HCT.out]
    have C5 := bstep b4 b5
    go_wp2_with fail
    refine (c_implPitchesOf (some ⟨gt, 0, none⟩) ct t _ (HT3.out.below C5) HWT.out hlt2).mono ?_
    rintro e w6 ⟨rfl, b6⟩
    rw [HPIT.out, HCT.out]
    have C6 := bstep C5 b6
    go_wp2_with fail
    refine (c_implTransposeFor bells (some ⟨gt, 0, none⟩) ct t _ (HT3.out.below C6) HWT.out hlt2).mono ?_
    rintro e w7 ⟨rfl, b7⟩
    rw [HX1.out, HX2.out]
    have C7 := bstep C6 b7
    go_wp2_with fail
    refine (c_specTransposeFor bells (some ⟨gt, 0, none⟩) ct t _ (HT3.out.below C7) HWT.out hlt2).mono ?_
    rintro e w8 ⟨rfl, b8⟩
    rw [HX1.out, HX2.out]
    have C8 := bstep C7 b8
    go_upto_region 11 with fail
    go_cut [149] from 106 to 149 (fun s w' => s = .bool false ∧ w' = w8)
    case first => as_aux_lemma =>
      have hX := HXX.out
      have hcan := HCC.out
      rcases can with _ | _
      · go_wp2
        go_meet
        case rel => exact ⟨rfl, rfl⟩
      · have h0 := HF.out.2.2.2.1 HFIT.out
        simp only [Prod.mk.injEq] at h0
        obtain ⟨rfl, rfl⟩ := h0
        go_wp2
        go_meet
        case rel => exact ⟨rfl, rfl⟩
    obtain ⟨rfl, rfl⟩ := hcut
    obtain ⟨w8, rfl⟩ : ∃ x, x = wc := ⟨_, rfl⟩
    go_upto_if 151 with fail
    go_cut [] from 152 to 175 (fun w' => Below w8.heap.size w8 w')
    case first => as_aux_lemma =>
      have hF2 : x2 = 0 → fitT t bells x1 = true := HF.out.2.2.1
      have hxb : -48 ≤ x1 ∧ x1 ≤ 48 := HF.out.2.1
      rcases HF.out.1 with h0 | h0
      · replace h0 : x2 = 0 := h0
        subst h0
        have hfit := hF2 rfl
        have hMB : movB (addG 0 x1) t = true := by unfold fitT at hfit; rw [Bool.and_eq_true] at hfit; exact hfit.1
        have hCP : (bits .andNot .u64 (pitchesL (movR (addG 0 x1) t)) bells == 0) = true := by unfold fitT at hfit; rw [Bool.and_eq_true] at hfit; exact hfit.2
        have hMR : movR (addG 0 x1) t = t.map (addG 0 x1) := by unfold movR; rw [hMB]; rfl
        have hMO : okT (movR (addG 0 x1) t) = true := by rw [hMR]; exact movR_ok HOKT.out hMB (fun p q _ _ _ _ h => addG_mono _ _ h)
        have HMB := Lib.hid hMB
        have HWM := Lib.hid (wf_of_okN (fun x hx => okN_of_okT hMO hx))
        have HQ := Lib.hid (show rCanPlay bells (movR (addG 0 x1) t) = true by unfold rCanPlay; rw [hMO, hCP]; rfl)
        have HCM := Lib.hid (show cT (movR (addG 0 x1) t) = 0 by unfold cT; rw [hMO]; rfl)
        have hml := okT_len hMO
        have hml2 : (movR (addG 0 x1) t).length ≤ 1073741824 := by omega
        clear hF2 hfit hMB hCP hMR hMO hml
        go_wp2_with fail
        refine (c_TransIn (some ⟨gt, 0, none⟩) ct t x1 _ (HT3.out.below C8) HWT.out HOKT.out hxb).mono ?_
        rintro e w9 ⟨A9, c9, rfl, o9, b9⟩
        rw [HMB.out]
        have O9 := Lib.hid o9
        clear o9
        go_wp2_with fail
        refine (c_implCanPlay bells A9 c9 _ _ O9.out HWM.out hml2).mono ?_
        rintro e wa ⟨rfl, ba⟩
        rw [HQ.out, HCM.out]
        go_wp2
        go_meet
        case rel => exact bstep b9 ba
      · replace h0 : x2 = 6 := h0
        subst h0
        clear hF2
        go_wp2
        go_meet
        case rel => exact Below.refl _ _
    obtain ⟨w10, rfl⟩ : ∃ x, x = wc := ⟨_, rfl⟩
    have C10 := bstep C8 hcut
    clear hcut b4 b5 b6 b7 b8 C5 C6 C7
    go_wp2
    go_loopw [22] (fun mv w' => ∃ m : Nat, mv = .int .i64 (m : Int) ∧ m ≤ 13 ∧ Below w3.heap.size w3 w') (fun mv _ => 13 - (intOf mv).toNat)
    case atStart => exact ⟨0, rfl, by omega, C10⟩
    case round => as_aux_lemma =>
      obtain ⟨m, rfl, hm, hb⟩ := hrel
      by_cases hlt : m ≤ 12
      · have hd1 : decide ((m : Int) ≤ 12) = true := decide_eq_true (by omega)
        go_wp2
        go_loopw [23] (fun sv w' => ∃ s : Int, sv = .int .i64 s ∧ (s = -1 ∨ s = 1 ∨ s = 3) ∧ Below w3.heap.size w3 w') (fun sv _ => (3 - intOf sv).toNat)
        case atStart => exact ⟨-1, rfl, .inl rfl, hb⟩
        case round => as_aux_lemma =>
          obtain ⟨s, rfl, hs, hb2⟩ := hrel
          have HS := Lib.hid hs
          clear hs
          by_cases hs1 : s ≤ 1
          · have hd2 : decide (s ≤ 1) = true := decide_eq_true hs1
            have hs2 : s = 1 ∨ s = -1 := by have := HS.out; omega
            have hws : IntKind.i64.wrap (s + 2) = s + 2 := IntWalk.i64_in _ (by omega)
            obtain ⟨v, hv⟩ : ∃ v, s * (m : Int) = v := ⟨_, rfl⟩
            have hvb : -12 ≤ v ∧ v ≤ 12 := by rw [← hv]; rcases hs2 with rfl | rfl <;> omega
            have hwv : IntKind.i64.wrap (s * (m : Int)) = v := by rw [hv]; exact IntWalk.i64_in _ (by omega)
            have hinv : inB v (-48) 48 = true := inB_iff.2 (by omega)
            have HTR := Lib.hid (show _ from c_specTranspose (some ⟨gt, 0, none⟩) ct t v wr (HT3.out.below hb2) HWT.out hlt2 (by omega))
            have hFM := HF.out.2.2.2.2 m (by omega) (by omega) s hs2
            rw [hv] at hFM
            rw [hinv, cMove_ok HOKT.out, rMove_ok HOKT.out] at HTR
            have hok0 : okT ([] : List (Int × Int)) = true := okT_of_rise Rise.nil (fun x hx => by cases hx) (by simp)
            have hMO : okT (movR (addG 0 v) t) = true := by
              rcases hB : movB (addG 0 v) t with _ | _
              · unfold movR; rw [hB]; exact hok0
              · rw [show movR (addG 0 v) t = t.map (addG 0 v) by unfold movR; rw [hB]; rfl]; exact movR_ok HOKT.out hB (fun p q _ _ _ _ h => addG_mono _ _ h)
            have hq0 : (if movB (addG 0 v) t then (0 : Int) else 4) = 0 → rCanPlay bells (movR (addG 0 v) t) = true → fitT t bells v = true := fun h1 h2 => by
              rcases hB : movB (addG 0 v) t with _ | _
              · rw [hB] at h1; cases h1
              · unfold fitT; unfold rCanPlay at h2; rw [hMO] at h2; rw [hB]; exact h2
            have HWM := Lib.hid (wf_of_okN (fun x hx => okN_of_okT hMO hx))
            have HCM := Lib.hid (show cT (movR (addG 0 v) t) = 0 by unfold cT; rw [hMO]; rfl)
            have hml := okT_len hMO
            have hml2 : (movR (addG 0 v) t).length ≤ 1073741824 := by omega
            have HS2 := Lib.hid hs2
            obtain ⟨R, hR⟩ : ∃ R, movR (addG 0 v) t = R := ⟨_, rfl⟩
            obtain ⟨z, hz⟩ : ∃ z : Int, (if movB (addG 0 v) t then (0 : Int) else 4) = z := ⟨_, rfl⟩
            have hz4 : z = 0 ∨ z = 4 := by rw [← hz]; split <;> simp
            rw [hR] at HTR HWM hq0 HCM hml2
            rw [hz] at HTR hq0
            obtain ⟨q, hq⟩ : ∃ q, rCanPlay bells R = q := ⟨_, rfl⟩
            rw [hq] at hq0
            have HQ := Lib.hid hq
            have HQ0 := Lib.hid hq0
            have HFM := Lib.hid hFM
            have HZ4 := Lib.hid hz4
            clear hv hinv hs2 hR hz hz4 hml hMO hok0 hq hq0 hFM
            go_wp2_with fail
            refine HTR.out.mono ?_
            rintro e w11 ⟨vv, rfl, o11, b11⟩
            obtain ⟨A11, c11, rfl, _, ha11⟩ := o11.reads
            have HA := Lib.hid ha11
            clear o11 ha11
            go_wp2_with fail
            refine (c_specCanPlay bells A11 c11 R _ HA.out HWM.out hml2).mono ?_
            rintro e w12 ⟨rfl, b12⟩
            rw [HCM.out, HQ.out]
            go_upto_region 28 with fail
            go_cut [232] from 198 to 232 (fun s' w' => s' = .bool false ∧ w' = w12)
            case first => as_aux_lemma =>
              rcases HZ4.out with h0 | h0
              · subst h0
                rcases q with _ | _
                · go_wp2
                  go_meet
                  case rel => exact ⟨rfl, rfl⟩
                · obtain ⟨f1, f2, f3, f4⟩ := HFM.out (HQ0.out rfl rfl)
                  replace f1 : x2 = 0 := f1
                  have f2' : x1 ≤ (m : Int) := by omega
                  have f3' : -x1 ≤ (m : Int) := by omega
                  have hxb : -48 ≤ x1 ∧ x1 ≤ 48 := HF.out.2.1
                  have F1 := Lib.hid f1
                  have hx20 : (x2 != 0) = false := by rw [f1]; rfl
                  have hdm : decide ((m : Int) < max x1 (-x1)) = false := decide_eq_false (by omega)
                  have hwn : IntKind.i64.wrap (-x1) = -x1 := IntWalk.i64_in _ (by omega)
                  have HF4 := Lib.hid f4
                  clear f1 f2 f3 f4 f2' f3' hxb
                  rcases he : ((m : Int) == -x1) with _ | _
                  · go_wp2
                    go_meet
                    case rel => exact ⟨rfl, rfl⟩
                  · have HE2 := Lib.hid (show (m : Int) = -x1 by simpa using he)
                    rcases hs0 : decide (0 < s) with _ | _
                    · go_wp2
                      go_meet
                      case rel => exact ⟨rfl, rfl⟩
                    · have hx0 : decide (x1 < 0) = false := decide_eq_false (fun h => HF4.out ⟨HE2.out, of_decide_eq_true hs0, h⟩)
                      go_wp2
                      go_meet
                      case rel => exact ⟨rfl, rfl⟩
              · subst h0
                go_wp2
                go_meet
                case rel => exact ⟨rfl, rfl⟩
            obtain ⟨rfl, rfl⟩ := hcut
            go_wp2
            go_roundw
            case rel => exact ⟨s + 2, by first | rfl | rw [hws], by have := HS2.out; omega, bstep hb2 (bstep b11 b12)⟩
            case measure => simp [intOf]; omega
          · have hd2 : decide (s ≤ 1) = false := decide_eq_false hs1
            go_wp2
            go_roundw
            case rel => exact ⟨m + 1, by go_num, by omega, hb2⟩
            case measure => simp [intOf]; omega
      · have hd1 : decide ((m : Int) ≤ 12) = false := decide_eq_false (by omega)
        clear C10
        have C10 := hb
        obtain ⟨g, p, z, hg1, hg2, hg3, hgb, hgp, hgs⟩ := gap_facts HOKT.out
        have HG := Lib.hid (And.intro hg1 (And.intro hg2 hg3))
        have HGP := Lib.hid hgp
        have HGS := Lib.hid hgs
        clear hg1 hg2 hg3 hgp hgs
        go_wp2_with fail
        clear hd1 hlt hm
        refine (c_implLeastGap (some ⟨gt, 0, none⟩) ct t _ (HT3.out.below C10) HWT.out hlt2).mono ?_
        rintro e w13 ⟨rfl, b13⟩
        rw [HG.out.1, HG.out.2.1, HG.out.2.2]
        have C13 := bstep C10 b13
        go_wp2_with fail
        refine (c_specLeastGap (some ⟨gt, 0, none⟩) ct t _ (HT3.out.below C13) HWT.out hlt2).mono ?_
        rintro e w14 ⟨rfl, b14⟩
        rw [HG.out.1, HG.out.2.1, HG.out.2.2]
        have C14 := bstep C13 b14
        clear C10 b13 b14 C13 hb
        go_wp2
        go_loopw [34, 35] (fun fv iv w' => ∃ i : Nat, iv = .int .i64 (i : Int) ∧ fv = .bool (someG t g p i 0) ∧ i ≤ t.length ∧ Below w3.heap.size w3 w') (fun _ iv _ => t.length - (intOf iv).toNat)
        case atStart => exact ⟨0, rfl, by rw [someG_zero], by omega, C14⟩
        case round => as_aux_lemma =>
          obtain ⟨i, rfl, rfl, hi, hb⟩ := hrel
          by_cases hlt : i < t.length
          · have hdl : decide ((i : Int) < (t.length : Int)) = true := decide_eq_true (by omega)
            obtain ⟨f0, hf0⟩ : ∃ f, someG t g p i 0 = f := ⟨_, rfl⟩
            rw [hf0]
            have HF0 := Lib.hid hf0
            clear hf0
            go_wp2
            go_loopw [34, 36] (fun fv kv w' => ∃ k : Nat, kv = .int .i64 (k : Int) ∧ fv = .bool (someG t g p i k) ∧ k ≤ i ∧ Below w3.heap.size w3 w') (fun _ kv _ => i - (intOf kv).toNat)
            case atStart => exact ⟨0, rfl, by rw [HF0.out], by omega, hb⟩
            case round => as_aux_lemma =>
              obtain ⟨k, rfl, rfl, hk, hb2⟩ := hrel
              by_cases hkl : k < i
              · have hkl2 : k < t.length := by omega
                obtain ⟨bb, off, hAe, hbl, hc⟩ := (HT3.out.below hb2).get (by omega)
                obtain ⟨rfl, rfl⟩ : bb = gt ∧ off = 0 := by simpa using hAe.symm
                simp only [Nat.zero_add] at hc
                have y1 : ∀ x : After wr, _ := fun x => (x.cell hbl).trans (hc i hlt).1
                have y2 : ∀ x : After wr, _ := fun x => (x.cell hbl).trans (hc i hlt).2
                have z1 : ∀ x : After wr, _ := fun x => (x.cell hbl).trans (hc k hkl2).1
                have z2 : ∀ x : After wr, _ := fun x => (x.cell hbl).trans (hc k hkl2).2
                obtain ⟨m1, m2, m3, m4⟩ := okT_note HOKT.out hlt
                obtain ⟨n1, n2, n3, n4⟩ := okT_note HOKT.out hkl2
                have hdj : decide ((k : Int) < (i : Int)) = true := decide_eq_true (by omega)
                have hji : (k : Int) < (t.length : Int) := by omega
                obtain ⟨own, hown⟩ : ∃ o, t[i].1 - t[k].1 = o := ⟨_, rfl⟩
                have hw1 : IntKind.i64.wrap (t[i].1 - t[k].1) = own := by rw [hown]; exact IntWalk.i64_in _ (by omega)
                clear hc hAe
                obtain ⟨f, hf⟩ : ∃ f, someG t g p i k = f := ⟨_, rfl⟩
                rw [hf]
                rcases hp : decide (t[k].2 = t[i].2) with _ | _
                · have hpb : (t[k].2 == t[i].2) = false := by rw [← hp]; rfl
                  have HFF := Lib.hid ((someG_skip hlt hkl (of_decide_eq_false hp)).trans hf)
                  clear hf hown
                  go_wp2
                  refine region_after (by kernel_rfl) (by kernel_rfl) ?_
                  repeat (go_big_quiet_step (fail))
                  refine wpQuiet_nil ?_
                  rintro _ ⟨x, rfl⟩
                  have BX := bstep hb2 x.below
                  clear y1 y2 z1 z2
                  go_wp2
                  go_roundw
                  case rel => exact ⟨k + 1, by go_num, by rw [HFF.out], by omega, BX⟩
                  case measure => simp [intOf]; omega
                · have hpb : (t[k].2 == t[i].2) = true := by rw [← hp]; rfl
                  have HFF := Lib.hid (someG_step (g := g) (p := p) hlt hkl (of_decide_eq_true hp))
                  obtain ⟨hz, hge⟩ := HGP.out i k hlt hkl (of_decide_eq_true hp)
                  have hz0 : (z != 0) = false := by rw [hz]; rfl
                  rw [hown] at hge
                  have hlg : decide (own < g) = false := decide_eq_false (by omega)
                  rw [hf, hown] at HFF
                  clear hz hf hown hge
                  rcases f with _ | _
                  · rcases q1 : decide (own = g) with _ | _
                    · have q1b : (own == g) = false := by rw [← q1]; rfl
                      rw [q1, Bool.false_and, Bool.false_or] at HFF
                      go_wp2
                      refine region_after (by kernel_rfl) (by kernel_rfl) ?_
                      repeat (go_big_quiet_step (fail))
                      refine wpQuiet_nil ?_
                      rintro _ ⟨x, rfl⟩
                      have BX := bstep hb2 x.below
                      have y1b := fun x' : After x.w => keepc (y1 x) x'.below
                      have y2b := fun x' : After x.w => keepc (y2 x) x'.below
                      clear y1 y2
                      have z1b := fun x' : After x.w => keepc (z1 x) x'.below
                      have z2b := fun x' : After x.w => keepc (z2 x) x'.below
                      clear z1 z2
                      go_wp2
                      refine region_after (by kernel_rfl) (by kernel_rfl) ?_
                      repeat (go_big_quiet_step (fail))
                      refine wpQuiet_nil ?_
                      rintro _ ⟨x, rfl⟩
                      have y5 := y2b x
                      clear y1b y2b z1b z2b
                      go_wp2
                      go_roundw
                      case rel => exact ⟨k + 1, by go_num, by rw [HFF.out], by omega, bstep BX x.below⟩
                      case measure => simp [intOf]; omega
                    · have q1b : (own == g) = true := by rw [← q1]; rfl
                      rw [q1, Bool.true_and, Bool.false_or] at HFF
                      obtain ⟨q, hq⟩ : ∃ q, decide (t[i].2 = p) = q := ⟨_, rfl⟩
                      rw [hq] at HFF
                      have q2b : (t[i].2 == p) = q := by rw [← hq]; rfl
                      have HP2 := Lib.hid hq
                      clear hq
                      go_wp2
                      refine region_after (by kernel_rfl) (by kernel_rfl) ?_
                      repeat (go_big_quiet_step (fail))
                      refine wpQuiet_nil ?_
                      rintro _ ⟨x, rfl⟩
                      have BX := bstep hb2 x.below
                      have y1b := fun x' : After x.w => keepc (y1 x) x'.below
                      have y2b := fun x' : After x.w => keepc (y2 x) x'.below
                      clear y1 y2
                      have z1b := fun x' : After x.w => keepc (z1 x) x'.below
                      have z2b := fun x' : After x.w => keepc (z2 x) x'.below
                      clear z1 z2
                      go_wp2
                      refine region_after (by kernel_rfl) (by kernel_rfl) ?_
                      repeat (go_big_quiet_step (fail))
                      refine wpQuiet_nil ?_
                      rintro _ ⟨x, rfl⟩
                      have y5 := y2b x
                      clear y1b y2b z1b z2b
                      go_wp2
                      go_roundw
                      case rel => exact ⟨k + 1, by go_num, by rw [HFF.out], by omega, bstep BX x.below⟩
                      case measure => simp [intOf]; omega
                  · rw [Bool.true_or] at HFF
                    go_wp2
                    refine region_after (by kernel_rfl) (by kernel_rfl) ?_
                    repeat (go_big_quiet_step (fail))
                    refine wpQuiet_nil ?_
                    rintro _ ⟨x, rfl⟩
                    have BX := bstep hb2 x.below
                    have y1b := fun x' : After x.w => keepc (y1 x) x'.below
                    have y2b := fun x' : After x.w => keepc (y2 x) x'.below
                    clear y1 y2
                    have z1b := fun x' : After x.w => keepc (z1 x) x'.below
                    have z2b := fun x' : After x.w => keepc (z2 x) x'.below
                    clear z1 z2
                    go_wp2
                    refine region_after (by kernel_rfl) (by kernel_rfl) ?_
                    repeat (go_big_quiet_step (fail))
                    refine wpQuiet_nil ?_
                    rintro _ ⟨x, rfl⟩
                    clear y1b y2b z1b z2b
                    go_wp2
                    go_roundw
                    case rel => exact ⟨k + 1, by go_num, by rw [HFF.out], by omega, bstep BX x.below⟩
                    case measure => simp [intOf]; omega
              · obtain rfl : k = i := by omega
                have hdj : decide ((k : Int) < (k : Int)) = false := decide_eq_false (by omega)
                obtain ⟨f, hf⟩ : ∃ f, someG t g p k k = f := ⟨_, rfl⟩
                rw [hf]
                have HFF := Lib.hid ((someG_next t g p k).symm.trans hf)
                clear hf
                go_wp2
                go_roundw
                case rel => exact ⟨k + 1, by go_num, by rw [HFF.out], by omega, hb2⟩
                case measure => simp [intOf]; omega
          · obtain rfl : i = t.length := by omega
            have hdl : decide ((t.length : Int) < (t.length : Int)) = false := decide_eq_false (by omega)
            rw [HGS.out]
            clear C14
            have C14 := hb
            go_wp2_with fail
            have hcn0 : cTT t u = 0 := by unfold cTT; rw [HOKT.out, HOKU.out]; rfl
            have HC0 := Lib.hid hcn0
            obtain ⟨n0, hn0⟩ : ∃ n : Nat, commonL t u 0 = n := ⟨_, rfl⟩
            have HN0 := Lib.hid (show rCommonNotes t u = (n0 : Int) by unfold rCommonNotes; rw [HOKT.out, HOKU.out, hn0]; rfl)
            obtain ⟨x1', hb1⟩ : ∃ x, (bstL t u 200) = x := ⟨_, rfl⟩
            obtain ⟨s, bn⟩ := x1'
            obtain ⟨e1, e2, e3⟩ := bstL_spec t u 200
            rw [hb1] at e1 e2 e3
            have e4 := e3 0 (by omega) (by omega)
            rw [hn0] at e4
            have hsb : -200 ≤ s ∧ s ≤ 200 := e2
            have hbn : bn = (commonL t u s : Nat) := e1
            have hdn : decide (bn < (n0 : Int)) = false := decide_eq_false (by have : (n0 : Int) ≤ bn := e4; omega)
            have HB1 := Lib.hid (show rBest1 t u = s by unfold rBest1; rw [HOKT.out, HOKU.out, hb1]; rfl)
            have HB2 := Lib.hid (show rBest2 t u = bn by unfold rBest2; rw [HOKT.out, HOKU.out, hb1]; rfl)
            have HBN := Lib.hid hbn
            clear e1 e2 e3 e4 hbn hb1 hcn0 hn0 hgb hb hi hlt
            have hlt2 : t.length ≤ 1073741824 := by omega
            refine (c_implCommonNotes (some ⟨gt, 0, none⟩) (some ⟨gu, 0, none⟩) ct cu t u _ (HT3.out.below C14) (HU3.out.below C14) HWT.out HWU.out hlt2 hlu2).mono ?_
            rintro e w15 ⟨rfl, b15⟩
            rw [HN0.out, HC0.out]
            have C15 := bstep C14 b15
            go_wp2_with fail
            refine (c_implBestShift (some ⟨gt, 0, none⟩) (some ⟨gu, 0, none⟩) ct cu t u _ (HT3.out.below C15) (HU3.out.below C15) HWT.out HWU.out hlt2 hlu2).mono ?_
            rintro e w16 ⟨rfl, b16⟩
            rw [HB1.out, HB2.out, HC0.out]
            have C16 := bstep C15 b16
            go_wp2_with fail
            refine (c_specBestShift (some ⟨gt, 0, none⟩) (some ⟨gu, 0, none⟩) ct cu t u _ (HT3.out.below C16) (HU3.out.below C16) HWT.out HWU.out hlt2 hlu2).mono ?_
            rintro e w17 ⟨rfl, b17⟩
            rw [HB1.out, HB2.out, HC0.out]
            have C17 := bstep C16 b17
            clear C14 C15 C16 b15 b16 b17
            have HM := Lib.hid (show _ from c_specMoveTune (some ⟨gu, 0, none⟩) cu u s _ (HU3.out.below C17) HWU.out hlu2 (by omega))
            rw [inB_iff.2 hsb, cMove_ok HOKU.out, rMove_ok HOKU.out] at HM
            obtain ⟨R, hR⟩ : ∃ R, movR (addG s 0) u = R := ⟨_, rfl⟩
            obtain ⟨z2, hz2⟩ : ∃ z : Int, (if movB (addG s 0) u then (0 : Int) else 4) = z := ⟨_, rfl⟩
            have hz4 : z2 = 4 ∨ z2 = 0 ∧ okT R = true ∧ rCommonNotes t R = bn := by
              rcases hB : movB (addG s 0) u with _ | _
              · rw [hB] at hz2; exact .inl hz2.symm
              · rw [hB] at hz2
                have e : R = u.map (addG s 0) := by rw [← hR]; unfold movR; rw [hB]; rfl
                have hok : okT R = true := by rw [e]; exact movR_ok HOKU.out hB (fun p q _ _ _ _ h => addG_mono _ _ h)
                refine .inr ⟨hz2.symm, hok, ?_⟩
                unfold rCommonNotes
                rw [HOKT.out, hok, e, commonL_moved, HBN.out]
                rfl
            rw [hR, hz2] at HM
            have HZ4 := Lib.hid hz4
            clear hz4 hR hz2
            go_wp2_with fail
            refine HM.out.mono ?_
            rintro e w18 ⟨vv, rfl, o18, b18⟩
            obtain ⟨A18, c18, rfl, _, ha18⟩ := o18.reads
            have HA := Lib.hid ha18
            clear o18 ha18 HM
            have C18 := bstep C17 b18
            clear C17 b18
            go_upto_if 374 with fail
            go_cut [] from 375 to 387 (fun w' => Below w18.heap.size w18 w')
            case first => as_aux_lemma =>
              rcases HZ4.out with h0 | ⟨h0, hok, hcm⟩
              · subst h0
                go_wp2
                go_meet
                case rel => exact Below.refl _ _
              · subst h0
                have HCM := Lib.hid hcm
                have HWR := Lib.hid (wf_of_okN (fun x hx => okN_of_okT hok hx))
                have hrl := okT_len hok
                have hrl2 : R.length ≤ 1073741824 := by omega
                have HCT0 := Lib.hid (show cTT t R = 0 by unfold cTT; rw [HOKT.out, hok]; rfl)
                clear hcm hok hrl
                go_wp2_with fail
                refine (c_implCommonNotes (some ⟨gt, 0, none⟩) A18 ct c18 t R _ (HT3.out.below C18) HA.out HWT.out HWR.out hlt2 hrl2).mono ?_
                rintro e w19 ⟨rfl, b19⟩
                rw [HCM.out, HCT0.out]
                go_wp2
                go_meet
                case rel => exact b19
            obtain ⟨w19, rfl⟩ : ∃ x, x = wc := ⟨_, rfl⟩
            have C19 := bstep C18 hcut
            clear C18 hcut
            obtain ⟨a1, ha1⟩ : ∃ x, rLo1 t = x := ⟨_, rfl⟩
            obtain ⟨a2, ha2⟩ : ∃ x, rLo2 t = x := ⟨_, rfl⟩
            obtain ⟨z3, hz3⟩ : ∃ x, cLo t = x := ⟨_, rfl⟩
            obtain ⟨q3, hq3⟩ : ∃ q, decide (0 < t.length) = q := ⟨_, rfl⟩
            have hz3b : (z3 == 0) = q3 := by
              rw [← hz3, ← hq3]
              unfold cLo
              rw [HOKT.out]
              by_cases h0 : 0 < t.length
              · simp [h0]
              · simp [h0]
            have hq3b : decide (0 < (t.length : Int)) = q3 := by rw [← hq3, decide_eq_decide]; omega
            have HLO := Lib.hid (And.intro ha1 (And.intro ha2 hz3))
            have HQ3 := Lib.hid hq3
            clear ha1 ha2 hz3
            go_wp2_with fail
            refine (c_implLoudestStep (some ⟨gt, 0, none⟩) ct t _ (HT3.out.below C19) HWT.out hlt2).mono ?_
            rintro e w20 ⟨rfl, b20⟩
            rw [HLO.out.1, HLO.out.2.1, HLO.out.2.2]
            have C20 := bstep C19 b20
            go_wp2_with fail
            refine (c_specLoudestStep (some ⟨gt, 0, none⟩) ct t _ (HT3.out.below C20) HWT.out hlt2).mono ?_
            rintro e w21 ⟨rfl, b21⟩
            rw [HLO.out.1, HLO.out.2.1, HLO.out.2.2]
            have C21 := bstep C20 b21
            clear C19 b20 C20 b21
            go_wp2_with fail
            refine (c_a2At B d more 0 10 _ (((h2.below B3)).below C21) hc2 (by omega)).mono ?_
            rintro e w22 ⟨r, rfl, hr, rfl⟩
            obtain ⟨r1, r2⟩ := hr
            have hr9 : 0 ≤ r ∧ r ≤ 9 := by omega
            obtain ⟨z4, hz4⟩ : ∃ x, cCan t 2 r 3 = x := ⟨_, rfl⟩
            obtain ⟨V, hV⟩ : ∃ x, rCan t 2 r 3 = x := ⟨_, rfl⟩
            have hz43 : ¬ z4 = 0 → z4 = 3 := fun h0 => by rw [← hz4] at h0 ⊢; exact can2_code HDT.out hr9 h0
            have hz40 : z4 = 0 → okT V = true ∧ commonL V t 0 = t.length := fun h0 => by rw [← hV]; exact can2_tune HDT.out hr9 (by rw [hz4]; exact h0)
            have HC43 := Lib.hid hz43
            have HC40 := Lib.hid hz40
            have hVl : V.length ≤ 1073741824 := by have := rCan_len t 2 r 3; rw [hV] at this; omega
            have HVE := Lib.hid (And.intro hz4 hV)
            clear hz4 hV hz43 hz40 hr9
            go_wp2_with fail
            refine (c_implCanonOf (some ⟨gt, 0, none⟩) ct t 2 r 3 _ (HT3.out.below C21) HWT.out hlt2 (by omega) (by omega) (by omega)).mono ?_
            rintro e w23 ⟨v23, rfl, o23, b23⟩
            obtain ⟨A23, c23, rfl, _, ha23⟩ := o23.reads
            rw [HVE.out.1]
            rw [HVE.out.2] at ha23 ⊢
            have HA23 := Lib.hid ha23
            have C23 := bstep C21 b23
            clear o23 ha23
            go_wp2_with fail
            refine (c_specCanonOf (some ⟨gt, 0, none⟩) ct t 2 r 3 _ (HT3.out.below C23) HWT.out hlt2 (by omega) (by omega) (by omega)).mono ?_
            rintro e w24 ⟨v24, rfl, o24, b24⟩
            obtain ⟨A24, c24, rfl, _, ha24⟩ := o24.reads
            rw [HVE.out.1]
            rw [HVE.out.2] at ha24 ⊢
            have HA24 := Lib.hid ha24
            have HA23b := Lib.hid (HA23.out.below b24)
            have C24 := bstep C23 b24
            clear o24 ha24 C21 C23 b23 b24 HA23
            go_wp2_with fail
            refine (c_specSameTune A23 A24 c23 c24 V V _ HA23b.out HA24.out hVl hVl).mono ?_
            rintro e w25 ⟨rfl, b25⟩
            rw [eqL_self]
            have C25 := bstep C24 b25
            have HA25 := Lib.hid (HA24.out.below b25)
            clear HA24 HA23b C24 b25
            rcases he : (z4 == 0) with _ | _
            · have h3 : z4 = 3 := HC43.out (by simpa using he)
              subst h3
              have B25 := bstep B3 C25
              go_wp2
              go_ret
              exact ⟨rfl, B25⟩
            · have h0 : z4 = 0 := by simpa using he
              obtain ⟨hVok, hVc⟩ := HC40.out h0
              subst h0
              have HCV := Lib.hid (show rCommonNotes V t = (t.length : Int) by unfold rCommonNotes; rw [hVok, HOKT.out, hVc]; rfl)
              have HCV0 := Lib.hid (show cTT V t = 0 by unfold cTT; rw [hVok, HOKT.out]; rfl)
              have HWV := Lib.hid (wf_of_okN (fun x hx => okN_of_okT hVok hx))
              have HJ := join_drawn HDT.out HDU.out
              have HJ0 := Lib.hid (show cJoin t u = 0 by unfold cJoin; rw [HOKT.out, HOKU.out, HJ]; rfl)
              obtain ⟨J, hJ⟩ : ∃ J, rJoin t u = J := ⟨_, rfl⟩
              have hJl : J.length = t.length + u.length := by rw [← hJ]; unfold rJoin; rw [HOKT.out, HOKU.out, HJ]; simp
              have HJR := Lib.hid hJ
              have HJL := Lib.hid hJl
              have hJ2 : J.length ≤ 1073741824 := by have := HDT.out.2.1; have := HDU.out.2.1; omega
              have hwj : IntKind.i64.wrap ((t.length : Int) + (u.length : Int)) = (J.length : Int) := by rw [hJl]; push_cast; exact IntWalk.i64_in _ (by omega)
              clear hVok hVc HJ hJ hJl he
              go_wp2_with fail
              refine (c_implCommonNotes A24 (some ⟨gt, 0, none⟩) c24 ct V t _ HA25.out (HT3.out.below C25) HWV.out HWT.out hVl hlt2).mono ?_
              rintro e w26 ⟨rfl, b26⟩
              rw [HCV.out, HCV0.out]
              have C26 := bstep C25 b26
              clear C25 b26
              go_wp2_with fail
              refine (c_implJoinTunes (some ⟨gt, 0, none⟩) (some ⟨gu, 0, none⟩) ct cu t u _ (HT3.out.below C26) (HU3.out.below C26) HWT.out HWU.out hlt2 hlu2).mono ?_
              rintro e w27 ⟨v27, rfl, o27, b27⟩
              obtain ⟨A27, c27, rfl, _, ha27⟩ := o27.reads
              rw [HJ0.out]
              rw [HJR.out] at ha27 ⊢
              have HA27 := Lib.hid ha27
              have C27 := bstep C26 b27
              clear C26 b27 o27 ha27
              go_wp2_with fail
              refine (c_specJoinTunes (some ⟨gt, 0, none⟩) (some ⟨gu, 0, none⟩) ct cu t u _ (HT3.out.below C27) (HU3.out.below C27) HWT.out HWU.out hlt2 hlu2).mono ?_
              rintro e w28 ⟨v28, rfl, o28, b28⟩
              obtain ⟨A28, c28, rfl, _, ha28⟩ := o28.reads
              rw [HJ0.out]
              rw [HJR.out] at ha28 ⊢
              have HA28 := Lib.hid ha28
              have HA27b := Lib.hid (HA27.out.below b28)
              have C28 := bstep C27 b28
              clear C27 b28 o28 ha28 HA27
              go_wp2_with fail
              refine (c_specSameTune A27 A28 c27 c28 J J _ HA27b.out HA28.out hJ2 hJ2).mono ?_
              rintro e w29 ⟨rfl, b29⟩
              rw [eqL_self]
              have B29 := bstep B3 (bstep C28 b29)
              go_wp2
              go_ret
              exact ⟨rfl, B29⟩
  · go_enter Try.func3, Try.ntmps3
    go_wp2_with fail
    refine (c_a2Long A B c d code.length more.length _).mono ?_
    rintro e w' ⟨rfl, rfl⟩
    rw [hlong]
    go_wp2
    go_ret
    exact ⟨rfl, Below.refl _ _⟩

section
variable {H : Type} {enc : TypeId × Value → H} {P : Program} {w : World} {base : Nat} {spare : Nat → Bool} {held : Bool}
/-- A slice of bytes. -/
theorem open_bytes1 {t e : TypeId} {r : Reach} {b0 : Nat} {v : Value} {d : DataW H} {p : List MemPlace} (ht : P.underlying t = some (.slice e)) (he : P.underlying e = some (.int .u8)) (hC : P.cellsOf e = 1)
    (hv : Value.okWide P w r b0 t v) (h : DataW.Trod enc P w base spare held t v d p) :
    ∃ (A : Option Addr) (c : Nat) (l : List Int), v = .slice A l.length c ∧ l.length ≤ maxLen ∧ At1 .u8 w A l ∧ ∀ x ∈ l, 0 ≤ x ∧ x ≤ 255 := by
  obtain ⟨a0, len0, cap0, rfl⟩ := okWide_slice ht hv
  obtain ⟨fuel, hf⟩ := h
  rcases open_ints ht he hC hf with ⟨hcs, _⟩ | ⟨a, len, cap, zs, hcs, hb, hl, hm, hzs, hx, hi, hw⟩
  · have hcs' : a0 = none ∧ len0 = 0 ∧ cap0 = 0 := by simpa [Value.cells] using hcs
    obtain ⟨rfl, rfl, rfl⟩ := hcs'
    exact ⟨none, 0, [], rfl, by simp, At1.nil _ _ _, fun x hx => by cases hx⟩
  · have hcs' : a0 = some a ∧ len0 = len ∧ cap0 = cap := by simpa [Value.cells] using hcs
    obtain ⟨rfl, rfl, rfl⟩ := hcs'
    have hlm : len0 ≤ zs.length := by rw [hzs]; split <;> omega
    have hlen : (zs.take len0).length = len0 := by rw [List.length_take]; omega
    refine ⟨some a, cap0, zs.take len0, by rw [hlen], by rw [hlen]; omega, fun hne => ?_, fun x hx => ?_⟩
    · have hpos : 0 < len0 := by
        rcases Nat.eq_zero_or_pos len0 with h0 | h0
        · subst h0; simp at hne
        · exact h0
      have h0 := hi 0 (by omega)
      have ha := addr_of_cell h0
      have ha0 : a = ⟨a.block, a.off, none⟩ := by simpa [Addr.add] using ha
      have hlt := World.block_lt_of_cell? w _ h0
      rw [ha0] at hi hlt ⊢
      refine ⟨a.block, a.off, rfl, by simpa [Addr.add] using hlt, fun j hj => ?_⟩
      rw [List.length_map, hlen] at hj
      have := hi j (by omega)
      rw [add_plain] at this
      rw [this, List.getElem_map, List.getElem_take]
      simp [List.getD, show j < zs.length by omega]
    · have := hw x (List.mem_of_mem_take hx)
      simpa [Lit.wf, IntKind.min, IntKind.max, IntKind.signed, IntKind.bits] using this
end

end Go.Proofs.Ytmdocjiljjbijaa
namespace Go.Proofs.Ytmdocjiljjbijaa.ofLikeness
open Go.ChangeShapes Go.WideShapes Go.ChangeAt Go.RowKit
theorem own : ownKnob Try.prog.godebug = none := by kernel_rfl
theorem laidOut : laidOutB Try.prog = true := by kernel_rfl
set_option maxRecDepth 100000 in
theorem lifted (os : Os) (started : os.Started) (H : Type) (enc : TypeId × Value → H) :
    ReturnsInHanded {} Try.checked os 3 .any (Rows.fnLikenessSpec.pre6 enc Try.prog Try.f3 Rows.fnLikenessRow.domain false) (Rows.fnLikenessSpec.post enc Try.prog Try.f3 false true false false) := by
  refine returnsInHanded_of_change (C := Try.checked) own started (by kernel_rfl) Try.func3
    (ChangeSpec.witness6 (enc := enc) (C := Try.checked) false ⟨#[], #[.slice none 0 0, .slice none 0 0], []⟩ 8 (by kernel_rfl) (by kernel_rfl) (by kernel_rfl) (by kernel_rfl)) ?_
  intro W base args ds gs before hval0 hW hcnd _
  have hval : ∀ (j : Nat) t v, Try.f3.params[j]? = some t → args[j]? = some v → Value.okWide Try.prog W .any base t v := hval0
  have hW' := hW
  have hlt := fun p (hp : p ∈ before) => hW.lt p hp
  obtain ⟨p, q, hA0, hV, rfl, hfz, hnd⟩ := hW
  have hA : DataW.TrodAll enc Try.prog W 0 (fun _ => true) true Try.f3.params.toList args.toList ds p := hA0
  obtain ⟨rfl, rfl⟩ := trodVars_none hV
  simp only [List.append_nil] at hlt hW'
  have hback := fun W' hb => trodAll_below (W' := W') laidOut hb (by rw [Try.params3]; decide +kernel) hlt hA
  rw [Try.params3] at hA hval
  obtain ⟨v0, vs0, d0, ds0, p0, q0, hargs, rfl, rfl, h0, r0⟩ := trodAll_cons hA
  obtain ⟨v1, vs1, d1, ds1, p1, q1, rfl, rfl, rfl, h1, r1⟩ := trodAll_cons r0
  obtain ⟨rfl, rfl, rfl⟩ := trodAll_nil r1
  obtain rfl : args = #[v0, v1] := by cases args; simp_all
  obtain ⟨A, ka, code, rfl, hnl, hra, hca⟩ := open_bytes1 Try.underlying22 Try.underlying5 (by kernel_rfl) (hval 0 _ _ rfl rfl) h0
  obtain ⟨B, kb, more, rfl, hnm, hrb, hcb⟩ := open_bytes1 Try.underlying22 Try.underlying5 (by kernel_rfl) (hval 1 _ _ rfl rfl) h1
  refine (law_Likeness A B ka kb code more W hra hrb hca hcb).mono fun e W' ⟨he, bel⟩ => ?_
  subst he
  exact ⟨_, rfl, _, _, _, [], _, [], hW', trodAll_mk1 (shut_bool Try.underlying4 _), hback W' bel, rfl, bel.frame _, fun h => by cases h⟩
theorem over : Rows.fnLikenessRow.holds Try.pinned (OpenSpec.ofChange Rows.fnLikenessSpec) :=
  OpenClaim.holds_of_wide 3 Try.f3 rfl rfl rfl rfl rfl rfl rfl ⟨rfl, rfl, rfl, rfl, rfl⟩ rfl rfl rfl rfl rfl (by kernel_rfl) Try.func3 (by kernel_rfl)
    (of_decide_eq_true (by kernel_rfl)) (by unfold Func.isWrapper; first | (rw [if_pos (by decide +kernel)]; kernel_rfl) | (rw [if_neg (by decide +kernel)]; exact ⟨rfl, rfl⟩))
    (fun os started H enc _ => lifted os started H enc)
end Go.Proofs.Ytmdocjiljjbijaa.ofLikeness
namespace Go.Proofs.Ytmdocjiljjbijaa
theorem fnLikeness_holds : Rows.FnLikenessSaid := ofLikeness.over
#print axioms fnLikeness_holds
end Go.Proofs.Ytmdocjiljjbijaa
