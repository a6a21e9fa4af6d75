/-
  HammersNeeded in the program.
-/
import Derived.Test.YtobpnlhfinnfkaaWalkHN
import Derived.Laws.EntriesVeiled
namespace Go.Proofs.Ytobpnlhfinnfkaa
open Go.RowKit
set_option linter.unusedVariables false
set_option linter.unusedSimpArgs false
set_option maxRecDepth 4000

set_option maxHeartbeats 1000000 in
theorem c_hammersNeeded (s r : Int) (ats : List Int) (A : Option Addr) (c : Nat) (w : World) (hA : At1 .i64 w A ats) (hs : 2 ≤ s ∧ s ≤ 96) (hp : PreA s ats ats.length) (hl : ats.length ≤ 14) :
    Calls Try.prog 35 #[.int .i64 s, .int .i64 r, .slice A ats.length c] w fun e w' => e = .returned (.int .i64 (needN (nearK s r ats) ats.length : Int)) ∧ Below w.heap.size w w' := by
  have s1 : (w.alloc (.cells #[.int .i64 s] 2)).heap.size = w.heap.size + 1 := by simp
  have s2 : ((w.alloc (.cells #[.int .i64 s] 2)).alloc (.cells #[.int .i64 r] 2)).heap.size = w.heap.size + 1 + 1 := by simp
  have s3 : (((w.alloc (.cells #[.int .i64 s] 2)).alloc (.cells #[.int .i64 r] 2)).alloc (.cells #[.slice A ats.length c] 22)).heap.size = w.heap.size + 1 + 1 + 1 := by simp
  have s4 : ((((w.alloc (.cells #[.int .i64 s] 2)).alloc (.cells #[.int .i64 r] 2)).alloc (.cells #[.slice A ats.length c] 22)).alloc (.cells #[.func (.func 59) #[] #[.pointer (some ⟨w.heap.size, 0, none⟩), .pointer (some ⟨w.heap.size + 1, 0, none⟩)]] 63)).heap.size = w.heap.size + 1 + 1 + 1 + 1 := by simp
  have v0 : Var (((((w.alloc (.cells #[.int .i64 s] 2)).alloc (.cells #[.int .i64 r] 2)).alloc (.cells #[.slice A ats.length c] 22)).alloc (.cells #[.func (.func 59) #[] #[.pointer (some ⟨w.heap.size, 0, none⟩), .pointer (some ⟨w.heap.size + 1, 0, none⟩)]] 63)).alloc (.cells #[.func (.func 60) #[] #[.pointer (some ⟨w.heap.size + 1 + 1, 0, none⟩), .pointer (some ⟨w.heap.size + 1 + 1 + 1, 0, none⟩), .pointer (some ⟨w.heap.size + 1 + 1 + 1 + 1, 0, none⟩)]] 97)) (w.heap.size) #[.int .i64 s] 2 := by
    have := Var.new w #[.int .i64 s] 2
    exact ((((this.old _).old _).old _).old _)
  have v1 : Var (((((w.alloc (.cells #[.int .i64 s] 2)).alloc (.cells #[.int .i64 r] 2)).alloc (.cells #[.slice A ats.length c] 22)).alloc (.cells #[.func (.func 59) #[] #[.pointer (some ⟨w.heap.size, 0, none⟩), .pointer (some ⟨w.heap.size + 1, 0, none⟩)]] 63)).alloc (.cells #[.func (.func 60) #[] #[.pointer (some ⟨w.heap.size + 1 + 1, 0, none⟩), .pointer (some ⟨w.heap.size + 1 + 1 + 1, 0, none⟩), .pointer (some ⟨w.heap.size + 1 + 1 + 1 + 1, 0, none⟩)]] 97)) (w.heap.size + 1) #[.int .i64 r] 2 := by
    have := Var.new (w.alloc (.cells #[.int .i64 s] 2)) #[.int .i64 r] 2
    rw [s1] at this
    exact (((this.old _).old _).old _)
  have v2 : Var (((((w.alloc (.cells #[.int .i64 s] 2)).alloc (.cells #[.int .i64 r] 2)).alloc (.cells #[.slice A ats.length c] 22)).alloc (.cells #[.func (.func 59) #[] #[.pointer (some ⟨w.heap.size, 0, none⟩), .pointer (some ⟨w.heap.size + 1, 0, none⟩)]] 63)).alloc (.cells #[.func (.func 60) #[] #[.pointer (some ⟨w.heap.size + 1 + 1, 0, none⟩), .pointer (some ⟨w.heap.size + 1 + 1 + 1, 0, none⟩), .pointer (some ⟨w.heap.size + 1 + 1 + 1 + 1, 0, none⟩)]] 97)) (w.heap.size + 1 + 1) #[.slice A ats.length c] 22 := by
    have := Var.new ((w.alloc (.cells #[.int .i64 s] 2)).alloc (.cells #[.int .i64 r] 2)) #[.slice A ats.length c] 22
    rw [s2] at this
    exact ((this.old _).old _)
  have v3 : Var (((((w.alloc (.cells #[.int .i64 s] 2)).alloc (.cells #[.int .i64 r] 2)).alloc (.cells #[.slice A ats.length c] 22)).alloc (.cells #[.func (.func 59) #[] #[.pointer (some ⟨w.heap.size, 0, none⟩), .pointer (some ⟨w.heap.size + 1, 0, none⟩)]] 63)).alloc (.cells #[.func (.func 60) #[] #[.pointer (some ⟨w.heap.size + 1 + 1, 0, none⟩), .pointer (some ⟨w.heap.size + 1 + 1 + 1, 0, none⟩), .pointer (some ⟨w.heap.size + 1 + 1 + 1 + 1, 0, none⟩)]] 97)) (w.heap.size + 1 + 1 + 1) #[.func (.func 59) #[] #[.pointer (some ⟨w.heap.size, 0, none⟩), .pointer (some ⟨w.heap.size + 1, 0, none⟩)]] 63 := by
    have := Var.new (((w.alloc (.cells #[.int .i64 s] 2)).alloc (.cells #[.int .i64 r] 2)).alloc (.cells #[.slice A ats.length c] 22)) #[.func (.func 59) #[] #[.pointer (some ⟨w.heap.size, 0, none⟩), .pointer (some ⟨w.heap.size + 1, 0, none⟩)]] 63
    rw [s3] at this
    exact (this.old _)
  have v4 : Var (((((w.alloc (.cells #[.int .i64 s] 2)).alloc (.cells #[.int .i64 r] 2)).alloc (.cells #[.slice A ats.length c] 22)).alloc (.cells #[.func (.func 59) #[] #[.pointer (some ⟨w.heap.size, 0, none⟩), .pointer (some ⟨w.heap.size + 1, 0, none⟩)]] 63)).alloc (.cells #[.func (.func 60) #[] #[.pointer (some ⟨w.heap.size + 1 + 1, 0, none⟩), .pointer (some ⟨w.heap.size + 1 + 1 + 1, 0, none⟩), .pointer (some ⟨w.heap.size + 1 + 1 + 1 + 1, 0, none⟩)]] 97)) (w.heap.size + 1 + 1 + 1 + 1) #[.func (.func 60) #[] #[.pointer (some ⟨w.heap.size + 1 + 1, 0, none⟩), .pointer (some ⟨w.heap.size + 1 + 1 + 1, 0, none⟩), .pointer (some ⟨w.heap.size + 1 + 1 + 1 + 1, 0, none⟩)]] 97 := by
    have := Var.new ((((w.alloc (.cells #[.int .i64 s] 2)).alloc (.cells #[.int .i64 r] 2)).alloc (.cells #[.slice A ats.length c] 22)).alloc (.cells #[.func (.func 59) #[] #[.pointer (some ⟨w.heap.size, 0, none⟩), .pointer (some ⟨w.heap.size + 1, 0, none⟩)]] 63)) #[.func (.func 60) #[] #[.pointer (some ⟨w.heap.size + 1 + 1, 0, none⟩), .pointer (some ⟨w.heap.size + 1 + 1 + 1, 0, none⟩), .pointer (some ⟨w.heap.size + 1 + 1 + 1 + 1, 0, none⟩)]] 97
    rw [s4] at this
    exact this
  have B5 : Below w.heap.size w (((((w.alloc (.cells #[.int .i64 s] 2)).alloc (.cells #[.int .i64 r] 2)).alloc (.cells #[.slice A ats.length c] 22)).alloc (.cells #[.func (.func 59) #[] #[.pointer (some ⟨w.heap.size, 0, none⟩), .pointer (some ⟨w.heap.size + 1, 0, none⟩)]] 63)).alloc (.cells #[.func (.func 60) #[] #[.pointer (some ⟨w.heap.size + 1 + 1, 0, none⟩), .pointer (some ⟨w.heap.size + 1 + 1 + 1, 0, none⟩), .pointer (some ⟨w.heap.size + 1 + 1 + 1 + 1, 0, none⟩)]] 97)) := balloc (balloc (balloc (balloc (balloc (Below.refl _ w) _) _) _) _) _
  obtain ⟨wa, hwa⟩ : ∃ x, x = (((((w.alloc (.cells #[.int .i64 s] 2)).alloc (.cells #[.int .i64 r] 2)).alloc (.cells #[.slice A ats.length c] 22)).alloc (.cells #[.func (.func 59) #[] #[.pointer (some ⟨w.heap.size, 0, none⟩), .pointer (some ⟨w.heap.size + 1, 0, none⟩)]] 63)).alloc (.cells #[.func (.func 60) #[] #[.pointer (some ⟨w.heap.size + 1 + 1, 0, none⟩), .pointer (some ⟨w.heap.size + 1 + 1 + 1, 0, none⟩), .pointer (some ⟨w.heap.size + 1 + 1 + 1 + 1, 0, none⟩)]] 97)) := ⟨_, rfl⟩
  have HW := Lib.hid hwa
  rw [← hwa] at v0 v1 v2 v3 v4 B5
  have HF : Hid (FitW w.heap.size (w.heap.size + 1) (w.heap.size + 1 + 1) (w.heap.size + 1 + 1 + 1) (w.heap.size + 1 + 1 + 1 + 1) s r A c ats wa) := Lib.hid ⟨v0.cell rfl, v1.cell rfl, v2.cell rfl, v3.cell rfl, v4.cell rfl, hA.below B5⟩
  have HB := Lib.hid B5
  clear v0 v1 v2 v3 v4 B5 s1 s2 s3 s4
  go_enter Try.func35, Try.ntmps35
  go_upto_region 4 with fail
  rw [← hwa]
  clear hwa HW
  go_wp2
  go_loopw [9] (fun mv w' => ∃ m : Nat, mv = .int .i64 (m : Int) ∧ m ≤ ats.length ∧ (∀ j, j < m → splitG (nearK s r ats) j ats.length [] 0 = false) ∧ Below w.heap.size w w' ∧ FitW w.heap.size (w.heap.size + 1) (w.heap.size + 1 + 1) (w.heap.size + 1 + 1 + 1) (w.heap.size + 1 + 1 + 1 + 1) s r A c ats w') (fun mv _ => ats.length - (intOf mv).toNat)
  case atStart => exact ⟨0, rfl, by omega, fun _ h => absurd h (by omega), HB.out, HF.out⟩
  case round =>
    obtain ⟨m, rfl, hm, hz, hb, hfw⟩ := hrel
    have HZ := Lib.hid hz
    have f8 := hfw.2.2.2.2.1
    have HC := Lib.hid (c_fits _ _ _ _ _ s r ats A c m hs hp hl (by omega) ats.length [] 0 none 0 wr hfw (At1.nil _ _ _) (by simp) (by simp))
    have HFW := Lib.hid hfw
    clear hz hfw
    rcases ht : splitG (nearK s r ats) m ats.length [] 0 with _ | _
    · have hmn := few_lt ht
      have HT := Lib.hid ht
      clear ht
      go_wp2_with fail
      refine HC.out.mono ?_
      rintro e w1 ⟨rfl, b1⟩
      rw [HT.out]
      have B2 := bstep hb b1
      clear f8
      go_wp2
      go_roundw
      case rel => exact ⟨m + 1, by go_num, by omega, fun j hj => by
        by_cases e : j = m
        · subst e; exact HT.out
        · exact HZ.out j (by omega), B2, HFW.out.below b1⟩
      case measure => simp [intOf]; omega
    · have HT := Lib.hid ht
      have HN := Lib.hid (needN_eq (n := ats.length) ⟨ht, HZ.out⟩)
      clear ht
      go_wp2_with fail
      refine HC.out.mono ?_
      rintro e w1 ⟨rfl, b1⟩
      rw [HT.out]
      have B2 := bstep hb b1
      clear f8
      go_wp2
      go_ret
      exact ⟨ret_int (by rw [HN.out]), B2⟩

theorem c_isReady (s r : Int) (w : World) :
    Calls Try.prog 33 #[.int .i64 s, .int .i64 r] w fun e w' => e = .returned (.bool (szB s r)) ∧ w = w' := by
  have hmin : (if s < 20 then s else 20) = min 20 s := by split <;> omega
  have hz : ∀ b, inB r 1 (min 20 s) = b → szB s r = (inB s 2 96 && b) := fun b hb => by
    unfold szB
    rw [← hb]
    congr 1
    rw [Bool.eq_iff_iff, Bool.and_eq_true, inB_iff, inB_iff, decide_eq_true_eq]
    omega
  have HZ := Lib.hid hz
  obtain ⟨mn, hmn⟩ : ∃ x, min 20 s = x := ⟨_, rfl⟩
  rw [hmn] at hmin HZ
  clear hz hmn
  rcases e1 : inB s 2 96 with _ | _
  · have HS := Lib.hid (HZ.out _ rfl)
    go_enter Try.func33, Try.ntmps33
    go_wp2_with (go_at_call 34; refine (c_within _ _ _ _).mono ?_; rintro e w' ⟨rfl, rfl⟩; rw [e1])
    go_ret
    exact ⟨ret_bool (by rw [HS.out, e1]; rfl), rfl⟩
  · rcases e2 : inB r 1 mn with _ | _
    all_goals
      have HS := Lib.hid (HZ.out _ e2)
      go_enter Try.func33, Try.ntmps33
      go_wp2_with (go_at_call 34; refine (c_within _ _ _ _).mono ?_; rintro e w' ⟨rfl, rfl⟩; first | rw [e1] | rw [e2])
      go_ret
      exact ⟨ret_bool (by rw [HS.out, e1]; rfl), rfl⟩

set_option maxHeartbeats 1000000 in
theorem c_implHammersNeeded (s r : Int) (A : Option Addr) (c : Nat) (ats : List Int) (w : World) (hA : At1 .i64 w A ats) (hn : ats.length ≤ 1073741824) (hbs : -9223372036854775808 ≤ s ∧ s ≤ 9223372036854775807) (hbr : -9223372036854775808 ≤ r ∧ r ≤ 9223372036854775807) :
    Calls Try.prog 9 #[.int .i64 s, .int .i64 r, .slice A ats.length c] w fun e w' => e = .returned (.tuple #[.int .i64 (rHN s r ats), .int .i64 (cHN s r ats)]) ∧ Below w.heap.size w w' := by
  rcases hsz : szB s r with _ | _
  · have HR := Lib.hid (HN_no (l := ats) hsz)
    go_enter Try.func9, Try.ntmps9
    go_wp2_with fail
    refine (c_isReady s r _).mono ?_
    rintro e w' ⟨rfl, rfl⟩
    rw [hsz]
    go_wp2
    go_ret2
    exact ⟨by rw [HR.out.1, HR.out.2]; rfl, Below.refl _ _⟩
  · have hsb := szB_bd hsz
    have HSZ := Lib.hid hsz
    clear hsz
    obtain ⟨s1, s2, r1, r2, r3⟩ := hsb
    have hw2 : IntKind.i64.wrap (s - 1) = s - 1 := IntWalk.i64_in _ (by omega)
    go_enter Try.func9, Try.ntmps9
    go_wp2_with fail
    refine (c_isReady s r _).mono ?_
    rintro e w' ⟨rfl, rfl⟩
    rw [HSZ.out]
    go_wp2
    go_loopw [16] (fun iv w' => ∃ i : Nat, iv = .int .i64 (i : Int) ∧ i ≤ ats.length ∧ PreA s ats i ∧ w = w') (fun iv _ => ats.length - (intOf iv).toNat)
    case atStart => exact ⟨0, rfl, by omega, PreA.zero _ _, rfl⟩
    case round =>
      obtain ⟨i, rfl, hi, hpre, rfl⟩ := hrel
      have HP := Lib.hid hpre
      clear hpre
      by_cases hlt : i < ats.length
      · obtain ⟨b1, off1, hA1, hbl1, hc1⟩ := hA.get (by omega)
        subst hA1
        have x1 := hc1 i hlt
        have hdi : decide ((i : Int) < (ats.length : Int)) = true := decide_eq_true (by omega)
        have hi1 : (i : Int) < (ats.length : Int) := by omega
        rcases hin : inB ats[i] 0 (s - 1) with _ | _
        · have hnp : ¬ PreA s ats ats.length := fun H => by
            have h1 := H i hlt hlt
            exact inB_not.1 hin ⟨h1.1.1, h1.1.2⟩
          have HR := Lib.hid (HN_bad (l := ats) HSZ.out hnp)
          have HIN := Lib.hid hin
          clear hnp hin hc1
          go_wp2_with fail
          refine (c_within _ _ _ _).mono ?_
          rintro e w' ⟨rfl, rfl⟩
          rw [HIN.out]
          go_wp2
          go_ret2
          exact ⟨by rw [HR.out.1, HR.out.2]; rfl, Below.refl _ _⟩
        · have hb := inB_iff.1 hin
          have HIN := Lib.hid hin
          clear hin
          rcases Nat.eq_zero_or_pos i with e0 | e0
          · have hd0 : decide (0 < (i : Int)) = false := decide_eq_false (by omega)
            have hd00 : decide (0 < i) = false := decide_eq_false (by omega)
            have E0 := Lib.hid e0
            clear hc1 e0
            go_wp2_with fail
            refine (c_within _ _ _ _).mono ?_
            rintro e w' ⟨rfl, rfl⟩
            rw [HIN.out]
            go_wp2
            go_roundw
            case rel => exact ⟨i + 1, by go_num, by omega, HP.out.succ hlt ⟨by omega, by omega⟩ (fun h0 => absurd h0 (by have := E0.out; omega)), by first | rfl | trivial⟩
            case measure => simp [intOf]; omega
          · have x2 := hc1 (i - 1) (by omega)
            have hw1 : IntKind.i64.wrap ((i:Int) - 1) = (i:Int) - 1 := IntWalk.i64_in _ (by omega)
            have hw2 : (0:Int) ≤ (i:Int) - 1 := by omega
            have hw3 : ((i:Int) - 1).toNat = i - 1 := by omega
            have hd0 : decide (0 < (i : Int)) = true := decide_eq_true (by omega)
            have hi2 : ((i : Int) - 1) < (ats.length : Int) := by omega
            clear hc1
            rcases hle : decide (ats[i] ≤ ats[i - 1]) with _ | _
            · have hle2 := of_decide_eq_false hle
              go_wp2_with fail
              refine (c_within _ _ _ _).mono ?_
              rintro e w' ⟨rfl, rfl⟩
              rw [HIN.out]
              go_wp2
              go_roundw
              case rel => exact ⟨i + 1, by go_num, by omega, HP.out.succ hlt ⟨by omega, by omega⟩ (fun h0 => by omega), by first | rfl | trivial⟩
              case measure => simp [intOf]; omega
            · have hnp : ¬ PreA s ats ats.length := fun H => by
                have h1 := (H i hlt hlt).2 e0
                have := of_decide_eq_true hle
                omega
              have HR := Lib.hid (HN_bad (l := ats) HSZ.out hnp)
              clear hnp
              go_wp2_with fail
              refine (c_within _ _ _ _).mono ?_
              rintro e w' ⟨rfl, rfl⟩
              rw [HIN.out]
              go_wp2
              go_ret2
              exact ⟨by rw [HR.out.1, HR.out.2]; rfl, Below.refl _ _⟩
      · obtain rfl : i = ats.length := by omega
        have hdi : decide ((ats.length : Int) < (ats.length : Int)) = false := decide_eq_false (by omega)
        by_cases h14 : ats.length ≤ 14
        · have hdl : decide (14 < (ats.length : Int)) = false := decide_eq_false (by omega)
          have HR := Lib.hid (HN_ok HSZ.out HP.out h14)
          go_wp2_with fail
          refine (c_hammersNeeded s r ats A c _ hA ⟨s1, s2⟩ HP.out h14).mono ?_
          rintro e w1 ⟨rfl, b1⟩
          go_wp2
          go_ret2
          exact ⟨by rw [HR.out.1, HR.out.2]; rfl, b1⟩
        · have hdl : decide (14 < (ats.length : Int)) = true := decide_eq_true (by omega)
          have HR := Lib.hid (HN_many HSZ.out HP.out h14)
          go_wp2
          go_ret2
          exact ⟨by rw [HR.out.1, HR.out.2]; rfl, Below.refl _ _⟩

end Go.Proofs.Ytobpnlhfinnfkaa
