/-
  The reference's source of numbers, the tunes and bells that are drawn from it.
-/
import Derived.Test.YtnakdlfjjeligaaGreatWalkE
import Derived.Test.YtnakdlfjjeligaaGreatWalkD
import Derived.Test.YtnakdlfjjeligaaGreatWalkS
import Derived.Test.YtnakdlfjjeligaaGreatData
import Derived.Test.YtnakdlfjjeligaaGreatPure
import Derived.Laws.BitsLemmas
namespace Go.Proofs.YtnakdlfjjeligaaGreat
open Go.RowKit
set_option linter.unusedVariables false
set_option linter.unusedSimpArgs false
set_option maxRecDepth 4000

theorem wrapU64 (n : Int) : IntKind.u64.wrap n = n % 18446744073709551616 := by simp [IntKind.wrap, IntKind.bits, IntKind.signed]
theorem wrapU64_bd (n : Int) : 0 ≤ IntKind.u64.wrap n ∧ IntKind.u64.wrap n < 18446744073709551616 := by rw [wrapU64]; omega
theorem wraps_u64 (n : Int) (h₀ : 0 ≤ n) (h₁ : n < 2 ^ 64) : IntKind.u64.wrap n = n := by rw [wrapU64]; omega
theorem u64_and255 {x : Int} (h₀ : 0 ≤ x) (h₁ : x < 18446744073709551616) : bits .and .u64 x 255 = x % 256 := bits_mask .u64 64 (by decide) wraps_u64 8 (by decide) x h₀ (by omega)
/-- A source lies in block b: its bytes, how many were read, its seed. -/
def Src (w : World) (b : Nat) (A : Option Addr) (c : Nat) (code : List Int) (k sd : Int) : Prop :=
  Var w b #[.slice A code.length c, .int .i64 k, .int .u64 sd] 103 ∧ At1 .u8 w A code ∧ (∀ x ∈ code, 0 ≤ x ∧ x ≤ 255) ∧ code.length ≤ 1000000 ∧ 0 ≤ k ∧ k ≤ 1000000000 ∧ 0 ≤ sd ∧ sd < 18446744073709551616
theorem At1.grown {k : IntKind} {w w' : World} {A : Option Addr} {l : List Int} {b : Nat} (h : At1 k w A l) (hg : w.grownBy w' (some b)) (hb : l ≠ [] → ∀ a, A = some a → a.block ≠ b) : At1 k w' A l := fun hne => by
  obtain ⟨g, off, e, hlt, hc⟩ := h hne
  refine ⟨g, off, e, Nat.lt_of_lt_of_le hlt hg.size, fun j hj => hg.cell (hc j hj) (fun e2 => hb (fun e0 => hne (by rw [e0]; rfl)) ⟨g, off, none⟩ e (by simpa using e2))⟩

theorem Src.alloc {w : World} {b : Nat} {A : Option Addr} {c : Nat} {code : List Int} {k sd : Int} (h : Src w b A c code k sd) (o : Obj) : Src (w.alloc o) b A c code k sd := ⟨h.1.old o, h.2.1.below ((Below.refl _ _).alloc (Nat.le_refl _) o), h.2.2⟩
theorem Src.below {w w' : World} {b : Nat} {A : Option Addr} {c : Nat} {code : List Int} {k sd : Int} (h : Src w b A c code k sd) (hb : Below w.heap.size w w') : Src w' b A c code k sd := ⟨h.1.below hb, h.2.1.below hb, h.2.2⟩
theorem Src.grownS {w w' : World} {b : Nat} {A : Option Addr} {c : Nat} {code : List Int} {k sd : Int} {row : Option Nat} (h : Src w b A c code k sd) (hg : w.grownBy w' row) (hne : row ≠ some b) (hA : code ≠ [] → ∀ a, A = some a → some a.block ≠ row) : Src w' b A c code k sd :=
  ⟨h.1.grown hg hne, fun hn => by
    obtain ⟨g, off, e, hlt, hc⟩ := h.2.1 hn
    exact ⟨g, off, e, Nat.lt_of_lt_of_le hlt hg.size, fun j hj => hg.cell (hc j hj) (show some g ≠ row from hA (fun e0 => hn (by rw [e0]; rfl)) ⟨g, off, none⟩ e)⟩, h.2.2⟩
set_option maxHeartbeats 1000000 in
theorem c_next (b : Nat) (A : Option Addr) (c : Nat) (code : List Int) (k sd : Int) (w : World) (h : Src w b A c code k sd) (hk : k ≤ 900000000) (hA : code ≠ [] → ∀ a, A = some a → a.block ≠ b) :
    Calls Tryz.prog 88 #[.pointer (some ⟨b, 0, none⟩)] w fun e w' => ∃ r sd' : Int, e = .returned (.int .i64 r) ∧ (0 ≤ r ∧ r ≤ 255) ∧ Src w' b A c code (k + 1) sd' ∧ w.grownBy w' (some b) := by
  obtain ⟨hv, hat, hcd, hcl, hk0, hk1, hs0, hs1⟩ := h
  have hw1 : IntKind.i64.wrap (k + 1) = k + 1 := IntWalk.i64_in _ (by omega)
  obtain ⟨e1, he1⟩ : ∃ e, IntKind.u64.wrap (sd * 6364136223846793005) = e := ⟨_, rfl⟩
  have x1 : ∀ x : After w, x.w.cell? ⟨b, 0, none⟩ = some (.slice A code.length c) := fun x => keepc (hv.cell (i := 0) rfl) x.below
  have x2 : ∀ x : After w, x.w.cell? ⟨b, 1, none⟩ = some (.int .i64 k) := fun x => keepc (hv.cell (i := 1) rfl) x.below
  have HV := Lib.hid hv
  have HAT := Lib.hid hat
  have HCD := Lib.hid hcd
  have HG := Lib.hid hA
  clear hv hcd
  by_cases hlt : k < (code.length : Int)
  · obtain ⟨n, hn⟩ : ∃ n : Nat, k = (n : Int) := ⟨k.toNat, by omega⟩
    subst hn
    have hn2 : n < code.length := by omega
    obtain ⟨g, off, hAe, hgl, hc⟩ := hat.get (by omega)
    subst hAe
    have x3 : ∀ x : After w, _ := fun x => (x.cell hgl).trans (hc n hn2)
    have hcb := HCD.out _ (List.getElem_mem hn2)
    obtain ⟨v, hvv⟩ : ∃ v, code[n] = v := ⟨_, rfl⟩
    rw [hvv] at hcb x3
    clear hc hat hvv
    have hd1 : decide ((n : Int) < (code.length : Int)) = true := decide_eq_true hlt
    have hd2 : decide ((n : Int) + 1 ≤ (code.length : Int)) = true := decide_eq_true (by omega)
    have hwv : IntKind.i64.wrap v = v := IntWalk.i64_in _ (by omega)
    obtain ⟨e2, he2⟩ : ∃ e, IntKind.u64.wrap v = e := ⟨_, rfl⟩
    obtain ⟨e3, he3⟩ : ∃ e, IntKind.u64.wrap (e1 + e2) = e := ⟨_, rfl⟩
    obtain ⟨e4, he4⟩ : ∃ e, IntKind.u64.wrap (e3 + 1442695040888963407) = e := ⟨_, rfl⟩
    have hb4 := Lib.hid (show 0 ≤ e4 ∧ e4 < 18446744073709551616 by rw [← he4]; exact wrapU64_bd _)
    go_enter Tryz.func88, Tryz.ntmps88
    go_wp2
    refine region_after (by kernel_rfl) (by kernel_rfl) ?_
    repeat (go_big_quiet_step (fail))
    refine wpQuiet_nil ?_
    rintro _ ⟨x, rfl⟩
    have HX := Lib.hid x.below
    have x1b := fun x' : After x.w => keepc (x1 x) x'.below
    have x2b := fun x' : After x.w => keepc (x2 x) x'.below
    have x3b := fun x' : After x.w => keepc (x3 x) x'.below
    clear x1 x2 x3
    go_wp2
    refine region_after (by kernel_rfl) (by kernel_rfl) ?_
    repeat (go_big_quiet_step (fail))
    refine wpQuiet_nil ?_
    rintro _ ⟨x, rfl⟩
    rename_i xo x
    have B2 := bstep HX.out x.below
    have HB2 := Lib.hid B2
    have V2 := HV.out.below B2
    have f1 := V2.cell (i := 1) rfl
    have f2 := V2.cell (i := 2) rfl
    have g1 := V2.frozen 1
    have g2 := V2.frozen 2
    have HV2 := Lib.hid V2
    clear x1b x2b x3b B2 V2
    go_upto_region 6 with fail
    have V5 := (HV2.out.set 1 (.int .i64 ((n : Int) + 1))).set 2 (.int .u64 e4)
    have G5 : w.grownBy ((x.w.setCell ⟨b, 1, none⟩ (.int .i64 ((n : Int) + 1))).setCell ⟨b, 2, none⟩ (.int .u64 e4)) (some b) := gset (gset (gbelow HB2.out (some b)) (.inl rfl) _) (.inl rfl) _
    obtain ⟨w5, hw5⟩ : ∃ u, (x.w.setCell ⟨b, 1, none⟩ (.int .i64 ((n : Int) + 1))).setCell ⟨b, 2, none⟩ (.int .u64 e4) = u := ⟨_, rfl⟩
    rw [hw5] at V5 G5 ⊢
    clear hw5 f1 f2 g1 g2
    have V6 : Var w5 b #[.slice (some ⟨g, off, none⟩) code.length c, .int .i64 ((n : Int) + 1), .int .u64 e4] 103 := V5
    have y1 : ∀ x : After w5, _ := fun x => keepc (V6.cell (i := 0) rfl) x.below
    have y2 : ∀ x : After w5, _ := fun x => keepc (V6.cell (i := 1) rfl) x.below
    have HV6 := Lib.hid V6
    have HG5 := Lib.hid G5
    clear V5 V6 G5
    refine region_after (by kernel_rfl) (by kernel_rfl) ?_
    repeat (go_big_quiet_step (fail))
    refine wpQuiet_nil ?_
    rintro _ ⟨x, rfl⟩
    rename_i x2 x
    have HB6 := Lib.hid x.below
    clear y1 y2
    go_wp2
    go_ret
    exact ⟨v, e4, rfl, hcb, ⟨HV6.out.below HB6.out, (HAT.out.grown HG5.out HG.out).below HB6.out, HCD.out, hcl, by omega, by omega, hb4.out⟩, HG5.out.trans (gbelow HB6.out _)⟩
  · have hd1 : decide (k < (code.length : Int)) = false := decide_eq_false hlt
    have hd2 : decide (k + 1 ≤ (code.length : Int)) = false := decide_eq_false (by omega)
    obtain ⟨e3, he3⟩ : ∃ e, IntKind.u64.wrap e1 = e := ⟨_, rfl⟩
    obtain ⟨e4, he4⟩ : ∃ e, IntKind.u64.wrap (e3 + 1442695040888963407) = e := ⟨_, rfl⟩
    have hz0 : IntKind.u64.wrap 0 = 0 := IntWalk.u64_in _ (by omega)
    have hb4' : 0 ≤ e4 ∧ e4 < 18446744073709551616 := by rw [← he4]; exact wrapU64_bd _
    have hb4 := Lib.hid hb4'
    obtain ⟨q, hq⟩ : ∃ q, e4 / 1099511627776 = q := ⟨_, rfl⟩
    have hqb : 0 ≤ q ∧ q < 18446744073709551616 := by rw [← hq]; omega
    have hwq : IntKind.u64.wrap q = q := IntWalk.u64_in _ (by omega)
    obtain ⟨r, hr⟩ : ∃ r, bits .and .u64 q 255 = r := ⟨_, rfl⟩
    have hrb : 0 ≤ r ∧ r ≤ 255 := by rw [← hr, u64_and255 hqb.1 hqb.2]; omega
    have HRB := Lib.hid hrb
    have hwr : IntKind.u64.wrap r = r := IntWalk.u64_in _ (by omega)
    have hwr2 : IntKind.i64.wrap r = r := IntWalk.i64_in _ (by omega)
    clear hb4' hqb hrb
    go_enter Tryz.func88, Tryz.ntmps88
    go_wp2
    refine region_after (by kernel_rfl) (by kernel_rfl) ?_
    repeat (go_big_quiet_step (fail))
    refine wpQuiet_nil ?_
    rintro _ ⟨x, rfl⟩
    have HX := Lib.hid x.below
    have V2 := HV.out.below HX.out
    have f1 := V2.cell (i := 1) rfl
    have f2 := V2.cell (i := 2) rfl
    have g1 := V2.frozen 1
    have g2 := V2.frozen 2
    have HV2 := Lib.hid V2
    clear x1 x2 V2
    go_upto_region 6 with fail
    have V5 := (HV2.out.set 1 (.int .i64 (k + 1))).set 2 (.int .u64 e4)
    have G5 : w.grownBy ((x.w.setCell ⟨b, 1, none⟩ (.int .i64 (k + 1))).setCell ⟨b, 2, none⟩ (.int .u64 e4)) (some b) := gset (gset (gbelow HX.out (some b)) (.inl rfl) _) (.inl rfl) _
    obtain ⟨w5, hw5⟩ : ∃ u, (x.w.setCell ⟨b, 1, none⟩ (.int .i64 (k + 1))).setCell ⟨b, 2, none⟩ (.int .u64 e4) = u := ⟨_, rfl⟩
    rw [hw5] at V5 G5 ⊢
    clear hw5 f1 f2 g1 g2
    have V6 : Var w5 b #[.slice A code.length c, .int .i64 (k + 1), .int .u64 e4] 103 := V5
    have y1 : ∀ x : After w5, _ := fun x => keepc (V6.cell (i := 0) rfl) x.below
    have y2 : ∀ x : After w5, _ := fun x => keepc (V6.cell (i := 1) rfl) x.below
    have HV6 := Lib.hid V6
    have HG5 := Lib.hid G5
    clear V5 V6 G5
    refine region_after (by kernel_rfl) (by kernel_rfl) ?_
    repeat (go_big_quiet_step (fail))
    refine wpQuiet_nil ?_
    rintro _ ⟨x, rfl⟩
    rename_i x2 x
    have HB6 := Lib.hid x.below
    have f3 := (HV6.out.below HB6.out).cell (i := 2) rfl
    clear y1 y2
    go_wp2
    go_ret
    exact ⟨r, e4, rfl, HRB.out, ⟨HV6.out.below HB6.out, (HAT.out.grown HG5.out HG.out).below HB6.out, HCD.out, hcl, by omega, by omega, hb4.out⟩, HG5.out.trans (gbelow HB6.out _)⟩

set_option maxHeartbeats 1000000 in
theorem c_pick (b : Nat) (A : Option Addr) (c : Nat) (code : List Int) (k sd n : Int) (w : World) (h : Src w b A c code k sd) (hk : k ≤ 800000000) (hA : code ≠ [] → ∀ a, A = some a → a.block ≠ b) (hn : 2 ≤ n ∧ n ≤ 268435456) :
    Calls Tryz.prog 63 #[.pointer (some ⟨b, 0, none⟩), .int .i64 n] w fun e w' => ∃ r k' sd' : Int, e = .returned (.int .i64 r) ∧ (0 ≤ r ∧ r < n) ∧ (k ≤ k' ∧ k' ≤ k + 2) ∧ Src w' b A c code k' sd' ∧ w.grownBy w' (some b) := by
  obtain ⟨hn1, hn2⟩ := hn
  have hd1 : decide (n ≤ 1) = false := decide_eq_false (by omega)
  have hn0 : ¬ n = 0 := by omega
  by_cases hbig : 200 < n
  · have hd2 : decide (200 < n) = true := decide_eq_true hbig
    go_enter Tryz.func63, Tryz.ntmps63
    go_wp2_with fail
    refine (c_next b A c code k sd w h (by omega) hA).mono ?_
    rintro e w1 ⟨r1, sd1, rfl, ⟨p1, p2⟩, s1, g1⟩
    have hw1 : IntKind.i64.wrap (r1 * 256) = r1 * 256 := IntWalk.i64_in _ (by omega)
    have S1 := Lib.hid s1
    clear s1
    go_wp2_with fail
    refine (c_next b A c code (k + 1) sd1 w1 S1.out (by omega) hA).mono ?_
    rintro e w2 ⟨r2, sd2, rfl, ⟨p3, p4⟩, s2, g2⟩
    have S2 := Lib.hid s2
    clear s2
    have hw2 : IntKind.i64.wrap (r1 * 256 + r2) = r1 * 256 + r2 := IntWalk.i64_in _ (by omega)
    obtain ⟨q, hq⟩ : ∃ q, r1 * 256 + r2 = q := ⟨_, rfl⟩
    rw [hq] at hw2
    have hq0 : 0 ≤ q := by omega
    have ht : Int.tmod q n = q % n := Int.tmod_eq_emod_of_nonneg hq0
    have m1 := Int.emod_nonneg q hn0
    have m2 := Int.emod_lt_of_pos q (show 0 < n by omega)
    have hw3 : IntKind.i64.wrap (q % n) = q % n := IntWalk.i64_in _ (by omega)
    go_wp2
    go_ret
    exact ⟨q % n, k + 1 + 1, sd2, rfl, ⟨m1, m2⟩, by omega, S2.out, g1.trans g2⟩
  · have hd2 : decide (200 < n) = false := decide_eq_false hbig
    go_enter Tryz.func63, Tryz.ntmps63
    go_wp2_with fail
    refine (c_next b A c code k sd w h (by omega) hA).mono ?_
    rintro e w1 ⟨r1, sd1, rfl, ⟨p1, p2⟩, s1, g1⟩
    have S1 := Lib.hid s1
    clear s1
    have ht : Int.tmod r1 n = r1 % n := Int.tmod_eq_emod_of_nonneg p1
    have m1 := Int.emod_nonneg r1 hn0
    have m2 := Int.emod_lt_of_pos r1 (show 0 < n by omega)
    have hw3 : IntKind.i64.wrap (r1 % n) = r1 % n := IntWalk.i64_in _ (by omega)
    go_wp2
    go_ret
    exact ⟨r1 % n, k + 1, sd1, rfl, ⟨m1, m2⟩, by omega, S1.out, g1⟩
theorem c_one (b : Nat) (A : Option Addr) (c : Nat) (code : List Int) (k sd n : Int) (w : World) (h : Src w b A c code k sd) (hk : k ≤ 800000000) (hA : code ≠ [] → ∀ a, A = some a → a.block ≠ b) (hn : 2 ≤ n ∧ n ≤ 268435456) :
    Calls Tryz.prog 64 #[.pointer (some ⟨b, 0, none⟩), .int .i64 n] w fun e w' => ∃ (r : Bool) (k' sd' : Int), e = .returned (.bool r) ∧ (k ≤ k' ∧ k' ≤ k + 2) ∧ Src w' b A c code k' sd' ∧ w.grownBy w' (some b) := by
  go_enter Tryz.func64, Tryz.ntmps64
  go_wp2_with fail
  refine (c_pick b A c code k sd n w h hk hA hn).mono ?_
  rintro e w1 ⟨r1, k1, sd1, rfl, hr, hk1, s1, g1⟩
  have S1 := Lib.hid s1
  clear s1
  go_wp2
  go_ret
  exact ⟨_, k1, sd1, rfl, hk1, S1.out, g1⟩
theorem c_l00From (A : Option Addr) (c : Nat) (code : List Int) (w : World) :
    Calls Tryz.prog 31 #[.slice A code.length c] w fun e w' => e = .returned (.pointer (some ⟨w.heap.size, 0, none⟩)) ∧ w' = w.alloc (.cells #[.slice A code.length c, .int .i64 0, .int .u64 0] 103) := by
  have hu := Tryz.underlying103
  go_enter Tryz.func31, Tryz.ntmps31
  go_wp2
  go_ret
  exact ⟨rfl, rfl⟩
theorem c_a2Long (A B : Option Addr) (c d n m : Nat) (w : World) :
    Calls Tryz.prog 4 #[.slice A n c, .slice B m d] w fun e w' => e = .returned (.bool (decide (3000 < n) || decide (3000 < m))) ∧ w = w' := by
  by_cases h1 : 3000 < n
  · have hd : decide (3000 < (n : Int)) = true := decide_eq_true (by omega)
    go_enter Tryz.func4, Tryz.ntmps4
    go_wp2
    go_ret
    exact ⟨ret_bool (by rw [decide_eq_true h1]; rfl), rfl⟩
  · have hd : decide (3000 < (n : Int)) = false := decide_eq_false (by omega)
    by_cases h2 : 3000 < m
    · have hd2 : decide (3000 < (m : Int)) = true := decide_eq_true (by omega)
      go_enter Tryz.func4, Tryz.ntmps4
      go_wp2
      go_ret
      exact ⟨ret_bool (by rw [decide_eq_true h2, Bool.or_true]), rfl⟩
    · have hd2 : decide (3000 < (m : Int)) = false := decide_eq_false (by omega)
      go_enter Tryz.func4, Tryz.ntmps4
      go_wp2
      go_ret
      exact ⟨ret_bool (by rw [decide_eq_false h1, decide_eq_false h2]; rfl), rfl⟩
theorem c_a2At (A : Option Addr) (c : Nat) (code : List Int) (i : Nat) (n : Int) (w : World) (h : At1 .u8 w A code) (hcd : ∀ x ∈ code, 0 ≤ x ∧ x ≤ 255) (hn : 1 ≤ n ∧ n ≤ 1000000) :
    Calls Tryz.prog 7 #[.slice A code.length c, .int .i64 (i : Int), .int .i64 n] w fun e w' => ∃ r : Int, e = .returned (.int .i64 r) ∧ (0 ≤ r ∧ r < n) ∧ w = w' := by
  obtain ⟨n1, n2⟩ := hn
  by_cases hlt : i < code.length
  · obtain ⟨g, off, hAe, hgl, hc⟩ := h.get (by omega)
    subst hAe
    have x1 := hc i hlt
    have hb := hcd _ (List.getElem_mem hlt)
    obtain ⟨v, hv⟩ : ∃ v, code[i] = v := ⟨_, rfl⟩
    rw [hv] at x1 hb
    have hd1 : decide ((code.length : Int) ≤ (i : Int)) = false := decide_eq_false (by omega)
    have hd2 : decide (n < 1) = false := decide_eq_false (by omega)
    have hwv : IntKind.i64.wrap v = v := IntWalk.i64_in _ (by omega)
    have hn0 : ¬ n = 0 := by omega
    have ht : Int.tmod v n = v % n := Int.tmod_eq_emod_of_nonneg hb.1
    have m1 := Int.emod_nonneg v hn0
    have m2 := Int.emod_lt_of_pos v (show 0 < n by omega)
    have hw3 : IntKind.i64.wrap (v % n) = v % n := IntWalk.i64_in _ (by omega)
    have hi1 : (i : Int) < (code.length : Int) := by omega
    clear hc hv
    go_enter Tryz.func7, Tryz.ntmps7
    go_wp2
    go_ret
    exact ⟨v % n, rfl, ⟨m1, m2⟩, rfl⟩
  · have hd1 : decide ((code.length : Int) ≤ (i : Int)) = true := decide_eq_true (by omega)
    go_enter Tryz.func7, Tryz.ntmps7
    go_wp2
    go_ret
    exact ⟨0, rfl, by omega, rfl⟩

end Go.Proofs.YtnakdlfjjeligaaGreat
