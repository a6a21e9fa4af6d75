/-
  The reference's source of numbers, the tunes and bells that are drawn from it.
-/
import Derived.Test.YtbdopmcjoncelaaGreatDoorWalkE
import Derived.Test.YtbdopmcjoncelaaGreatDoorWalkD
import Derived.Test.YtbdopmcjoncelaaGreatDoorWalkS
import Derived.Test.YtbdopmcjoncelaaGreatDoorData
import Derived.Test.YtbdopmcjoncelaaGreatDoorPure
import Derived.Laws.BitsLemmas
namespace Go.Proofs.YtbdopmcjoncelaaGreatDoor
open Go.RowKit
set_option linter.unusedVariables false
set_option linter.unusedSimpArgs false
set_option maxRecDepth 4000

theorem wrapU64 (n : Int) : IntKind.u64.wrap n = n % 18446744073709551616 := by simp [IntKind.wrap, IntKind.bits, IntKind.signed]
theorem wrapU64_bd (n : Int) : 0 ≤ IntKind.u64.wrap n ∧ IntKind.u64.wrap n < 18446744073709551616 := by rw [wrapU64]; omega
theorem wraps_u64 (n : Int) (h₀ : 0 ≤ n) (h₁ : n < 2 ^ 64) : IntKind.u64.wrap n = n := by rw [wrapU64]; omega
theorem u64_and255 {x : Int} (h₀ : 0 ≤ x) (h₁ : x < 18446744073709551616) : bits .and .u64 x 255 = x % 256 := bits_mask .u64 64 (by decide) wraps_u64 8 (by decide) x h₀ (by omega)
/-- A source lies in block b: its bytes, how many were read, its seed. -/
def Src (w : World) (b : Nat) (A : Option Addr) (c : Nat) (code : List Int) (k sd : Int) : Prop :=
  Var w b #[.slice A code.length c, .int .i64 k, .int .u64 sd] 75 ∧ At1 .u8 w A code ∧ (∀ x ∈ code, 0 ≤ x ∧ x ≤ 255) ∧ code.length ≤ 1000000 ∧ 0 ≤ k ∧ k ≤ 1000000000 ∧ 0 ≤ sd ∧ sd < 18446744073709551616
theorem At1.grown {k : IntKind} {w w' : World} {A : Option Addr} {l : List Int} {b : Nat} (h : At1 k w A l) (hg : w.grownBy w' (some b)) (hb : l ≠ [] → ∀ a, A = some a → a.block ≠ b) : At1 k w' A l := fun hne => by
  obtain ⟨g, off, e, hlt, hc⟩ := h hne
  refine ⟨g, off, e, Nat.lt_of_lt_of_le hlt hg.size, fun j hj => hg.cell (hc j hj) (fun e2 => hb (fun e0 => hne (by rw [e0]; rfl)) ⟨g, off, none⟩ e (by simpa using e2))⟩

theorem Src.alloc {w : World} {b : Nat} {A : Option Addr} {c : Nat} {code : List Int} {k sd : Int} (h : Src w b A c code k sd) (o : Obj) : Src (w.alloc o) b A c code k sd := ⟨h.1.old o, h.2.1.below ((Below.refl _ _).alloc (Nat.le_refl _) o), h.2.2⟩
theorem Src.below {w w' : World} {b : Nat} {A : Option Addr} {c : Nat} {code : List Int} {k sd : Int} (h : Src w b A c code k sd) (hb : Below w.heap.size w w') : Src w' b A c code k sd := ⟨h.1.below hb, h.2.1.below hb, h.2.2⟩
theorem Src.grownS {w w' : World} {b : Nat} {A : Option Addr} {c : Nat} {code : List Int} {k sd : Int} {row : Option Nat} (h : Src w b A c code k sd) (hg : w.grownBy w' row) (hne : row ≠ some b) (hA : code ≠ [] → ∀ a, A = some a → some a.block ≠ row) : Src w' b A c code k sd :=
  ⟨h.1.grown hg hne, fun hn => by
    obtain ⟨g, off, e, hlt, hc⟩ := h.2.1 hn
    exact ⟨g, off, e, Nat.lt_of_lt_of_le hlt hg.size, fun j hj => hg.cell (hc j hj) (show some g ≠ row from hA (fun e0 => hn (by rw [e0]; rfl)) ⟨g, off, none⟩ e)⟩, h.2.2⟩
set_option maxHeartbeats 1000000 in
theorem c_next (b : Nat) (A : Option Addr) (c : Nat) (code : List Int) (k sd : Int) (w : World) (h : Src w b A c code k sd) (hk : k ≤ 900000000) (hA : code ≠ [] → ∀ a, A = some a → a.block ≠ b) :
    Calls Tryz.prog 82 #[.pointer (some ⟨b, 0, none⟩)] w fun e w' => ∃ r sd' : Int, e = .returned (.int .i64 r) ∧ (0 ≤ r ∧ r ≤ 255) ∧ Src w' b A c code (k + 1) sd' ∧ w.grownBy w' (some b) := by
  obtain ⟨hv, hat, hcd, hcl, hk0, hk1, hs0, hs1⟩ := h
  have hw1 : IntKind.i64.wrap (k + 1) = k + 1 := IntWalk.i64_in _ (by omega)
  obtain ⟨e1, he1⟩ : ∃ e, IntKind.u64.wrap (sd * 6364136223846793005) = e := ⟨_, rfl⟩
  have x1 : ∀ x : After w, x.w.cell? ⟨b, 0, none⟩ = some (.slice A code.length c) := fun x => keepc (hv.cell (i := 0) rfl) x.below
  have x2 : ∀ x : After w, x.w.cell? ⟨b, 1, none⟩ = some (.int .i64 k) := fun x => keepc (hv.cell (i := 1) rfl) x.below
  have HV := Lib.hid hv
  have HAT := Lib.hid hat
  have HCD := Lib.hid hcd
  have HG := Lib.hid hA
  clear hv hcd
  by_cases hlt : k < (code.length : Int)
  · obtain ⟨n, hn⟩ : ∃ n : Nat, k = (n : Int) := ⟨k.toNat, by omega⟩
    subst hn
    have hn2 : n < code.length := by omega
    obtain ⟨g, off, hAe, hgl, hc⟩ := hat.get (by omega)
    subst hAe
    have x3 : ∀ x : After w, _ := fun x => (x.cell hgl).trans (hc n hn2)
    have hcb := HCD.out _ (List.getElem_mem hn2)
    obtain ⟨v, hvv⟩ : ∃ v, code[n] = v := ⟨_, rfl⟩
    rw [hvv] at hcb x3
    clear hc hat hvv
    have hd1 : decide ((n : Int) < (code.length : Int)) = true := decide_eq_true hlt
    have hd2 : decide ((n : Int) + 1 ≤ (code.length : Int)) = true := decide_eq_true (by omega)
    have hwv : IntKind.i64.wrap v = v := IntWalk.i64_in _ (by omega)
    obtain ⟨e2, he2⟩ : ∃ e, IntKind.u64.wrap v = e := ⟨_, rfl⟩
    obtain ⟨e3, he3⟩ : ∃ e, IntKind.u64.wrap (e1 + e2) = e := ⟨_, rfl⟩
    obtain ⟨e4, he4⟩ : ∃ e, IntKind.u64.wrap (e3 + 1442695040888963407) = e := ⟨_, rfl⟩
    have hb4 := Lib.hid (show 0 ≤ e4 ∧ e4 < 18446744073709551616 by rw [← he4]; exact wrapU64_bd _)
    go_enter Tryz.func82, Tryz.ntmps82
    go_wp2
    refine region_after (by kernel_rfl) (by kernel_rfl) ?_
    repeat (go_big_quiet_step (fail))
    refine wpQuiet_nil ?_
    rintro _ ⟨x, rfl⟩
    have HX := Lib.hid x.below
    have x1b := fun x' : After x.w => keepc (x1 x) x'.below
    have x2b := fun x' : After x.w => keepc (x2 x) x'.below
    have x3b := fun x' : After x.w => keepc (x3 x) x'.below
    clear x1 x2 x3
    go_wp2
    refine region_after (by kernel_rfl) (by kernel_rfl) ?_
    repeat (go_big_quiet_step (fail))
    refine wpQuiet_nil ?_
    rintro _ ⟨x, rfl⟩
    rename_i xo x
    have B2 := bstep HX.out x.below
    have HB2 := Lib.hid B2
    have V2 := HV.out.below B2
    have f1 := V2.cell (i := 1) rfl
    have f2 := V2.cell (i := 2) rfl
    have g1 := V2.frozen 1
    have g2 := V2.frozen 2
    have HV2 := Lib.hid V2
    clear x1b x2b x3b B2 V2
    go_upto_region 6 with fail
    have V5 := (HV2.out.set 1 (.int .i64 ((n : Int) + 1))).set 2 (.int .u64 e4)
    have G5 : w.grownBy ((x.w.setCell ⟨b, 1, none⟩ (.int .i64 ((n : Int) + 1))).setCell ⟨b, 2, none⟩ (.int .u64 e4)) (some b) := gset (gset (gbelow HB2.out (some b)) (.inl rfl) _) (.inl rfl) _
    obtain ⟨w5, hw5⟩ : ∃ u, (x.w.setCell ⟨b, 1, none⟩ (.int .i64 ((n : Int) + 1))).setCell ⟨b, 2, none⟩ (.int .u64 e4) = u := ⟨_, rfl⟩
    rw [hw5] at V5 G5 ⊢
    clear hw5 f1 f2 g1 g2
    have V6 : Var w5 b #[.slice (some ⟨g, off, none⟩) code.length c, .int .i64 ((n : Int) + 1), .int .u64 e4] 75 := V5
    have y1 : ∀ x : After w5, _ := fun x => keepc (V6.cell (i := 0) rfl) x.below
    have y2 : ∀ x : After w5, _ := fun x => keepc (V6.cell (i := 1) rfl) x.below
    have HV6 := Lib.hid V6
    have HG5 := Lib.hid G5
    clear V5 V6 G5
    refine region_after (by kernel_rfl) (by kernel_rfl) ?_
    repeat (go_big_quiet_step (fail))
    refine wpQuiet_nil ?_
    rintro _ ⟨x, rfl⟩
    rename_i x2 x
    have HB6 := Lib.hid x.below
    clear y1 y2
    go_wp2
    go_ret
    exact ⟨v, e4, rfl, hcb, ⟨HV6.out.below HB6.out, (HAT.out.grown HG5.out HG.out).below HB6.out, HCD.out, hcl, by omega, by omega, hb4.out⟩, HG5.out.trans (gbelow HB6.out _)⟩
  · have hd1 : decide (k < (code.length : Int)) = false := decide_eq_false hlt
    have hd2 : decide (k + 1 ≤ (code.length : Int)) = false := decide_eq_false (by omega)
    obtain ⟨e3, he3⟩ : ∃ e, IntKind.u64.wrap e1 = e := ⟨_, rfl⟩
    obtain ⟨e4, he4⟩ : ∃ e, IntKind.u64.wrap (e3 + 1442695040888963407) = e := ⟨_, rfl⟩
    have hz0 : IntKind.u64.wrap 0 = 0 := IntWalk.u64_in _ (by omega)
    have hb4' : 0 ≤ e4 ∧ e4 < 18446744073709551616 := by rw [← he4]; exact wrapU64_bd _
    have hb4 := Lib.hid hb4'
    obtain ⟨q, hq⟩ : ∃ q, e4 / 1099511627776 = q := ⟨_, rfl⟩
    have hqb : 0 ≤ q ∧ q < 18446744073709551616 := by rw [← hq]; omega
    have hwq : IntKind.u64.wrap q = q := IntWalk.u64_in _ (by omega)
    obtain ⟨r, hr⟩ : ∃ r, bits .and .u64 q 255 = r := ⟨_, rfl⟩
    have hrb : 0 ≤ r ∧ r ≤ 255 := by rw [← hr, u64_and255 hqb.1 hqb.2]; omega
    have HRB := Lib.hid hrb
    have hwr : IntKind.u64.wrap r = r := IntWalk.u64_in _ (by omega)
    have hwr2 : IntKind.i64.wrap r = r := IntWalk.i64_in _ (by omega)
    clear hb4' hqb hrb
    go_enter Tryz.func82, Tryz.ntmps82
    go_wp2
    refine region_after (by kernel_rfl) (by kernel_rfl) ?_
    repeat (go_big_quiet_step (fail))
    refine wpQuiet_nil ?_
    rintro _ ⟨x, rfl⟩
    have HX := Lib.hid x.below
    have V2 := HV.out.below HX.out
    have f1 := V2.cell (i := 1) rfl
    have f2 := V2.cell (i := 2) rfl
    have g1 := V2.frozen 1
    have g2 := V2.frozen 2
    have HV2 := Lib.hid V2
    clear x1 x2 V2
    go_upto_region 6 with fail
    have V5 := (HV2.out.set 1 (.int .i64 (k + 1))).set 2 (.int .u64 e4)
    have G5 : w.grownBy ((x.w.setCell ⟨b, 1, none⟩ (.int .i64 (k + 1))).setCell ⟨b, 2, none⟩ (.int .u64 e4)) (some b) := gset (gset (gbelow HX.out (some b)) (.inl rfl) _) (.inl rfl) _
    obtain ⟨w5, hw5⟩ : ∃ u, (x.w.setCell ⟨b, 1, none⟩ (.int .i64 (k + 1))).setCell ⟨b, 2, none⟩ (.int .u64 e4) = u := ⟨_, rfl⟩
    rw [hw5] at V5 G5 ⊢
    clear hw5 f1 f2 g1 g2
    have V6 : Var w5 b #[.slice A code.length c, .int .i64 (k + 1), .int .u64 e4] 75 := V5
    have y1 : ∀ x : After w5, _ := fun x => keepc (V6.cell (i := 0) rfl) x.below
    have y2 : ∀ x : After w5, _ := fun x => keepc (V6.cell (i := 1) rfl) x.below
    have HV6 := Lib.hid V6
    have HG5 := Lib.hid G5
    clear V5 V6 G5
    refine region_after (by kernel_rfl) (by kernel_rfl) ?_
    repeat (go_big_quiet_step (fail))
    refine wpQuiet_nil ?_
    rintro _ ⟨x, rfl⟩
    rename_i x2 x
    have HB6 := Lib.hid x.below
    have f3 := (HV6.out.below HB6.out).cell (i := 2) rfl
    clear y1 y2
    go_wp2
    go_ret
    exact ⟨r, e4, rfl, HRB.out, ⟨HV6.out.below HB6.out, (HAT.out.grown HG5.out HG.out).below HB6.out, HCD.out, hcl, by omega, by omega, hb4.out⟩, HG5.out.trans (gbelow HB6.out _)⟩

set_option maxHeartbeats 1000000 in
theorem c_pick (b : Nat) (A : Option Addr) (c : Nat) (code : List Int) (k sd n : Int) (w : World) (h : Src w b A c code k sd) (hk : k ≤ 800000000) (hA : code ≠ [] → ∀ a, A = some a → a.block ≠ b) (hn : 2 ≤ n ∧ n ≤ 268435456) :
    Calls Tryz.prog 61 #[.pointer (some ⟨b, 0, none⟩), .int .i64 n] w fun e w' => ∃ r k' sd' : Int, e = .returned (.int .i64 r) ∧ (0 ≤ r ∧ r < n) ∧ (k ≤ k' ∧ k' ≤ k + 2) ∧ Src w' b A c code k' sd' ∧ w.grownBy w' (some b) := by
  obtain ⟨hn1, hn2⟩ := hn
  have hd1 : decide (n ≤ 1) = false := decide_eq_false (by omega)
  have hn0 : ¬ n = 0 := by omega
  by_cases hbig : 200 < n
  · have hd2 : decide (200 < n) = true := decide_eq_true hbig
    go_enter Tryz.func61, Tryz.ntmps61
    go_wp2_with fail
    refine (c_next b A c code k sd w h (by omega) hA).mono ?_
    rintro e w1 ⟨r1, sd1, rfl, ⟨p1, p2⟩, s1, g1⟩
    have hw1 : IntKind.i64.wrap (r1 * 256) = r1 * 256 := IntWalk.i64_in _ (by omega)
    have S1 := Lib.hid s1
    clear s1
    go_wp2_with fail
    refine (c_next b A c code (k + 1) sd1 w1 S1.out (by omega) hA).mono ?_
    rintro e w2 ⟨r2, sd2, rfl, ⟨p3, p4⟩, s2, g2⟩
    have S2 := Lib.hid s2
    clear s2
    have hw2 : IntKind.i64.wrap (r1 * 256 + r2) = r1 * 256 + r2 := IntWalk.i64_in _ (by omega)
    obtain ⟨q, hq⟩ : ∃ q, r1 * 256 + r2 = q := ⟨_, rfl⟩
    rw [hq] at hw2
    have hq0 : 0 ≤ q := by omega
    have ht : Int.tmod q n = q % n := Int.tmod_eq_emod_of_nonneg hq0
    have m1 := Int.emod_nonneg q hn0
    have m2 := Int.emod_lt_of_pos q (show 0 < n by omega)
    have hw3 : IntKind.i64.wrap (q % n) = q % n := IntWalk.i64_in _ (by omega)
    go_wp2
    go_ret
    exact ⟨q % n, k + 1 + 1, sd2, rfl, ⟨m1, m2⟩, by omega, S2.out, g1.trans g2⟩
  · have hd2 : decide (200 < n) = false := decide_eq_false hbig
    go_enter Tryz.func61, Tryz.ntmps61
    go_wp2_with fail
    refine (c_next b A c code k sd w h (by omega) hA).mono ?_
    rintro e w1 ⟨r1, sd1, rfl, ⟨p1, p2⟩, s1, g1⟩
    have S1 := Lib.hid s1
    clear s1
    have ht : Int.tmod r1 n = r1 % n := Int.tmod_eq_emod_of_nonneg p1
    have m1 := Int.emod_nonneg r1 hn0
    have m2 := Int.emod_lt_of_pos r1 (show 0 < n by omega)
    have hw3 : IntKind.i64.wrap (r1 % n) = r1 % n := IntWalk.i64_in _ (by omega)
    go_wp2
    go_ret
    exact ⟨r1 % n, k + 1, sd1, rfl, ⟨m1, m2⟩, by omega, S1.out, g1⟩
set_option maxHeartbeats 1000000 in
/-- A drawn tune: W0 is the world ahead of the source. -/
theorem c_l01Drawn (W0 : World) (b : Nat) (A : Option Addr) (c : Nat) (code : List Int) (sd : Int) (w : World) (h : Src w b A c code 0 sd) (hA : code ≠ [] → ∀ a, A = some a → a.block ≠ b) (hB : Below W0.heap.size W0 w) (hb : W0.heap.size ≤ b) (hAW : code ≠ [] → ∀ a, A = some a → a.block < W0.heap.size) :
    Calls Tryz.prog 26 #[.pointer (some ⟨b, 0, none⟩)] w fun e w' => ∃ g' c' t, e = .returned (.slice (some ⟨g', 0, none⟩) t.length c') ∧ Drawn t ∧ Own2 .i16 .i8 40 w' W0.heap.size (.slice (some ⟨g', 0, none⟩) t.length c') t ∧ Below W0.heap.size W0 w' := by
  have hu := Tryz.underlying40
  have hS0 := h
  have HV0 := Lib.hid (h.1.old (.cells #[] 40))
  go_enter Tryz.func26, Tryz.ntmps26
  go_wp2_with fail
  refine (c_pick b A c code 0 sd 10 _ (h.alloc (.cells #[] 40)) (by omega) hA (by omega)).mono ?_
  rintro e w1 ⟨r0, k0, sd0, rfl, ⟨r1, r2⟩, ⟨k1, k2⟩, s1, g1⟩
  have hown0 := Own2.lit0 (k1 := .i16) (k2 := .i8) (E := 40) (w := w) (base := W0.heap.size) hB.size
  have hown1 := Lib.hid (hown0.apart g1 (fun j hj e => by have e1 : w.heap.size = j := Option.some.inj hj; have e2 : b = j := Option.some.inj e; have := h.1.lt; omega))
  have B1 := bgrown (balloc hB (.cells #[] 40)) g1 (fun j hj => by have := Option.some.inj hj; omega)
  have S1 := Lib.hid s1
  have HHA := Lib.hid hA
  clear s1 h hS0 hown0 HV0 hA
  obtain ⟨m0, hm0⟩ : ∃ m : Nat, r0 = (m : Int) := ⟨r0.toNat, by omega⟩
  subst hm0
  go_wp2
  go_loopw [3, 4, 5] (fun v av kv w' => ∃ (m : Nat) (l : List (Int × Int)) (at_ k sd : Int) (A' : Option Addr) (c' : Nat), kv = .int .i64 (m : Int) ∧ av = .int .i64 at_ ∧ v = .slice A' l.length c' ∧ m ≤ 9 ∧ l.length + m ≤ 9 ∧ (0 ≤ at_ ∧ at_ + 3 * m ≤ 27) ∧ (0 ≤ k ∧ k ≤ 2 + 4 * (9 - m)) ∧ (∀ x ∈ l, 0 ≤ x.1 ∧ x.1 ≤ 27 ∧ 20 ≤ x.2 ∧ x.2 ≤ 27) ∧ Src w' b A c code k sd ∧ Own2 .i16 .i8 40 w' W0.heap.size v l ∧ Below W0.heap.size W0 w') (fun _ _ kv _ => (intOf kv).toNat)
  case atStart => exact ⟨m0, [], 0, k0, sd0, _, _, rfl, rfl, rfl, by omega, by simp; omega, by omega, by omega, fun x hx => (by cases hx), S1.out, hown1.out, B1⟩
  case round =>
    obtain ⟨m, l, at_, k, sd2, A1, c1, rfl, rfl, rfl, hm, hlm, hat, hkk, hl, hsrc, hown, hB2⟩ := hrel
    have HS := Lib.hid hsrc
    have HO := Lib.hid hown
    have HL := Lib.hid hl
    clear hsrc hown hl
    by_cases hlt : 0 < m
    · have hd : decide ((0 : Int) < (m : Int)) = true := decide_eq_true (by omega)
      have hd' : decide (0 < m) = true := decide_eq_true (by omega)
      go_wp2_with fail
      refine (c_pick b A c code k sd2 4 _ HS.out (by omega) HHA.out (by omega)).mono ?_
      rintro e w2 ⟨p1, k3, sd3, rfl, ⟨p2, p3⟩, ⟨k4, k5⟩, s2, g2⟩
      have S2 := Lib.hid s2
      have O2 := Lib.hid (HO.out.apart g2 (fun j hj e => by have := HO.out.ne_var HS.out.1 (by decide); have e2 : b = j := Option.some.inj e; exact this (by rw [hj, e2])))
      have B3 := bgrown hB2 g2 (fun j hj => by have := Option.some.inj hj; omega)
      clear s2
      obtain ⟨a2, ha2⟩ : ∃ a, at_ + p1 = a := ⟨_, rfl⟩
      have hwa : IntKind.i64.wrap (at_ + p1) = a2 := by rw [ha2]; exact IntWalk.i64_in _ (by omega)
      have hwa2 : IntKind.i16.wrap a2 = a2 := IntWalk.i16_in _ (by omega)
      go_wp2_with fail
      refine (c_pick b A c code k3 sd3 8 _ S2.out (by omega) HHA.out (by omega)).mono ?_
      rintro e w3 ⟨q1, k6, sd6, rfl, ⟨q2, q3⟩, ⟨k7, k8⟩, s3, g3⟩
      have O3 := Lib.hid (O2.out.apart g3 (fun j hj e => by have := O2.out.ne_var S2.out.1 (by decide); have e2 : b = j := Option.some.inj e; exact this (by rw [hj, e2])))
      have B4 := bgrown B3 g3 (fun j hj => by have := Option.some.inj hj; omega)
      obtain ⟨p, hp⟩ : ∃ p, 20 + q1 = p := ⟨_, rfl⟩
      have hwp : IntKind.i64.wrap (20 + q1) = p := by rw [hp]; exact IntWalk.i64_in _ (by omega)
      have hwp2 : IntKind.i8.wrap p = p := IntWalk.i8_in _ (by omega)
      have hown2 := (O3.out.alloc (.cells #[.int .i16 a2, .int .i8 p] 40)).alloc (.cells #[.int .i16 a2, .int .i8 p] 40)
      have S3 := Lib.hid ((s3.alloc (.cells #[.int .i16 a2, .int .i8 p] 40)).alloc (.cells #[.int .i16 a2, .int .i8 p] 40))
      have B5 := balloc (balloc B4 (.cells #[.int .i16 a2, .int .i8 p] 40)) (.cells #[.int .i16 a2, .int .i8 p] 40)
      have hbs := B5.size
      have hsz : (w3.alloc (.cells #[.int .i16 a2, .int .i8 p] 40)).heap.size = w3.heap.size + 1 := by simp
      have z1 := cell_new (w3.alloc (.cells #[.int .i16 a2, .int .i8 p] 40)) #[.int .i16 a2, .int .i8 p] 40 (i := 0) rfl
      have z2 := cell_new (w3.alloc (.cells #[.int .i16 a2, .int .i8 p] 40)) #[.int .i16 a2, .int .i8 p] 40 (i := 1) rfl
      rw [hsz] at z1 z2
      clear s3 hsz
      have hlen2 : l.length ≤ 1073741824 := by omega
      have hw9 : IntKind.i64.wrap ((m : Int) - 1) = ((m - 1 : Nat) : Int) := by rw [IntWalk.i64_in _ (by omega)]; omega
      have HA2 := Lib.hid ha2
      have HP := Lib.hid hp
      clear ha2 hp
      go_wp2_with (at_builtin; refine append_pair rfl (.tmp 25) (.tmp 27) 24 rfl 40 .i16 .i8 4 Tryz.underlying24 info_Note (by decide) W0.heap.size _ _ rfl hown2 _ _ (a2, p) rfl z1 z2 hlen2 hbs ?_; intro A4 c4 w4 ho4 hg4)
      have B6 := bgrown B5 hg4 (fun j hj => hown2.low hj)
      have S4 := S3.out.grownS hg4 (hown2.ne_var S3.out.1 (by decide)) (fun h0 a ea e => by have h1 := hAW h0 a ea; have h2 := hown2.low e.symm; omega)
      go_roundw
      case rel =>
        refine ⟨m - 1, l ++ [(a2, p)], a2, k6, sd6, A4, c4, by first | rfl | rw [hw9], rfl, by rw [List.length_append]; rfl, by omega, by rw [List.length_append]; simp; omega, by have := HA2.out; omega, by omega, fun x hx => ?_, S4, by rw [List.length_append] at ho4; exact ho4, B6⟩
        rcases List.mem_append.1 hx with hx | hx
        · exact HL.out x hx
        · rw [List.mem_singleton] at hx
          subst hx
          have h1 := HA2.out
          have h2 := HP.out
          simp only []
          omega
      case measure => simp [intOf]; omega
    · have hd : decide ((0 : Int) < (m : Int)) = false := decide_eq_false (by omega)
      have hd' : decide (0 < m) = false := decide_eq_false (by omega)
      have hN : ∀ x ∈ l, okN x = true := fun x hx => by have := HL.out x hx; rw [okN_iff]; omega
      have hsl := sortU_len l
      have hD := Lib.hid (show Drawn (sortU l) from ⟨by rw [okT_sortU hN]; exact decide_eq_true (by omega), by omega, fun x hx => by have := HL.out x ((sortU_mem l x).1 hx); omega⟩)
      clear hN hsl
      go_wp2_with fail
      refine (c_l01Sorted A1 c1 l _ HO.out.at_ (by omega)).mono ?_
      rintro e w5 ⟨g5, c5, rfl, o5, b5⟩
      have O5 := Lib.hid (o5.base_le hB2.size)
      clear o5
      obtain ⟨T, hT⟩ : ∃ T, sortU l = T := ⟨_, rfl⟩
      rw [hT] at O5 hD ⊢
      clear hT
      go_wp2
      go_ret
      exact ⟨g5, c5, T, rfl, hD.out, O5.out, bstep hB2 b5⟩
theorem c_l00From (A : Option Addr) (c : Nat) (code : List Int) (w : World) :
    Calls Tryz.prog 27 #[.slice A code.length c] w fun e w' => e = .returned (.pointer (some ⟨w.heap.size, 0, none⟩)) ∧ w' = w.alloc (.cells #[.slice A code.length c, .int .i64 0, .int .u64 0] 75) := by
  have hu := Tryz.underlying75
  go_enter Tryz.func27, Tryz.ntmps27
  go_wp2
  go_ret
  exact ⟨rfl, rfl⟩
theorem c_A2Tune (A : Option Addr) (c : Nat) (code : List Int) (w : World) (h : At1 .u8 w A code) (hcd : ∀ x ∈ code, 0 ≤ x ∧ x ≤ 255) (hcl : code.length ≤ 1000000) :
    Calls Tryz.prog 5 #[.slice A code.length c] w fun e w' => ∃ g' c' t, e = .returned (.slice (some ⟨g', 0, none⟩) t.length c') ∧ Drawn t ∧ Own2 .i16 .i8 40 w' w.heap.size (.slice (some ⟨g', 0, none⟩) t.length c') t ∧ Below w.heap.size w w' := by
  have hAW : code ≠ [] → ∀ a, A = some a → a.block < w.heap.size := fun h0 a ea => by
    obtain ⟨g, off, e, hlt, _⟩ := h (fun e => h0 (List.map_eq_nil_iff.1 e))
    rw [e] at ea
    have := Option.some.inj ea
    subst this
    exact hlt
  go_enter Tryz.func5, Tryz.ntmps5
  go_wp2_with fail
  refine (c_l00From A c code w).mono ?_
  rintro e w1 ⟨rfl, rfl⟩
  have hS : Src (w.alloc (.cells #[.slice A code.length c, .int .i64 0, .int .u64 0] 75)) w.heap.size A c code 0 0 := ⟨Var.new _ _ _, h.below (balloc (Below.refl _ _) _), hcd, hcl, by omega, by omega, by omega, by omega⟩
  go_wp2_with fail
  refine (c_l01Drawn w w.heap.size A c code 0 _ hS (fun h0 a ea => by have := hAW h0 a ea; omega) (balloc (Below.refl _ _) _) (Nat.le_refl _) hAW).mono ?_
  rintro e w2 ⟨g', c', t, rfl, hd, o2, b2⟩
  have O2 := Lib.hid o2
  have HD := Lib.hid hd
  clear o2 hd
  go_wp2
  go_ret
  exact ⟨g', c', t, rfl, HD.out, O2.out, b2⟩
theorem c_a2Long (A B : Option Addr) (c d n m : Nat) (w : World) :
    Calls Tryz.prog 4 #[.slice A n c, .slice B m d] w fun e w' => e = .returned (.bool (decide (3000 < n) || decide (3000 < m))) ∧ w = w' := by
  by_cases h1 : 3000 < n
  · have hd : decide (3000 < (n : Int)) = true := decide_eq_true (by omega)
    go_enter Tryz.func4, Tryz.ntmps4
    go_wp2
    go_ret
    exact ⟨ret_bool (by rw [decide_eq_true h1]; rfl), rfl⟩
  · have hd : decide (3000 < (n : Int)) = false := decide_eq_false (by omega)
    by_cases h2 : 3000 < m
    · have hd2 : decide (3000 < (m : Int)) = true := decide_eq_true (by omega)
      go_enter Tryz.func4, Tryz.ntmps4
      go_wp2
      go_ret
      exact ⟨ret_bool (by rw [decide_eq_true h2, Bool.or_true]), rfl⟩
    · have hd2 : decide (3000 < (m : Int)) = false := decide_eq_false (by omega)
      go_enter Tryz.func4, Tryz.ntmps4
      go_wp2
      go_ret
      exact ⟨ret_bool (by rw [decide_eq_false h1, decide_eq_false h2]; rfl), rfl⟩
theorem c_a2At (A : Option Addr) (c : Nat) (code : List Int) (i : Nat) (n : Int) (w : World) (h : At1 .u8 w A code) (hcd : ∀ x ∈ code, 0 ≤ x ∧ x ≤ 255) (hn : 1 ≤ n ∧ n ≤ 1000000) :
    Calls Tryz.prog 8 #[.slice A code.length c, .int .i64 (i : Int), .int .i64 n] w fun e w' => ∃ r : Int, e = .returned (.int .i64 r) ∧ (0 ≤ r ∧ r < n) ∧ w = w' := by
  obtain ⟨n1, n2⟩ := hn
  by_cases hlt : i < code.length
  · obtain ⟨g, off, hAe, hgl, hc⟩ := h.get (by omega)
    subst hAe
    have x1 := hc i hlt
    have hb := hcd _ (List.getElem_mem hlt)
    obtain ⟨v, hv⟩ : ∃ v, code[i] = v := ⟨_, rfl⟩
    rw [hv] at x1 hb
    have hd1 : decide ((code.length : Int) ≤ (i : Int)) = false := decide_eq_false (by omega)
    have hd2 : decide (n < 1) = false := decide_eq_false (by omega)
    have hwv : IntKind.i64.wrap v = v := IntWalk.i64_in _ (by omega)
    have hn0 : ¬ n = 0 := by omega
    have ht : Int.tmod v n = v % n := Int.tmod_eq_emod_of_nonneg hb.1
    have m1 := Int.emod_nonneg v hn0
    have m2 := Int.emod_lt_of_pos v (show 0 < n by omega)
    have hw3 : IntKind.i64.wrap (v % n) = v % n := IntWalk.i64_in _ (by omega)
    have hi1 : (i : Int) < (code.length : Int) := by omega
    clear hc hv
    go_enter Tryz.func8, Tryz.ntmps8
    go_wp2
    go_ret
    exact ⟨v % n, rfl, ⟨m1, m2⟩, rfl⟩
  · have hd1 : decide ((code.length : Int) ≤ (i : Int)) = true := decide_eq_true (by omega)
    go_enter Tryz.func8, Tryz.ntmps8
    go_wp2
    go_ret
    exact ⟨0, rfl, by omega, rfl⟩

end Go.Proofs.YtbdopmcjoncelaaGreatDoor
