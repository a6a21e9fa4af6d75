/-
  The walks of the library's sort on notes that rise already: nothing is moved.
-/
import Derived.Test.YtbdopmcjoncelaaGreatDoorWalkC
import Derived.Test.YtbdopmcjoncelaaGreatDoorWalkD
import Derived.Test.YtbdopmcjoncelaaGreatDoorPure
import Derived.Test.YtbdopmcjoncelaaGreatDoorData
import Derived.Lib.BitFns
import Derived.Lib.Tables
namespace Go.Proofs.YtbdopmcjoncelaaGreatDoor
open Go.RowKit
set_option linter.unusedVariables false
set_option linter.unusedSimpArgs false
set_option maxRecDepth 4000

theorem cmp_rise {l : List (Int × Int)} (hok : okT l = true) {i j : Nat} (hj : j < l.length) (hij : i < j) : decide (cmpN l[j] (l[i]'(by omega)) < 0) = false := by
  rw [cmpN_lt]
  cases h : ltN l[j] (l[i]'(by omega)) with
  | false => rfl
  | true => have := ltN_trans h (okT_lt hok hj hij); rw [ltN_irrefl] at this; cases this

theorem c_order2 (A : Option Addr) (c : Nat) (l : List (Int × Int)) (p q b : Nat) (w : World) (h : At2 .i16 .i8 w A l) (hok : okT l = true) (hpq : p < q) (hq : q < l.length) :
    Calls Tryz.prog 145 #[.slice A l.length c, .int .i64 (p : Int), .int .i64 (q : Int), .pointer (some ⟨b, 0, none⟩), .func (.func 49) #[] #[]] w fun e w' => e = .returned (.tuple #[.int .i64 (p : Int), .int .i64 (q : Int)]) ∧ Below w.heap.size w w' := by
  have hu := Tryz.underlying40
  obtain ⟨g, off, rfl, hbl, hc⟩ := h.get (by omega)
  have x1 : ∀ x : After w, _ := fun x => (x.cell hbl).trans (hc q hq).1
  have x2 : ∀ x : After w, _ := fun x => (x.cell hbl).trans (hc q hq).2
  have y1 : ∀ x : After w, _ := fun x => (x.cell hbl).trans (hc p (by omega)).1
  have y2 : ∀ x : After w, _ := fun x => (x.cell hbl).trans (hc p (by omega)).2
  have hcm := cmp_rise hok hq hpq
  have i1 : (0 : Int) ≤ (p : Int) := by omega
  have i2 : (p : Int) < (l.length : Int) := by omega
  have i3 : (0 : Int) ≤ (q : Int) := by omega
  have i4 : (q : Int) < (l.length : Int) := by omega
  clear hc
  go_enter Tryz.func145, Tryz.ntmps145
  go_wp2
  refine region_after (by kernel_rfl) (by kernel_rfl) ?_
  repeat (go_big_quiet_step ((go_at_call 49; exact After.call (c_compareNotes _ _ _))))
  refine wpQuiet_nil ?_
  rintro _ ⟨x, rfl⟩
  go_wp2
  go_ret2
  exact ⟨rfl, x.below⟩

theorem c_median (A : Option Addr) (c : Nat) (l : List (Int × Int)) (p q r b : Nat) (w : World) (h : At2 .i16 .i8 w A l) (hok : okT l = true) (hpq : p < q) (hqr : q < r) (hr : r < l.length) :
    Calls Tryz.prog 141 #[.slice A l.length c, .int .i64 (p : Int), .int .i64 (q : Int), .int .i64 (r : Int), .pointer (some ⟨b, 0, none⟩), .func (.func 49) #[] #[]] w fun e w' => e = .returned (.int .i64 (q : Int)) ∧ Below w.heap.size w w' := by
  go_enter Tryz.func141, Tryz.ntmps141
  go_wp2_with fail
  refine (c_order2 A c l p q b _ h hok hpq (by omega)).mono ?_
  rintro e w1 ⟨rfl, b1⟩
  go_wp2_with fail
  refine (c_order2 A c l q r b _ (h.below b1) hok hqr hr).mono ?_
  rintro e w2 ⟨rfl, b2⟩
  go_wp2_with fail
  refine (c_order2 A c l p q b _ ((h.below b1).below b2) hok hpq (by omega)).mono ?_
  rintro e w3 ⟨rfl, b3⟩
  go_wp2
  go_ret
  exact ⟨rfl, bstep (bstep b1 b2) b3⟩

theorem c_medianAdjacent (A : Option Addr) (c : Nat) (l : List (Int × Int)) (q b : Nat) (w : World) (h : At2 .i16 .i8 w A l) (hok : okT l = true) (hq0 : 0 < q) (hq : q + 1 < l.length) :
    Calls Tryz.prog 140 #[.slice A l.length c, .int .i64 (q : Int), .pointer (some ⟨b, 0, none⟩), .func (.func 49) #[] #[]] w fun e w' => e = .returned (.int .i64 (q : Int)) ∧ Below w.heap.size w w' := by
  have hl := okT_len hok
  have hw1 : IntKind.i64.wrap ((q : Int) - 1) = ((q - 1 : Nat) : Int) := by rw [IntWalk.i64_in _ (by omega)]; omega
  have hw2 : IntKind.i64.wrap ((q : Int) + 1) = ((q + 1 : Nat) : Int) := by rw [IntWalk.i64_in _ (by omega)]; omega
  obtain ⟨p, hp⟩ : ∃ p, q - 1 = p := ⟨_, rfl⟩
  obtain ⟨r, hr⟩ : ∃ r, q + 1 = r := ⟨_, rfl⟩
  rw [hp] at hw1
  rw [hr] at hw2
  have HP := Lib.hid (And.intro hp hr)
  clear hp hr
  go_enter Tryz.func140, Tryz.ntmps140
  go_wp2_with fail
  refine (c_median A c l p q r b _ h hok (by have := HP.out; omega) (by have := HP.out; omega) (by have := HP.out; omega)).mono ?_
  rintro e w1 ⟨rfl, b1⟩
  go_wp2
  go_ret
  exact ⟨rfl, b1⟩

theorem c_choosePivot (A : Option Addr) (c : Nat) (l : List (Int × Int)) (w : World) (h : At2 .i16 .i8 w A l) (hok : okT l = true) (hn : 12 < l.length) :
    Calls Tryz.prog 118 #[.slice A l.length c, .int .i64 0, .int .i64 (l.length : Int), .func (.func 49) #[] #[]] w fun e w' => (∃ q : Int, e = .returned (.tuple #[.int .i64 q, .int .i64 1])) ∧ Below w.heap.size w w' := by
  have hl := okT_len hok
  obtain ⟨q, hq⟩ : ∃ q, l.length / 4 = q := ⟨_, rfl⟩
  have q1 : 4 * q ≤ l.length := by omega
  have q2 : 3 ≤ q := by omega
  have q3 : 50 ≤ l.length → 12 ≤ q := by omega
  have hdv : (l.length : Int).tdiv 4 = (q : Int) := by rw [Int.tdiv_eq_ediv_of_nonneg (by omega)]; omega
  have hw0 : IntKind.i64.wrap ((l.length : Int) - 0) = (l.length : Int) := IntWalk.i64_in _ (by omega)
  have hw1 : IntKind.i64.wrap ((q : Int) * 2) = ((2 * q : Nat) : Int) := by rw [IntWalk.i64_in _ (by omega)]; omega
  have hw2 : IntKind.i64.wrap ((q : Int) * 3) = ((3 * q : Nat) : Int) := by rw [IntWalk.i64_in _ (by omega)]; omega
  have hg8 : decide ((8 : Int) ≤ (l.length : Int)) = true := decide_eq_true (by omega)
  have hg8n : decide (8 ≤ l.length) = true := decide_eq_true (by omega)
  obtain ⟨q', hq'⟩ : ∃ q', 2 * q = q' := ⟨_, rfl⟩
  obtain ⟨r', hr'⟩ : ∃ r', 3 * q = r' := ⟨_, rfl⟩
  rw [hq'] at hw1
  rw [hr'] at hw2
  have hwq : IntKind.i64.wrap (q : Int) = (q : Int) := IntWalk.i64_in _ (by omega)
  have hwq' : IntKind.i64.wrap (q' : Int) = (q' : Int) := IntWalk.i64_in _ (by omega)
  have hwr' : IntKind.i64.wrap (r' : Int) = (r' : Int) := IntWalk.i64_in _ (by omega)
  have HQ := Lib.hid (show 2 * q = q' ∧ 3 * q = r' ∧ 4 * q ≤ l.length ∧ 3 ≤ q ∧ (50 ≤ l.length → 12 ≤ q) from ⟨hq', hr', q1, q2, q3⟩)
  clear hq hq' hr' q1 q2 q3
  have B := balloc (Below.refl _ w) (.cells #[.int .i64 0] 3)
  have hz := cell_new w #[.int .i64 0] 3 (i := 0) rfl
  have HZ := Lib.hid hz
  have hlt : w.heap.size < (w.alloc (.cells #[.int .i64 0] 3)).heap.size := by simp
  have HLT := Lib.hid hlt
  clear hz hlt
  by_cases h50 : 50 ≤ l.length
  · have hg50 : decide ((50 : Int) ≤ (l.length : Int)) = true := decide_eq_true (by omega)
    have hg50n : decide (50 ≤ l.length) = true := decide_eq_true h50
    go_enter Tryz.func118, Tryz.ntmps118
    go_wp2_with fail
    refine (c_medianAdjacent A c l q w.heap.size _ (h.below B) hok (by have := HQ.out; have := HQ.out.2.2.2.2 h50; omega) (by have := HQ.out; have := HQ.out.2.2.2.2 h50; omega)).mono ?_
    rintro e w1 ⟨rfl, b1⟩
    go_wp2_with fail
    refine (c_medianAdjacent A c l q' w.heap.size _ ((h.below B).below b1) hok (by have := HQ.out; have := HQ.out.2.2.2.2 h50; omega) (by have := HQ.out; have := HQ.out.2.2.2.2 h50; omega)).mono ?_
    rintro e w2 ⟨rfl, b2⟩
    go_wp2_with fail
    refine (c_medianAdjacent A c l r' w.heap.size _ (((h.below B).below b1).below b2) hok (by have := HQ.out; have := HQ.out.2.2.2.2 h50; omega) (by have := HQ.out; have := HQ.out.2.2.2.2 h50; omega)).mono ?_
    rintro e w3 ⟨rfl, b3⟩
    go_wp2_with fail
    refine (c_median A c l q q' r' w.heap.size _ ((((h.below B).below b1).below b2).below b3) hok (by have := HQ.out; omega) (by have := HQ.out; omega) (by have := HQ.out; omega)).mono ?_
    rintro e w4 ⟨rfl, b4⟩
    have z := ((bstep (bstep (bstep b1 b2) b3) b4).cell (p := ⟨w.heap.size, 0, none⟩) HLT.out).trans HZ.out
    go_wp2
    go_ret2
    exact ⟨⟨_, rfl⟩, bstep B (bstep (bstep (bstep b1 b2) b3) b4)⟩
  · have hg50 : decide ((50 : Int) ≤ (l.length : Int)) = false := decide_eq_false (by omega)
    have hg50n : decide (50 ≤ l.length) = false := decide_eq_false h50
    go_enter Tryz.func118, Tryz.ntmps118
    go_wp2_with fail
    refine (c_median A c l q q' r' w.heap.size _ (h.below B) hok (by have := HQ.out; omega) (by have := HQ.out; omega) (by have := HQ.out; omega)).mono ?_
    rintro e w4 ⟨rfl, b4⟩
    have z := (b4.cell (p := ⟨w.heap.size, 0, none⟩) HLT.out).trans HZ.out
    go_wp2
    go_ret2
    exact ⟨⟨_, rfl⟩, bstep B b4⟩

theorem c_insertionRise (A : Option Addr) (c : Nat) (l : List (Int × Int)) (w : World) (h : At2 .i16 .i8 w A l) (hok : okT l = true) :
    Calls Tryz.prog 115 #[.slice A l.length c, .int .i64 0, .int .i64 (l.length : Int), .func (.func 49) #[] #[]] w fun e w' => e = .returned (.tuple #[]) ∧ Below w.heap.size w w' := by
  have hu := Tryz.underlying40
  have hl := okT_len hok
  go_enter Tryz.func115, Tryz.ntmps115
  go_wp2
  go_loopw [8] (fun i w' => ∃ k : Nat, i = .int .i64 (k : Int) ∧ 1 ≤ k ∧ k ≤ l.length + 1 ∧ Below w.heap.size w w') (fun i _ => l.length + 1 - (intOf i).toNat)
  case atStart => exact ⟨1, rfl, by omega, by omega, Below.refl _ _⟩
  case round =>
    obtain ⟨k, rfl, hk1, hk, hb⟩ := hrel
    by_cases hlt : k < l.length
    · have hle : decide ((k : Int) < (l.length : Int)) = true := decide_eq_true (by omega)
      have hle2 : decide (k < l.length) = true := decide_eq_true hlt
      go_wp2
      go_loopw [9] (fun j w' => j = .int .i64 (k : Int) ∧ Below w.heap.size w w') (fun _ _ => 0)
      case atStart => exact ⟨rfl, hb⟩
      case round =>
        obtain ⟨rfl, hb2⟩ := hrel
        obtain ⟨g, off, hAe, hbl, hc⟩ := (h.below hb2).get (by omega)
        subst hAe
        have x1 : ∀ x : After wr, _ := fun x => (x.cell hbl).trans (hc k hlt).1
        have x2 : ∀ x : After wr, _ := fun x => (x.cell hbl).trans (hc k hlt).2
        have y1 : ∀ x : After wr, _ := fun x => (x.cell hbl).trans (hc (k - 1) (by omega)).1
        have y2 : ∀ x : After wr, _ := fun x => (x.cell hbl).trans (hc (k - 1) (by omega)).2
        have hw1 : IntKind.i64.wrap ((k:Int) - 1) = (k:Int) - 1 := IntWalk.i64_in _ (by omega)
        have hw2 : (0:Int) ≤ (k:Int) - 1 := by omega
        have hw3 : ((k:Int) - 1).toNat = k - 1 := by omega
        have hcm := cmp_rise hok hlt (show k - 1 < k by omega)
        have i1 : (0 : Int) ≤ (k : Int) := by omega
        have i2 : (k : Int) < (l.length : Int) := by omega
        have i3 : (k : Int) - 1 < (l.length : Int) := by omega
        have i4 : decide ((0 : Int) < (k : Int)) = true := decide_eq_true (by omega)
        have i5 : decide (0 < k) = true := decide_eq_true (by omega)
        clear hc
        go_wp2
        refine region_after (by kernel_rfl) (by kernel_rfl) ?_
        repeat (go_big_quiet_step ((go_at_call 49; exact After.call (c_compareNotes _ _ _))))
        refine wpQuiet_nil ?_
        rintro _ ⟨x, rfl⟩
        go_wp2
        go_roundw
        case rel => exact ⟨k + 1, by go_num, by omega, by omega, bstep hb2 x.below⟩
        case measure => simp [intOf]; omega
    · have hge : decide ((k : Int) < (l.length : Int)) = false := decide_eq_false (by omega)
      have hge2 : decide (k < l.length) = false := decide_eq_false (by omega)
      go_wp2
      go_end0
      exact ⟨rfl, hb⟩

theorem c_partialRise (A : Option Addr) (c : Nat) (l : List (Int × Int)) (w : World) (h : At2 .i16 .i8 w A l) (hok : okT l = true) (hn : 0 < l.length) :
    Calls Tryz.prog 120 #[.slice A l.length c, .int .i64 0, .int .i64 (l.length : Int), .func (.func 49) #[] #[]] w fun e w' => e = .returned (.bool true) ∧ Below w.heap.size w w' := by
  have hu := Tryz.underlying40
  have hl := okT_len hok
  go_enter Tryz.func120, Tryz.ntmps120
  go_wp2
  go_loopw [9, 10] (fun i j w' => i = .int .i64 1 ∧ j = .int .i64 0 ∧ Below w.heap.size w w') (fun _ _ _ => 0)
  case atStart => exact ⟨rfl, rfl, Below.refl _ _⟩
  case round =>
    obtain ⟨rfl, rfl, hb⟩ := hrel
    go_wp2
    go_loopw [9] (fun i w' => ∃ k : Nat, i = .int .i64 (k : Int) ∧ 1 ≤ k ∧ k ≤ l.length ∧ Below w.heap.size w w') (fun i _ => l.length - (intOf i).toNat)
    case atStart => exact ⟨1, rfl, by omega, by omega, hb⟩
    case round =>
      obtain ⟨k, rfl, hk1, hk, hb2⟩ := hrel
      by_cases hlt : k < l.length
      · obtain ⟨g, off, hAe, hbl, hc⟩ := (h.below hb2).get (by omega)
        subst hAe
        have x1 : ∀ x : After wr, _ := fun x => (x.cell hbl).trans (hc k hlt).1
        have x2 : ∀ x : After wr, _ := fun x => (x.cell hbl).trans (hc k hlt).2
        have y1 : ∀ x : After wr, _ := fun x => (x.cell hbl).trans (hc (k - 1) (by omega)).1
        have y2 : ∀ x : After wr, _ := fun x => (x.cell hbl).trans (hc (k - 1) (by omega)).2
        have hw1 : IntKind.i64.wrap ((k:Int) - 1) = (k:Int) - 1 := IntWalk.i64_in _ (by omega)
        have hw2 : (0:Int) ≤ (k:Int) - 1 := by omega
        have hw3 : ((k:Int) - 1).toNat = k - 1 := by omega
        have hcm := cmp_rise hok hlt (show k - 1 < k by omega)
        have i1 : (0 : Int) ≤ (k : Int) := by omega
        have i2 : (k : Int) < (l.length : Int) := by omega
        have i3 : (k : Int) - 1 < (l.length : Int) := by omega
        clear hc
        go_wp2
        refine region_after (by kernel_rfl) (by kernel_rfl) ?_
        repeat (go_big_quiet_step ((go_at_call 49; exact After.call (c_compareNotes _ _ _))))
        refine wpQuiet_nil ?_
        rintro _ ⟨x, rfl⟩
        go_wp2
        go_roundw
        case rel => exact ⟨k + 1, by go_num, by omega, by omega, bstep hb2 x.below⟩
        case measure => simp [intOf]; omega
      · obtain rfl : k = l.length := by omega
        go_wp2
        refine region_after (by kernel_rfl) (by kernel_rfl) ?_
        repeat (go_big_quiet_step (fail))
        refine wpQuiet_nil ?_
        rintro _ ⟨x, rfl⟩
        go_wp2
        go_ret
        exact ⟨rfl, bstep hb2 x.below⟩

theorem c_pdqRise (A : Option Addr) (c : Nat) (l : List (Int × Int)) (m : Int) (w : World) (h : At2 .i16 .i8 w A l) (hok : okT l = true) (hm : 12 < l.length → m ≠ 0) :
    Calls Tryz.prog 95 #[.slice A l.length c, .int .i64 0, .int .i64 (l.length : Int), .int .i64 m, .func (.func 49) #[] #[]] w fun e w' => e = .returned (.tuple #[]) ∧ Below w.heap.size w w' := by
  have hl := okT_len hok
  have hw0 : IntKind.i64.wrap ((l.length : Int) - 0) = (l.length : Int) := IntWalk.i64_in _ (by omega)
  go_enter Tryz.func95, Tryz.ntmps95
  go_wp2
  go_loopw [1, 2, 3, 10, 11] (fun a b lim x y w' => a = .int .i64 0 ∧ b = .int .i64 (l.length : Int) ∧ lim = .int .i64 m ∧ x = .bool true ∧ y = .bool true ∧ Below w.heap.size w w') (fun _ _ _ _ _ _ => 0)
  case atStart => exact ⟨rfl, rfl, rfl, rfl, rfl, Below.refl _ _⟩
  case round =>
    obtain ⟨rfl, rfl, rfl, rfl, rfl, hb⟩ := hrel
    by_cases h12 : l.length ≤ 12
    · have hg1 : decide ((l.length : Int) ≤ 12) = true := decide_eq_true (by omega)
      have hg2 : decide (l.length ≤ 12) = true := decide_eq_true h12
      go_wp2_with fail
      refine (c_insertionRise A c l _ (h.below hb) hok).mono ?_
      rintro e w1 ⟨rfl, b1⟩
      go_wp2
      try simp only [Exit.inBlock, Exit.then]
      refine bodyPost_ret (results_none rfl _ _ _) rfl ?_
      exact ⟨rfl, bstep hb b1⟩
    · have hg1 : decide ((l.length : Int) ≤ 12) = false := decide_eq_false (by omega)
      have hg2 : decide (l.length ≤ 12) = false := decide_eq_false h12
      have hm0 : (m == 0) = false := by simpa using hm (by omega)
      go_wp2_with fail
      refine (c_choosePivot A c l _ (h.below hb) hok (by omega)).mono ?_
      rintro e w1 ⟨⟨q, rfl⟩, b1⟩
      go_wp2_with fail
      refine (c_partialRise A c l _ ((h.below hb).below b1) hok (by omega)).mono ?_
      rintro e w2 ⟨rfl, b2⟩
      go_wp2
      try simp only [Exit.inBlock, Exit.then]
      refine bodyPost_ret (results_none rfl _ _ _) rfl ?_
      exact ⟨rfl, bstep (bstep hb b1) b2⟩

theorem bitLen_pos {x : Nat} (h : 0 < x) : (Lib.bitLen x : Int) ≠ 0 := by
  have : Lib.bitLen x = 1 + Lib.bitLenAux 63 (x / 2) := by
    show (if x = 0 then 0 else 1 + Lib.bitLenAux 63 (x / 2)) = _
    rw [if_neg (by omega)]
  omega
theorem c_Len (x : Nat) (w : World) (hx : x ≤ 255) : Calls Tryz.prog 96 #[.int .u64 (x : Int)] w fun e w' => (∃ m : Int, e = .returned (.int .i64 m) ∧ (0 < x → m ≠ 0)) ∧ w = w' := by
  have g1 : decide ((4294967296 : Int) ≤ (x : Int)) = false := decide_eq_false (by omega)
  have g2 : decide ((65536 : Int) ≤ (x : Int)) = false := decide_eq_false (by omega)
  have g3 : decide ((256 : Int) ≤ (x : Int)) = false := decide_eq_false (by omega)
  have hm : (x : Int) % 256 = (x : Int) := by omega
  have hx0 : (0 : Int) ≤ (x : Int) := by omega
  have hx1 : (x : Int) ≤ 255 := by omega
  have e8 := Lib.len8_of (x : Int) hx0 hx1
  have l8 := Lib.bitLen_le8' (x : Int) hx0 hx1
  simp only [Int.toNat_natCast] at e8 l8
  have HB := Lib.hid (fun h => bitLen_pos (x := x) h)
  obtain ⟨b, hb⟩ : ∃ b : Nat, Lib.bitLen x = b := ⟨_, rfl⟩
  rw [hb] at e8 l8 HB
  have hw1 : IntKind.i64.wrap (b : Int) = (b : Int) := IntWalk.i64_in _ (by omega)
  clear hb
  go_enter Tryz.func96, Tryz.ntmps96
  go_wp2
  go_ret
  exact ⟨⟨(b : Int), rfl, fun h => HB.out h⟩, rfl⟩

theorem c_SortRise (A : Option Addr) (c : Nat) (l : List (Int × Int)) (w : World) (h : At2 .i16 .i8 w A l) (hok : okT l = true) :
    Calls Tryz.prog 78 #[.slice A l.length c, .func (.func 49) #[] #[]] w fun e w' => e = .returned (.tuple #[]) ∧ Below w.heap.size w w' := by
  have hl := okT_len hok
  have hw0 : IntKind.u64.wrap (l.length : Int) = (l.length : Int) := IntWalk.u64_in _ (by omega)
  go_enter Tryz.func78, Tryz.ntmps78
  go_wp2_with fail
  refine (c_Len l.length _ (by omega)).mono ?_
  rintro e w1 ⟨⟨m, rfl, hm⟩, rfl⟩
  go_wp2_with fail
  refine (c_pdqRise A c l m _ h hok (fun h12 => hm (by omega))).mono ?_
  rintro e w2 ⟨rfl, b2⟩
  go_wp2
  go_end0
  exact ⟨rfl, b2⟩

theorem c_CompactRise (A : Option Addr) (c : Nat) (l : List (Int × Int)) (w : World) (h : At2 .i16 .i8 w A l) (hok : okT l = true) :
    Calls Tryz.prog 79 #[.slice A l.length c] w fun e w' => e = .returned (.slice A l.length c) ∧ Below w.heap.size w w' := by
  have hu := Tryz.underlying40
  have hl := okT_len hok
  by_cases h2 : l.length < 2
  · have hg1 : decide ((l.length : Int) < 2) = true := decide_eq_true (by omega)
    have hg2 : decide (l.length < 2) = true := decide_eq_true h2
    go_enter Tryz.func79, Tryz.ntmps79
    go_wp2
    go_ret
    exact ⟨rfl, Below.refl _ _⟩
  · have hg1 : decide ((l.length : Int) < 2) = false := decide_eq_false (by omega)
    have hg2 : decide (l.length < 2) = false := decide_eq_false h2
    go_enter Tryz.func79, Tryz.ntmps79
    go_wp2
    go_loopw [3] (fun i w' => ∃ k : Nat, i = .int .i64 (k : Int) ∧ 1 ≤ k ∧ k ≤ l.length ∧ Below w.heap.size w w') (fun i _ => l.length - (intOf i).toNat)
    case atStart => exact ⟨1, rfl, by omega, by omega, Below.refl _ _⟩
    case round =>
      obtain ⟨k, rfl, hk1, hk, hb2⟩ := hrel
      by_cases hlt : k < l.length
      · obtain ⟨g, off, hAe, hbl, hc⟩ := (h.below hb2).get (by omega)
        subst hAe
        have x1 : ∀ x : After wr, _ := fun x => (x.cell hbl).trans (hc k hlt).1
        have x2 : ∀ x : After wr, _ := fun x => (x.cell hbl).trans (hc k hlt).2
        have y1 : ∀ x : After wr, _ := fun x => (x.cell hbl).trans (hc (k - 1) (by omega)).1
        have y2 : ∀ x : After wr, _ := fun x => (x.cell hbl).trans (hc (k - 1) (by omega)).2
        have hw1 : IntKind.i64.wrap ((k:Int) - 1) = (k:Int) - 1 := IntWalk.i64_in _ (by omega)
        have hw2 : (0:Int) ≤ (k:Int) - 1 := by omega
        have hw3 : ((k:Int) - 1).toNat = k - 1 := by omega
        have i1 : (0 : Int) ≤ (k : Int) := by omega
        have i2 : (k : Int) < (l.length : Int) := by omega
        have i3 : (k : Int) - 1 < (l.length : Int) := by omega
        have heq := eq_note l[k] l[k - 1]
        have hne : eqN l[k] l[k - 1] = false := by
          have hlt3 := ltN_iff.1 (okT_lt hok hlt (show k - 1 < k by omega))
          unfold eqN
          rw [Bool.and_eq_false_iff]
          rcases hlt3 with h3 | ⟨h3, h4⟩
          · left; simp; omega
          · right; simp; omega
        clear hc
        go_wp2
        refine region_after (by kernel_rfl) (by kernel_rfl) ?_
        repeat (go_big_quiet_step (fail))
        refine wpQuiet_nil ?_
        rintro _ ⟨x, rfl⟩
        clear heq
        go_wp2
        go_roundw
        case rel => exact ⟨k + 1, by go_num, by omega, by omega, bstep hb2 x.below⟩
        case measure => simp [intOf]; omega
      · obtain rfl : k = l.length := by omega
        go_wp2
        go_ret
        exact ⟨rfl, hb2⟩

end Go.Proofs.YtbdopmcjoncelaaGreatDoor
