/-
  The walks of the next pin on a track, ahead and behind, and of a clash at a pin, in the reference and in the program.
-/
import Derived.Test.YtnakdlfjjeligaaGreatWalkDI
import Derived.Test.YtnakdlfjjeligaaGreatData
namespace Go.Proofs.YtnakdlfjjeligaaGreat
open Go.RowKit
set_option linter.unusedVariables false
set_option linter.unusedSimpArgs false
set_option maxRecDepth 4000

theorem After.callF {P : Program} {w : World} {f : FuncId} {args : Array Value} {v : Value} (h : ∀ x : After w, Calls P f args x.w fun e w' => e = .returned v ∧ Below x.w.heap.size x.w w') (x : After w) :
    Calls P f args x.w fun e w'' => e = .returned v ∧ ∃ y : After w, w'' = y.w := After.call (h x)
theorem After.callS {P : Program} {w : World} {f : FuncId} {args : Array Value} {v : Value} (h : ∀ x : After w, Calls P f args x.w fun e w' => e = .returned v ∧ x.w = w') (x : After w) :
    Calls P f args x.w fun e w'' => e = .returned v ∧ ∃ y : After w, w'' = y.w := After.call_same (h x)

theorem c_l02Next (bf bd n : Nat) (A : Option Addr) (c : Nat) (l : List (Int × Int)) (d : List Int) (k t : Nat) (w : World) (hf : FrameAt w bf (n : Int) A c l) (hd : DrumAt w bd d) (hr : Wd d) (hn2 : 2 ≤ n) (hn96 : n ≤ 96) (hk : k < n) (ht : t < 32) :
    Calls Tryz.prog 96 #[.pointer (some ⟨bf, 0, none⟩), .pointer (some ⟨bd, 0, none⟩), .int .i64 (k : Int), .int .i64 (t : Int)] w fun z w' => z = .returned (.int .i64 (fwN d n k t : Nat)) ∧ w = w' := by
  have f1 := hf.2.1
  have hn0 : ((n : Int) == 0) = false := by simp; omega
  go_enter Tryz.func96, Tryz.ntmps96
  go_wp2
  go_loopw [10] (fun i w' => ∃ j : Nat, i = .int .i64 (j : Int) ∧ 1 ≤ j ∧ j ≤ n ∧ (∀ x, 1 ≤ x → x < j → fwP d n k t x = false) ∧ w' = w) (fun i _ => n - (intOf i).toNat)
  case atStart => exact ⟨1, rfl, by omega, by omega, fun x h1 h2 => absurd h2 (by omega), rfl⟩
  case round =>
    obtain ⟨j, rfl, hj1, hj, hz, rfl⟩ := hrel
    have HZ := Lib.hid hz; clear hz
    by_cases hlt : j < n
    · obtain ⟨q, hq⟩ : ∃ q : Nat, (k + j) % n = q := ⟨_, rfl⟩
      have hqn : q < n := by rw [← hq]; exact Nat.mod_lt _ (by omega)
      have hw1 : IntKind.i64.wrap ((k : Int) + (j : Int)) = (k : Int) + (j : Int) := IntWalk.i64_in _ (by omega)
      have hw2 : ((k : Int) + (j : Int)).tmod (n : Int) = (q : Int) := by
        rw [Int.tmod_eq_emod_of_nonneg (by omega), ← hq]; push_cast; rfl
      have HQ := Lib.hid (show fwP d n k t j = pinB d q t by unfold fwP; rw [hq])
      clear hq
      rcases hp : pinB d q t with _ | _
      · have HP := Lib.hid hp
        go_wp2_with fail
        refine (c_l02Pin bd q t d _ hd hr (by omega) ht).mono ?_
        rintro z w1 ⟨rfl, rfl⟩
        rw [hp]
        go_wp2
        go_roundw
        case rel => exact ⟨j + 1, by go_num, by omega, by omega, fun x h1 h2 => by
          by_cases e : x = j
          · subst e; rw [HQ.out, HP.out]
          · exact HZ.out x h1 (by omega), by first | trivial | rfl⟩
        case measure => simp [intOf]; omega
      · have HP := Lib.hid hp
        go_wp2_with fail
        refine (c_l02Pin bd q t d _ hd hr (by omega) ht).mono ?_
        rintro z w1 ⟨rfl, rfl⟩
        rw [hp]
        go_wp2
        go_ret
        refine ⟨ret_int ?_, rfl⟩
        have := nxt_some (p := fwP d n k t) hj1 hlt (by rw [HQ.out, HP.out]) HZ.out
        unfold fwN; rw [this]
    · obtain rfl : j = n := by omega
      go_wp2
      go_ret
      refine ⟨ret_int ?_, rfl⟩
      have := nxt_none (p := fwP d j k t) HZ.out
      unfold fwN; rw [this]

theorem c_behind_fw (bd n : Nat) (A : Option Addr) (c : Nat) (l : List (Int × Int)) (d : List Int) (k t : Nat) (w : World) (hd : DrumAt w bd d) (hr : Wd d) (hn2 : 2 ≤ n) (hn96 : n ≤ 96) (hk : k < n) (ht : t < 32) :
    Calls Tryz.prog 97 #[.agg #[.int .i16 (n : Int), .slice A l.length c], .pointer (some ⟨bd, 0, none⟩), .int .i64 (k : Int), .int .i64 (t : Int), .int .i64 (1)] w fun z w' => z = .returned (.int .i64 (fwN d n k t : Nat)) ∧ Below w.heap.size w w' := by
  have hn0 : ((n : Int) == 0) = false := by simp; omega
  go_enter Tryz.func97, Tryz.ntmps97
  have HD := Lib.hid (hd.alloc (.cells #[.int .i16 (n : Int), .slice A l.length c] 27))
  clear hd
  go_wp2
  go_loopw [12] (fun i w' => ∃ j : Nat, i = .int .i64 (j : Int) ∧ 1 ≤ j ∧ j ≤ n ∧ (∀ x, 1 ≤ x → x < j → fwP d n k t x = false) ∧ w' = (w.alloc (.cells #[.int .i16 (n : Int), .slice A l.length c] 27))) (fun i _ => n - (intOf i).toNat)
  case atStart => exact ⟨1, rfl, by omega, by omega, fun x h1 h2 => absurd h2 (by omega), rfl⟩
  case round =>
    obtain ⟨j, rfl, hj1, hj, hz, rfl⟩ := hrel
    have HZ := Lib.hid hz; clear hz
    by_cases hlt : j < n
    · obtain ⟨q, hq⟩ : ∃ q : Nat, (k + j) % n = q := ⟨_, rfl⟩
      have hqn : q < n := by rw [← hq]; exact Nat.mod_lt _ (by omega)
      have hw1 : IntKind.i64.wrap ((1 : Int) * (j : Int)) = (j : Int) := by rw [Int.one_mul]; exact IntWalk.i64_in _ (by omega)
      have hw1b : IntKind.i64.wrap (j : Int) = (j : Int) := IntWalk.i64_in _ (by omega)
      have hw2 : IntKind.i64.wrap ((k : Int) + (j : Int)) = (k : Int) + (j : Int) := IntWalk.i64_in _ (by omega)
      have hw3 : IntKind.i64.wrap ((k : Int) + (j : Int) + (n : Int)) = (k : Int) + (j : Int) + (n : Int) := IntWalk.i64_in _ (by omega)
      have hw4 : ((k : Int) + (j : Int) + (n : Int)).tmod (n : Int) = (q : Int) := by
        rw [Int.tmod_eq_emod_of_nonneg (by omega), Int.add_emod_right, ← hq]; push_cast; rfl
      have HQ := Lib.hid (show fwP d n k t j = pinB d q t by unfold fwP; rw [hq])
      clear hq
      rcases hp : pinB d q t with _ | _
      · have HP := Lib.hid hp
        go_wp2_with fail
        refine (c_has bd q t d _ HD.out hr (by omega) ht).mono ?_
        rintro z w1 ⟨rfl, rfl⟩
        rw [hp]
        go_wp2
        go_roundw
        case rel => exact ⟨j + 1, by go_num, by omega, by omega, fun x h1 h2 => by
          by_cases e : x = j
          · subst e; rw [HQ.out, HP.out]
          · exact HZ.out x h1 (by omega), by first | trivial | rfl⟩
        case measure => simp [intOf]; omega
      · have HP := Lib.hid hp
        go_wp2_with fail
        refine (c_has bd q t d _ HD.out hr (by omega) ht).mono ?_
        rintro z w1 ⟨rfl, rfl⟩
        rw [hp]
        go_wp2
        go_ret
        refine ⟨ret_int ?_, balloc (Below.refl _ _) _⟩
        have := nxt_some (p := fwP d n k t) hj1 hlt (by rw [HQ.out, HP.out]) HZ.out
        unfold fwN; rw [this]
    · obtain rfl : j = n := by omega
      go_wp2
      go_ret
      refine ⟨ret_int ?_, balloc (Below.refl _ _) _⟩
      have := nxt_none (p := fwP d j k t) HZ.out
      unfold fwN; rw [this]

theorem c_behind_bw (bd n : Nat) (A : Option Addr) (c : Nat) (l : List (Int × Int)) (d : List Int) (k t : Nat) (w : World) (hd : DrumAt w bd d) (hr : Wd d) (hn2 : 2 ≤ n) (hn96 : n ≤ 96) (hk : k < n) (ht : t < 32) :
    Calls Tryz.prog 97 #[.agg #[.int .i16 (n : Int), .slice A l.length c], .pointer (some ⟨bd, 0, none⟩), .int .i64 (k : Int), .int .i64 (t : Int), .int .i64 (-1)] w fun z w' => z = .returned (.int .i64 (bwN d n k t : Nat)) ∧ Below w.heap.size w w' := by
  have hn0 : ((n : Int) == 0) = false := by simp; omega
  go_enter Tryz.func97, Tryz.ntmps97
  have HD := Lib.hid (hd.alloc (.cells #[.int .i16 (n : Int), .slice A l.length c] 27))
  clear hd
  go_wp2
  go_loopw [12] (fun i w' => ∃ j : Nat, i = .int .i64 (j : Int) ∧ 1 ≤ j ∧ j ≤ n ∧ (∀ x, 1 ≤ x → x < j → bwP d n k t x = false) ∧ w' = (w.alloc (.cells #[.int .i16 (n : Int), .slice A l.length c] 27))) (fun i _ => n - (intOf i).toNat)
  case atStart => exact ⟨1, rfl, by omega, by omega, fun x h1 h2 => absurd h2 (by omega), rfl⟩
  case round =>
    obtain ⟨j, rfl, hj1, hj, hz, rfl⟩ := hrel
    have HZ := Lib.hid hz; clear hz
    by_cases hlt : j < n
    · obtain ⟨q, hq⟩ : ∃ q : Nat, (k + n - j) % n = q := ⟨_, rfl⟩
      have hqn : q < n := by rw [← hq]; exact Nat.mod_lt _ (by omega)
      have hw1 : IntKind.i64.wrap ((-1 : Int) * (j : Int)) = -(j : Int) := by rw [show (-1 : Int) * (j : Int) = -(j : Int) by omega]; exact IntWalk.i64_in _ (by omega)
      have hw1b : IntKind.i64.wrap (-(j : Int)) = -(j : Int) := IntWalk.i64_in _ (by omega)
      have hw2 : IntKind.i64.wrap ((k : Int) + -(j : Int)) = (k : Int) + -(j : Int) := IntWalk.i64_in _ (by omega)
      have hw3 : IntKind.i64.wrap ((k : Int) + -(j : Int) + (n : Int)) = (k : Int) + -(j : Int) + (n : Int) := IntWalk.i64_in _ (by omega)
      have hw4 : ((k : Int) + -(j : Int) + (n : Int)).tmod (n : Int) = (q : Int) := by
        rw [Int.tmod_eq_emod_of_nonneg (by omega), ← hq, show (k : Int) + -(j : Int) + (n : Int) = ((k + n - j : Nat) : Int) by omega]; push_cast; rfl
      have HQ := Lib.hid (show bwP d n k t j = pinB d q t by unfold bwP; rw [hq])
      clear hq
      rcases hp : pinB d q t with _ | _
      · have HP := Lib.hid hp
        go_wp2_with fail
        refine (c_has bd q t d _ HD.out hr (by omega) ht).mono ?_
        rintro z w1 ⟨rfl, rfl⟩
        rw [hp]
        go_wp2
        go_roundw
        case rel => exact ⟨j + 1, by go_num, by omega, by omega, fun x h1 h2 => by
          by_cases e : x = j
          · subst e; rw [HQ.out, HP.out]
          · exact HZ.out x h1 (by omega), by first | trivial | rfl⟩
        case measure => simp [intOf]; omega
      · have HP := Lib.hid hp
        go_wp2_with fail
        refine (c_has bd q t d _ HD.out hr (by omega) ht).mono ?_
        rintro z w1 ⟨rfl, rfl⟩
        rw [hp]
        go_wp2
        go_ret
        refine ⟨ret_int ?_, balloc (Below.refl _ _) _⟩
        have := nxt_some (p := bwP d n k t) hj1 hlt (by rw [HQ.out, HP.out]) HZ.out
        unfold bwN; rw [this]
    · obtain rfl : j = n := by omega
      go_wp2
      go_ret
      refine ⟨ret_int ?_, balloc (Below.refl _ _) _⟩
      have := nxt_none (p := bwP d j k t) HZ.out
      unfold bwN; rw [this]

theorem c_l02Clash (bf bd n : Nat) (A : Option Addr) (c : Nat) (l : List (Int × Int)) (d : List Int) (k t : Nat) (w : World) (h : At2 .i8 .i8 w A l) (hf : FrameAt w bf (n : Int) A c l) (hd : DrumAt w bd d) (hr : Wd d) (hn2 : 2 ≤ n) (hn96 : n ≤ 96) (hk : k < n) (ht : t < l.length) (hl : l.length ≤ 32) (hw : Whs l) :
    Calls Tryz.prog 77 #[.pointer (some ⟨bf, 0, none⟩), .pointer (some ⟨bd, 0, none⟩), .int .i64 (k : Int), .int .i64 (t : Int)] w fun z w' => z = .returned (.bool (pinB d k t && clB d n l k t)) ∧ Below w.heap.size w w' := by
  obtain ⟨b, off, rfl, hbl, hc⟩ := h.get (by omega)
  have HF := Lib.hid hf
  have HD := Lib.hid hd
  have x1 : ∀ x : After w, _ := fun x => (HF.out.below x.below).2.2
  have x2 : ∀ x : After w, _ := fun x => (x.cell hbl).trans (hc t ht).2
  have HR := Lib.hid (rdy_at ht)
  obtain ⟨_, _, m1, m2⟩ := hw.get ht
  have m3 : IntKind.i64.wrap l[t].2 = l[t].2 := IntWalk.i64_in _ (by omega)
  have i1 : (0 : Int) ≤ (t : Int) := by omega
  have i2 : (t : Int) < (l.length : Int) := by omega
  clear hc hf hd
  rcases hp : pinB d k t with _ | _
  · go_enter Tryz.func77, Tryz.ntmps77
    go_wp2
    refine region_after (by kernel_rfl) (by kernel_rfl) ?_
    repeat (go_big_quiet_step ((go_at_call 49; exact After.callS (fun x => hp ▸ c_l02Pin bd k t d _ (HD.out.below x.below) hr (by omega) (by omega)) _)))
    refine wpQuiet_nil ?_
    rintro _ ⟨x, rfl⟩
    go_wp2
    go_ret
    exact ⟨by simp, x.below⟩
  · go_enter Tryz.func77, Tryz.ntmps77
    go_wp2
    refine region_after (by kernel_rfl) (by kernel_rfl) ?_
    repeat (go_big_quiet_step ((first | (go_at_call 49; exact After.callS (fun x => hp ▸ c_l02Pin bd k t d _ (HD.out.below x.below) hr (by omega) (by omega)) _) | (go_at_call 96; exact After.callS (fun x => c_l02Next bf bd n (some ⟨b, off, none⟩) c l d k t _ (HF.out.below x.below) (HD.out.below x.below) hr hn2 hn96 hk (by omega)) _))))
    refine wpQuiet_nil ?_
    rintro _ ⟨x, rfl⟩
    go_wp2
    go_ret
    exact ⟨ret_bool (by unfold clB; rw [HR.out]; simp), x.below⟩

theorem c_clashes (bd n : Nat) (A : Option Addr) (c : Nat) (l : List (Int × Int)) (d : List Int) (k t : Nat) (w : World) (h : At2 .i8 .i8 w A l) (hd : DrumAt w bd d) (hr : Wd d) (hn2 : 2 ≤ n) (hn96 : n ≤ 96) (hk : k < n) (ht : t < l.length) (hl : l.length ≤ 32) (hw : Whs l) :
    Calls Tryz.prog 79 #[.agg #[.int .i16 (n : Int), .slice A l.length c], .pointer (some ⟨bd, 0, none⟩), .int .i64 (k : Int), .int .i64 (t : Int)] w fun z w' => z = .returned (.bool (clB d n l k t)) ∧ Below w.heap.size w w' := by
  have hu2 := Tryz.underlying27
  obtain ⟨b, off, rfl, hbl, hc⟩ := h.get (by omega)
  have HF := Lib.hid (Var.new w #[.int .i16 (n : Int), .slice (some ⟨b, off, none⟩) l.length c] 27)
  have HD := Lib.hid (hd.alloc (.cells #[.int .i16 (n : Int), .slice (some ⟨b, off, none⟩) l.length c] 27))
  have x0 : ∀ x : After (w.alloc (.cells #[.int .i16 (n : Int), .slice (some ⟨b, off, none⟩) l.length c] 27)), x.w.cell? ⟨w.heap.size, 0, none⟩ = some (.int .i16 (n : Int)) := fun x => (HF.out.below x.below).cell rfl
  have x1 : ∀ x : After (w.alloc (.cells #[.int .i16 (n : Int), .slice (some ⟨b, off, none⟩) l.length c] 27)), x.w.cell? ⟨w.heap.size, 1, none⟩ = some (.slice (some ⟨b, off, none⟩) l.length c) := fun x => (HF.out.below x.below).cell rfl
  have x2 : ∀ x : After (w.alloc (.cells #[.int .i16 (n : Int), .slice (some ⟨b, off, none⟩) l.length c] 27)), _ := fun x => (x.old hbl).trans (hc t ht).2
  have HR := Lib.hid (rdy_at ht)
  obtain ⟨_, _, m1, m2⟩ := hw.get ht
  have m3 : IntKind.i64.wrap l[t].2 = l[t].2 := IntWalk.i64_in _ (by omega)
  have i1 : (0 : Int) ≤ (t : Int) := by omega
  have i2 : (t : Int) < (l.length : Int) := by omega
  clear hc hd
  go_enter Tryz.func79, Tryz.ntmps79
  go_wp2
  refine region_after (by kernel_rfl) (by kernel_rfl) ?_
  repeat (go_big_quiet_step ((go_at_call 97; exact After.callF (fun x => c_behind_fw bd n (some ⟨b, off, none⟩) c l d k t _ (HD.out.below x.below) hr hn2 hn96 hk (by omega)) _)))
  refine wpQuiet_nil ?_
  rintro _ ⟨x, rfl⟩
  go_wp2
  go_ret
  exact ⟨ret_bool (by unfold clB; rw [HR.out]), bstep (balloc (Below.refl _ _) _) x.below⟩

end Go.Proofs.YtnakdlfjjeligaaGreat
