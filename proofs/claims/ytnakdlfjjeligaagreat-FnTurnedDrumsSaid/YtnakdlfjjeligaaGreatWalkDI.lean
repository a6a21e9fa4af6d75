/-
  The walks of the code of a place of a drum, and of the test whether a pin is there.
-/
import Derived.Test.YtnakdlfjjeligaaGreatWalkDH
import Derived.Test.YtnakdlfjjeligaaGreatData
namespace Go.Proofs.YtnakdlfjjeligaaGreat
open Go.RowKit
set_option linter.unusedVariables false
set_option linter.unusedSimpArgs false
set_option maxRecDepth 4000

theorem c_l02Pin (b k t : Nat) (d : List Int) (w : World) (hd : DrumAt w b d) (hr : Wd d) (hk : k < 96) (ht : t < 32) :
    Calls Tryz.prog 49 #[.pointer (some ⟨b, 0, none⟩), .int .i64 (k : Int), .int .i64 (t : Int)] w fun e w' => e = .returned (.bool (pinB d k t)) ∧ w = w' := by
  have hk2 : k < d.length := by have := hd.2.1; omega
  have x1 := hd.2.2 k hk2
  have h1 : (0 : Int) ≤ (k : Int) := by omega
  have h2 : (k : Int) < 96 := by omega
  have h3 : IntKind.u64.wrap (t : Int) = (t : Int) := IntWalk.u64_in _ (by omega)
  have h4 : min t 32 = t := by omega
  rw [pinB_at hk2]
  go_enter Tryz.func49, Tryz.ntmps49
  go_wp2
  go_ret
  exact ⟨ret_bool (by rw [tmod_two (div_bd (hr.get hk2) t).1]), rfl⟩

theorem c_has (b k t : Nat) (d : List Int) (w : World) (hd : DrumAt w b d) (hr : Wd d) (hk : k < 96) (ht : t < 32) :
    Calls Tryz.prog 47 #[.pointer (some ⟨b, 0, none⟩), .int .i64 (k : Int), .int .i64 (t : Int)] w fun e w' => e = .returned (.bool (pinB d k t)) ∧ w = w' := by
  have hk2 : k < d.length := by have := hd.2.1; omega
  have x1 := hd.2.2 k hk2
  have h1 : (0 : Int) ≤ (k : Int) := by omega
  have h2 : (k : Int) < 96 := by omega
  have h4 : min t 32 = t := by omega
  rw [pinB_at hk2]
  go_enter Tryz.func47, Tryz.ntmps47
  go_wp2
  go_ret
  exact ⟨ret_bool (by rw [and_one (div_bd (hr.get hk2) t)]), rfl⟩

theorem c_firstOfD (A : Option Addr) (c : Nat) (xs : List Int) (w : World) (h : At1 .i64 w A xs) (hn : xs.length ≤ 1073741824) :
    Calls Tryz.prog 45 #[.slice A xs.length c] w fun e w' => e = .returned (.int .i64 (firstNZ xs)) ∧ w = w' := by
  go_enter Tryz.func45, Tryz.ntmps45
  go_wp2
  go_loop [7] (fun i => ∃ k : Nat, i = .int .i64 k ∧ k ≤ xs.length ∧ ∀ i (hi : i < xs.length), i < k → xs[i] = 0) (fun i => xs.length - (intOf i).toNat)
  case atStart => exact ⟨0, rfl, by omega, fun _ _ h => absurd h (by omega)⟩
  case round =>
    obtain ⟨k, rfl, hk, hz⟩ := hrel
    have HZ := Lib.hid hz; clear hz
    by_cases hlt : k < xs.length
    · obtain ⟨b, off, rfl, hbl, hc⟩ := h.get (by omega)
      have x1 := hc k hlt
      clear hc
      rcases hx : (xs[k] == 0) with _ | _
      · have hx2 : ¬ xs[k] = 0 := by simpa using hx
        go_wp2
        go_ret
        exact ⟨ret_int (firstNZ_at hlt hx2 HZ.out).symm, rfl⟩
      · have hx2 : xs[k] = 0 := by simpa using hx
        have HX := Lib.hid hx2
        clear hx2
        go_wp2
        go_round
        case rel => exact ⟨k + 1, by go_num, by omega, fun i hi hik => by
          by_cases e : i = k
          · subst e; exact HX.out
          · exact HZ.out i hi (by omega)⟩
        case measure => simp [intOf]; omega
    · obtain rfl : k = xs.length := by omega
      go_wp2
      go_ret
      exact ⟨ret_int (firstNZ_none (fun i hi => HZ.out i hi hi)).symm, rfl⟩

/-- The first of two codes, in the block that the call lays for them. -/
theorem c_firstOfD_two (a b : Int) (w : World) (t : TypeId) :
    Calls Tryz.prog 45 #[.slice (some ⟨w.heap.size, 0, none⟩) 2 2] (w.alloc (.cells #[.int .i64 a, .int .i64 b] t)) fun e w' => e = .returned (.int .i64 (if a = 0 then b else a)) ∧ Below w.heap.size w w' := by
  have H := c_firstOfD (some ⟨w.heap.size, 0, none⟩) 2 [a, b] (w.alloc (.cells #[.int .i64 a, .int .i64 b] t)) (Row.lit #[.int .i64 a, .int .i64 b] _) (by simp)
  refine H.mono fun e w' ⟨he, hb⟩ => ⟨?_, hb ▸ balloc (Below.refl _ _) _⟩
  rw [he]
  refine ret_int ?_
  simp only [firstNZ]
  by_cases h1 : a = 0
  · rw [if_pos h1, if_pos h1]
    by_cases h2 : b = 0
    · rw [if_pos h2, h2]
    · rw [if_neg h2]
  · rw [if_neg h1, if_neg h1]

theorem c_sizeD (A : Option Addr) (c n : Nat) (w : World) :
    Calls Tryz.prog 80 #[.slice A n c] w fun e w' => e = .returned (.int .i64 n) ∧ w = w' := c_size A c n w

theorem c_isPlace (s : Int) (A : Option Addr) (c : Nat) (l : List (Int × Int)) (a t : Int) (w : World) (hs : W16 s) (hn : l.length ≤ 1073741824) :
    Calls Tryz.prog 65 #[.agg #[.int .i16 s, .slice A l.length c], .int .i64 a, .int .i64 t] w fun e w' => e = .returned (.bool (inB a 0 (s - 1) && inB t 0 ((l.length : Int) - 1))) ∧ Below w.heap.size w w' := by
  have hu2 := Tryz.underlying27
  have ws := wrap16 hs
  have w1 : IntKind.i64.wrap (s - 1) = s - 1 := IntWalk.i64_in _ (by unfold W16 at hs; omega)
  have w2 : IntKind.i64.wrap ((l.length : Int) - 1) = (l.length : Int) - 1 := IntWalk.i64_in _ (by omega)
  rcases e1 : inB a 0 (s - 1) with _ | _
  all_goals
    go_enter Tryz.func65, Tryz.ntmps65
    go_wp2_with (first | (go_at_call 74; refine (c_within _ _ _ _).mono ?_; rintro e w' ⟨rfl, rfl⟩) | (go_at_call 80; refine (c_size _ _ _ _).mono ?_; rintro e w' ⟨rfl, rfl⟩))
    go_ret
    exact ⟨by first | rfl | simp, balloc (Below.refl _ _) _⟩

theorem c_l02Place (bf bd : Nat) (s : Int) (A : Option Addr) (c : Nat) (l : List (Int × Int)) (d : List Int) (a t : Int) (w : World) (hf : FrameAt w bf s A c l) (h : At2 .i8 .i8 w A l) (hd : DrumAt w bd d) (hs : W16 s) (hl : Whs l) (hn : l.length ≤ 1073741824) :
    Calls Tryz.prog 35 #[.pointer (some ⟨bf, 0, none⟩), .pointer (some ⟨bd, 0, none⟩), .int .i64 a, .int .i64 t] w fun e w' => e = .returned (.int .i64 (cP s l d a t)) ∧ Below w.heap.size w w' := by
  have hu2 := Tryz.underlying27
  have ws := wrap16 hs
  have w1 : IntKind.i64.wrap (s - 1) = s - 1 := IntWalk.i64_in _ (by unfold W16 at hs; omega)
  have w2 : IntKind.i64.wrap ((l.length : Int) - 1) = (l.length : Int) - 1 := IntWalk.i64_in _ (by omega)
  unfold cP
  rcases hx : vD s l d with _ | _
  · have hc : cD s l d = 1 := by unfold cD; unfold vD at hx; rw [hx]; rfl
    go_enter Tryz.func35, Tryz.ntmps35
    go_wp2_with fail
    refine (c_l02Asked bf bd s A c l d _ hf h hd hs hl hn).mono ?_
    rintro e w1 ⟨rfl, b1⟩
    rw [hc]
    go_wp2
    go_ret
    exact ⟨rfl, b1⟩
  · have hc : cD s l d = 0 := by unfold cD; unfold vD at hx; rw [hx]; rfl
    rcases e1 : inB a 0 (s - 1) with _ | _ <;> rcases e2 : inB t 0 ((l.length : Int) - 1) with _ | _
    all_goals
      go_enter Tryz.func35, Tryz.ntmps35
      go_wp2_with fail
      refine (c_l02Asked bf bd s A c l d _ hf h hd hs hl hn).mono ?_
      rintro e w1 ⟨rfl, b1⟩
      rw [hc]
      clear hc
      have f1 := (hf.below b1).2.1
      have f2 := (hf.below b1).2.2
      go_wp2_with (go_at_call 57; refine (c_l00In _ _ _ _).mono ?_; rintro e w' ⟨rfl, rfl⟩)
      go_ret
      exact ⟨rfl, b1⟩

end Go.Proofs.YtnakdlfjjeligaaGreat
