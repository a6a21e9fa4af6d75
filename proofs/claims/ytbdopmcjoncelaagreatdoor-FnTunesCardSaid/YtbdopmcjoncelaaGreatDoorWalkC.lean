/-
  The walks of the codes: whether tunes are valid, and the first of some codes.
-/
import Derived.Test.YtbdopmcjoncelaaGreatDoorWalkB
namespace Go.Proofs.YtbdopmcjoncelaaGreatDoor
open Go.RowKit
set_option linter.unusedVariables false
set_option linter.unusedSimpArgs false
set_option maxRecDepth 4000

/-- A tune as a slice value: where it lies, its capacity, what it reads. -/
abbrev Sl := Option Addr × Nat × List (Int × Int)
def Sl.v (s : Sl) : Value := .slice s.1 s.2.2.length s.2.1
def Sl.ok (w : World) (s : Sl) : Prop := At2 .i16 .i8 w s.1 s.2.2 ∧ Wf s.2.2 ∧ s.2.2.length ≤ 1073741824
theorem Sl.ok.below {w w' : World} {s : Sl} (h : s.ok w) (hb : Below w.heap.size w w') : s.ok w' := ⟨h.1.below hb, h.2⟩
def Tunes (w : World) (A : Option Addr) (ts : List Sl) : Prop := Row w A (ts.map Sl.v) ∧ ∀ s ∈ ts, s.ok w
theorem Tunes.below {w w' : World} {A : Option Addr} {ts : List Sl} (h : Tunes w A ts) (hb : Below w.heap.size w w') : Tunes w' A ts := ⟨h.1.below hb, fun s hs => (h.2 s hs).below hb⟩
theorem Tunes.get {w : World} {A : Option Addr} {ts : List Sl} (h : Tunes w A ts) (hp : 0 < ts.length) :
    ∃ b off, A = some ⟨b, off, none⟩ ∧ b < w.heap.size ∧ ∀ i (hi : i < ts.length), w.cell? ⟨b, off + i, none⟩ = some (.slice ts[i].1 ts[i].2.2.length ts[i].2.1) := by
  obtain ⟨b, off, e, hb, hc⟩ := h.1.get (by simpa using hp)
  exact ⟨b, off, e, hb, fun i hi => (hc i (by simpa using hi)).trans (by rw [List.getElem_map]; rfl)⟩


theorem c_tuneCode1 (A : Option Addr) (c : Nat) (l : List (Int × Int)) (w : World) (h : At2 .i16 .i8 w A l) (hw : Wf l) (hn : l.length ≤ 1073741824) :
    Calls Tryz.prog 70 #[.slice A l.length c] w fun e w' => e = .returned (.bool (!okT l)) ∧ Below w.heap.size w w' := by
  go_enter Tryz.func70, Tryz.ntmps70
  go_wp2_with (go_at_call 15; refine (c_ValidTune A c l w h hw hn).mono ?_; rintro e w' ⟨rfl, hb⟩)
  go_ret
  exact ⟨rfl, hb⟩

theorem c_IndexTune (A : Option Addr) (c : Nat) (ts : List Sl) (w : World) (h : Tunes w A ts) (hn : ts.length ≤ 1073741824) :
    Calls Tryz.prog 92 #[.slice A ts.length c, .func (.func 70) #[] #[]] w fun e w' => e = .returned (.int .i64 (badAt (ts.map (·.2.2)))) ∧ Below w.heap.size w w' := by
  go_enter Tryz.func92, Tryz.ntmps92
  go_wp2
  go_loopw [8] (fun i w' => ∃ k : Nat, i = .int .i64 k ∧ k ≤ ts.length ∧ (∀ i (hi : i < ts.length), i < k → okT ts[i].2.2 = true) ∧ Below w.heap.size w w') (fun i _ => ts.length - (intOf i).toNat)
  case atStart => exact ⟨0, rfl, by omega, fun _ _ h => absurd h (by omega), Below.refl _ _⟩
  case round =>
    obtain ⟨k, rfl, hk, hz, hb⟩ := hrel
    have HZ := Lib.hid hz; clear hz
    by_cases hlt : k < ts.length
    · have h' := h.below hb
      obtain ⟨b, off, rfl, hbl, hc⟩ := h'.get (by omega)
      have x1 := hc k hlt
      clear hc
      obtain ⟨o1, o2, o3⟩ := h'.2 _ (List.getElem_mem hlt)
      rcases hx : okT ts[k].2.2 with _ | _
      · have HX := Lib.hid hx
        go_wp2_with (go_at_call 70; refine (c_tuneCode1 _ _ _ _ o1 o2 o3).mono ?_; rintro e w1 ⟨rfl, hb1⟩)
        go_ret
        exact ⟨ret_int (badAt_some (ls := ts.map (·.2.2)) (by simpa using hlt) (by simpa using HX.out) (fun i hi hik => by simpa using HZ.out i (by simpa using hi) hik)).symm, bstep hb hb1⟩
      · have HX := Lib.hid hx
        go_wp2_with (go_at_call 70; refine (c_tuneCode1 _ _ _ _ o1 o2 o3).mono ?_; rintro e w1 ⟨rfl, hb1⟩)
        go_roundw
        case rel => exact ⟨k + 1, by go_num, by omega, fun i hi hik => by
          by_cases e : i = k
          · subst e; exact HX.out
          · exact HZ.out i hi (by omega), bstep hb hb1⟩
        case measure => simp [intOf]; omega
    · obtain rfl : k = ts.length := by omega
      go_wp2
      go_ret
      exact ⟨ret_int (badAt_none (ls := ts.map (·.2.2)) (fun i hi => by simpa using HZ.out i (by simpa using hi) (by simpa using hi))).symm, hb⟩

theorem c_ContainsTune (A : Option Addr) (c : Nat) (ts : List Sl) (w : World) (h : Tunes w A ts) (hn : ts.length ≤ 1073741824) :
    Calls Tryz.prog 69 #[.slice A ts.length c, .func (.func 70) #[] #[]] w fun e w' => e = .returned (.bool (decide (0 ≤ badAt (ts.map (·.2.2))))) ∧ Below w.heap.size w w' := by
  go_enter Tryz.func69, Tryz.ntmps69
  go_wp2_with (go_at_call 92; refine (c_IndexTune A c ts w h hn).mono ?_; rintro e w1 ⟨rfl, hb1⟩)
  go_ret
  exact ⟨rfl, hb1⟩

theorem c_unless (b : Bool) (n : Int) (w : World) :
    Calls Tryz.prog 38 #[.bool b, .int .i64 n] w fun e w' => e = .returned (.int .i64 (if b then 0 else n)) ∧ w = w' := by
  rcases b with _ | _
  all_goals
    go_enter Tryz.func38, Tryz.ntmps38
    go_wp2
    go_ret
    exact ⟨by simp, rfl⟩

theorem c_tuneCode (A : Option Addr) (c : Nat) (ts : List Sl) (w : World) (h : Tunes w A ts) (hn : ts.length ≤ 1073741824) :
    Calls Tryz.prog 37 #[.slice A ts.length c] w fun e w' => e = .returned (.int .i64 (codeT (ts.map (·.2.2)))) ∧ Below w.heap.size w w' := by
  unfold codeT
  by_cases hx : 0 ≤ badAt (ts.map (·.2.2))
  all_goals
    go_enter Tryz.func37, Tryz.ntmps37
    go_wp2_with (first | (go_at_call 69; refine (c_ContainsTune A c ts w h hn).mono ?_; rintro e w1 ⟨rfl, hb1⟩) | (go_at_call 38; refine (c_unless _ _ _).mono ?_; rintro e w1 ⟨rfl, rfl⟩))
    go_ret
    exact ⟨ret_int (by simp [hx]), hb1⟩

/-- The code of one tune, in the block that the call lays for it. -/
theorem c_tuneCode_one (A : Option Addr) (c : Nat) (l : List (Int × Int)) (w : World) (t : TypeId) (h : At2 .i16 .i8 w A l) (hw : Wf l) (hn : l.length ≤ 1073741824) :
    Calls Tryz.prog 37 #[.slice (some ⟨w.heap.size, 0, none⟩) 1 1] (w.alloc (.cells #[.slice A l.length c] t)) fun e w' => e = .returned (.int .i64 (if okT l then 0 else 1)) ∧ Below w.heap.size w w' := by
  have H := c_tuneCode (some ⟨w.heap.size, 0, none⟩) 1 [(A, c, l)] (w.alloc (.cells #[.slice A l.length c] t)) ⟨Row.lit _ _, fun s hs => by
    obtain rfl : s = (A, c, l) := by simpa using hs
    exact ⟨h.alloc _, hw, hn⟩⟩ (by simp)
  refine H.mono fun e w' ⟨he, hb⟩ => ⟨?_, bstep (balloc (Below.refl _ _) _) hb⟩
  rw [he]
  exact ret_int (codeT_one l)

theorem c_tuneCode_two (A B : Option Addr) (c d : Nat) (l m : List (Int × Int)) (w : World) (t : TypeId) (h : At2 .i16 .i8 w A l) (hw : Wf l) (hn : l.length ≤ 1073741824) (h2 : At2 .i16 .i8 w B m) (hw2 : Wf m) (hn2 : m.length ≤ 1073741824) :
    Calls Tryz.prog 37 #[.slice (some ⟨w.heap.size, 0, none⟩) 2 2] (w.alloc (.cells #[.slice A l.length c, .slice B m.length d] t)) fun e w' => e = .returned (.int .i64 (if okT l && okT m then 0 else 1)) ∧ Below w.heap.size w w' := by
  have H := c_tuneCode (some ⟨w.heap.size, 0, none⟩) 2 [(A, c, l), (B, d, m)] (w.alloc (.cells #[.slice A l.length c, .slice B m.length d] t)) ⟨Row.lit _ _, fun s hs => by
    simp only [List.mem_cons, List.not_mem_nil, or_false] at hs
    rcases hs with rfl | rfl
    · exact ⟨h.alloc _, hw, hn⟩
    · exact ⟨h2.alloc _, hw2, hn2⟩⟩ (by simp)
  refine H.mono fun e w' ⟨he, hb⟩ => ⟨?_, bstep (balloc (Below.refl _ _) _) hb⟩
  rw [he]
  exact ret_int (codeT_two l m)

theorem c_firstOf (A : Option Addr) (c : Nat) (xs : List Int) (w : World) (h : At1 .i64 w A xs) (hn : xs.length ≤ 1073741824) :
    Calls Tryz.prog 36 #[.slice A xs.length c] w fun e w' => e = .returned (.int .i64 (firstNZ xs)) ∧ w = w' := by
  go_enter Tryz.func36, Tryz.ntmps36
  go_wp2
  go_loop [7] (fun i => ∃ k : Nat, i = .int .i64 k ∧ k ≤ xs.length ∧ ∀ i (hi : i < xs.length), i < k → xs[i] = 0) (fun i => xs.length - (intOf i).toNat)
  case atStart => exact ⟨0, rfl, by omega, fun _ _ h => absurd h (by omega)⟩
  case round =>
    obtain ⟨k, rfl, hk, hz⟩ := hrel
    have HZ := Lib.hid hz; clear hz
    by_cases hlt : k < xs.length
    · obtain ⟨b, off, rfl, hbl, hc⟩ := h.get (by omega)
      have x1 := hc k hlt
      clear hc
      rcases hx : (xs[k] == 0) with _ | _
      · have hx2 : ¬ xs[k] = 0 := by simpa using hx
        go_wp2
        go_ret
        exact ⟨ret_int (firstNZ_at hlt hx2 HZ.out).symm, rfl⟩
      · have hx2 : xs[k] = 0 := by simpa using hx
        have HX := Lib.hid hx2
        clear hx2
        go_wp2
        go_round
        case rel => exact ⟨k + 1, by go_num, by omega, fun i hi hik => by
          by_cases e : i = k
          · subst e; exact HX.out
          · exact HZ.out i hi (by omega)⟩
        case measure => simp [intOf]; omega
    · obtain rfl : k = xs.length := by omega
      go_wp2
      go_ret
      exact ⟨ret_int (firstNZ_none (fun i hi => HZ.out i hi hi)).symm, rfl⟩

/-- The first of two codes, in the block that the call lays for them. -/
theorem c_firstOf_two (a b : Int) (w : World) (t : TypeId) :
    Calls Tryz.prog 36 #[.slice (some ⟨w.heap.size, 0, none⟩) 2 2] (w.alloc (.cells #[.int .i64 a, .int .i64 b] t)) fun e w' => e = .returned (.int .i64 (if a = 0 then b else a)) ∧ Below w.heap.size w w' := by
  have H := c_firstOf (some ⟨w.heap.size, 0, none⟩) 2 [a, b] (w.alloc (.cells #[.int .i64 a, .int .i64 b] t)) (Row.lit #[.int .i64 a, .int .i64 b] _) (by simp)
  refine H.mono fun e w' ⟨he, hb⟩ => ⟨?_, hb ▸ balloc (Below.refl _ _) _⟩
  rw [he]
  refine ret_int ?_
  simp only [firstNZ]
  by_cases h1 : a = 0
  · rw [if_pos h1, if_pos h1]
    by_cases h2 : b = 0
    · rw [if_pos h2, h2]
    · rw [if_neg h2]
  · rw [if_neg h1, if_neg h1]

end Go.Proofs.YtbdopmcjoncelaaGreatDoor
