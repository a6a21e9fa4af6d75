/-
  The walks of the codes: whether tunes are valid, and the first of some codes.
-/
import Derived.Test.YtnakdlfjjeligaaGreatWalkB
namespace Go.Proofs.YtnakdlfjjeligaaGreat
open Go.RowKit
set_option linter.unusedVariables false
set_option linter.unusedSimpArgs false
set_option maxRecDepth 4000

/-- A tune as a slice value: where it lies, its capacity, what it reads. -/
abbrev Sl := Option Addr × Nat × List (Int × Int)
def Sl.v (s : Sl) : Value := .slice s.1 s.2.2.length s.2.1
def Sl.ok (w : World) (s : Sl) : Prop := At2 .i16 .i8 w s.1 s.2.2 ∧ Wf s.2.2 ∧ s.2.2.length ≤ 1073741824
theorem Sl.ok.below {w w' : World} {s : Sl} (h : s.ok w) (hb : Below w.heap.size w w') : s.ok w' := ⟨h.1.below hb, h.2⟩
def Tunes (w : World) (A : Option Addr) (ts : List Sl) : Prop := Row w A (ts.map Sl.v) ∧ ∀ s ∈ ts, s.ok w
theorem Tunes.below {w w' : World} {A : Option Addr} {ts : List Sl} (h : Tunes w A ts) (hb : Below w.heap.size w w') : Tunes w' A ts := ⟨h.1.below hb, fun s hs => (h.2 s hs).below hb⟩
theorem Tunes.get {w : World} {A : Option Addr} {ts : List Sl} (h : Tunes w A ts) (hp : 0 < ts.length) :
    ∃ b off, A = some ⟨b, off, none⟩ ∧ b < w.heap.size ∧ ∀ i (hi : i < ts.length), w.cell? ⟨b, off + i, none⟩ = some (.slice ts[i].1 ts[i].2.2.length ts[i].2.1) := by
  obtain ⟨b, off, e, hb, hc⟩ := h.1.get (by simpa using hp)
  exact ⟨b, off, e, hb, fun i hi => (hc i (by simpa using hi)).trans (by rw [List.getElem_map]; rfl)⟩



theorem c_firstOf (A : Option Addr) (c : Nat) (xs : List Int) (w : World) (h : At1 .i64 w A xs) (hn : xs.length ≤ 1073741824) :
    Calls Tryz.prog 45 #[.slice A xs.length c] w fun e w' => e = .returned (.int .i64 (firstNZ xs)) ∧ w = w' := by
  go_enter Tryz.func45, Tryz.ntmps45
  go_wp2
  go_loop [7] (fun i => ∃ k : Nat, i = .int .i64 k ∧ k ≤ xs.length ∧ ∀ i (hi : i < xs.length), i < k → xs[i] = 0) (fun i => xs.length - (intOf i).toNat)
  case atStart => exact ⟨0, rfl, by omega, fun _ _ h => absurd h (by omega)⟩
  case round =>
    obtain ⟨k, rfl, hk, hz⟩ := hrel
    have HZ := Lib.hid hz; clear hz
    by_cases hlt : k < xs.length
    · obtain ⟨b, off, rfl, hbl, hc⟩ := h.get (by omega)
      have x1 := hc k hlt
      clear hc
      rcases hx : (xs[k] == 0) with _ | _
      · have hx2 : ¬ xs[k] = 0 := by simpa using hx
        go_wp2
        go_ret
        exact ⟨ret_int (firstNZ_at hlt hx2 HZ.out).symm, rfl⟩
      · have hx2 : xs[k] = 0 := by simpa using hx
        have HX := Lib.hid hx2
        clear hx2
        go_wp2
        go_round
        case rel => exact ⟨k + 1, by go_num, by omega, fun i hi hik => by
          by_cases e : i = k
          · subst e; exact HX.out
          · exact HZ.out i hi (by omega)⟩
        case measure => simp [intOf]; omega
    · obtain rfl : k = xs.length := by omega
      go_wp2
      go_ret
      exact ⟨ret_int (firstNZ_none (fun i hi => HZ.out i hi hi)).symm, rfl⟩

/-- The first of two codes, in the block that the call lays for them. -/
theorem c_firstOf_two (a b : Int) (w : World) (t : TypeId) :
    Calls Tryz.prog 45 #[.slice (some ⟨w.heap.size, 0, none⟩) 2 2] (w.alloc (.cells #[.int .i64 a, .int .i64 b] t)) fun e w' => e = .returned (.int .i64 (if a = 0 then b else a)) ∧ Below w.heap.size w w' := by
  have H := c_firstOf (some ⟨w.heap.size, 0, none⟩) 2 [a, b] (w.alloc (.cells #[.int .i64 a, .int .i64 b] t)) (Row.lit #[.int .i64 a, .int .i64 b] _) (by simp)
  refine H.mono fun e w' ⟨he, hb⟩ => ⟨?_, hb ▸ balloc (Below.refl _ _) _⟩
  rw [he]
  refine ret_int ?_
  simp only [firstNZ]
  by_cases h1 : a = 0
  · rw [if_pos h1, if_pos h1]
    by_cases h2 : b = 0
    · rw [if_pos h2, h2]
    · rw [if_neg h2]
  · rw [if_neg h1, if_neg h1]

end Go.Proofs.YtnakdlfjjeligaaGreat
