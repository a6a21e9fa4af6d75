/-
  The walks of the law's own helpers on hammers and frames, and of the test whether a frame is valid.
-/
import Derived.Test.YtkjpiokmccnhdaaDoorWalkA
import Derived.Test.YtkjpiokmccnhdaaDoorDataD
import Derived.Test.YtkjpiokmccnhdaaDoorPureD
namespace Go.Proofs.YtkjpiokmccnhdaaDoor
open Go.RowKit
set_option linter.unusedVariables false
set_option linter.unusedSimpArgs false
set_option maxRecDepth 4000

theorem info_Hammer : (Tryd.prog.info? 44).map (fun i => (i.zero, i.size, i.bytes)) = some (some (.agg #[.int .i8 0, .int .i8 0]), 2, 2) := by kernel_rfl




theorem c_eqHammer (a b : Int × Int) (w : World) :
    Calls Tryd.prog 43 #[.agg #[.int .i8 a.1, .int .i8 a.2], .agg #[.int .i8 b.1, .int .i8 b.2]] w fun e w' => e = .returned (.bool (eqN a b)) ∧ Below w.heap.size w w' := by
  by_cases h1 : a.1 = b.1 <;> by_cases h2 : a.2 = b.2
  all_goals
    go_enter Tryd.func43, Tryd.ntmps43
    go_wp2
    go_ret
    exact ⟨ret_bool (by simp [eqN]; omega), balloc (balloc (Below.refl _ _) _) _⟩



theorem c_eqHammerS (A B : Option Addr) (c d : Nat) (l m : List (Int × Int)) (w : World) (h : At2 .i8 .i8 w A l) (h2 : At2 .i8 .i8 w B m) (hn : l.length ≤ 1073741824) (hn2 : m.length ≤ 1073741824) :
    Calls Tryd.prog 24 #[.slice A l.length c, .slice B m.length d] w fun e w' => e = .returned (.bool (eqL l m)) ∧ Below w.heap.size w w' := by
  have hu := Tryd.underlying44
  by_cases hlen : l.length = m.length
  · have HL := Lib.hid hlen
    have hlen1 : ((l.length : Int) == (m.length : Int)) = true := by simp [hlen]
    clear hlen
    go_enter Tryd.func24, Tryd.ntmps24
    go_wp2
    clear hlen1
    go_loopw [5] (fun i w' => ∃ k : Nat, i = .int .i64 k ∧ k ≤ l.length ∧ (∀ i (h1 : i < l.length) (h2 : i < m.length), i < k → eqN l[i] m[i] = true) ∧ Below w.heap.size w w') (fun i _ => l.length - (intOf i).toNat)
    case atStart => exact ⟨0, rfl, by omega, fun _ _ _ h => absurd h (by omega), Below.refl _ _⟩
    case round =>
      obtain ⟨k, rfl, hk, hz, hb⟩ := hrel
      have HZ := Lib.hid hz; clear hz
      by_cases hlt : k < l.length
      · have hlt2 : k < m.length := by have := HL.out; omega
        obtain ⟨b, off, rfl, hbl, hc⟩ := (h.below hb).get (by omega)
        obtain ⟨b2, off2, rfl, hbl2, hc2⟩ := (h2.below hb).get (by omega)
        have x1 : ∀ x : After wr, _ := fun x => (x.cell hbl).trans (hc k hlt).1
        have x2 : ∀ x : After wr, _ := fun x => (x.cell hbl).trans (hc k hlt).2
        have y1 : ∀ x : After wr, _ := fun x => (x.cell hbl2).trans (hc2 k hlt2).1
        have y2 : ∀ x : After wr, _ := fun x => (x.cell hbl2).trans (hc2 k hlt2).2
        have hi1 : (k : Int) < (m.length : Int) := by omega
        rcases hx : eqN l[k] m[k] with _ | _
        · go_wp2
          refine region_after (by kernel_rfl) (by kernel_rfl) ?_
          repeat (go_big_quiet_step (((go_at_call 43; exact After.call (c_eqHammer _ _ _)))))
          refine wpQuiet_nil ?_
          rintro _ ⟨x, rfl⟩
          go_wp2
          go_ret
          exact ⟨ret_bool (eqL_at hlt hlt2 hx).symm, bstep hb x.below⟩
        · have HX := Lib.hid hx
          go_wp2
          refine region_after (by kernel_rfl) (by kernel_rfl) ?_
          repeat (go_big_quiet_step (((go_at_call 43; exact After.call (c_eqHammer _ _ _)))))
          refine wpQuiet_nil ?_
          rintro _ ⟨x, rfl⟩
          go_wp2
          go_roundw
          case rel => exact ⟨k + 1, by go_num, by omega, fun i h1 h2 hik => by
            by_cases e : i = k
            · subst e; exact HX.out
            · exact HZ.out i h1 h2 (by omega), bstep hb x.below⟩
          case measure => simp [intOf]; omega
      · obtain rfl : k = l.length := by omega
        go_wp2
        go_ret
        exact ⟨ret_bool (eqL_all HL.out (fun i h1 h2 => HZ.out i h1 h2 h1)).symm, hb⟩
  · have HL := Lib.hid hlen
    have hlen1 : ((l.length : Int) == (m.length : Int)) = false := by simp; omega
    clear hlen
    go_enter Tryd.func24, Tryd.ntmps24
    go_wp2
    go_ret
    exact ⟨ret_bool (eqL_len HL.out).symm, Below.refl _ _⟩

/-- Are two frames the same? -/
theorem c_eqFrame (s u : Int) (A B : Option Addr) (c d : Nat) (l m : List (Int × Int)) (w : World) (h : At2 .i8 .i8 w A l) (h2 : At2 .i8 .i8 w B m) (hn : l.length ≤ 1073741824) (hn2 : m.length ≤ 1073741824) :
    Calls Tryd.prog 7 #[.agg #[.int .i16 s, .slice A l.length c], .agg #[.int .i16 u, .slice B m.length d]] w fun e w' => e = .returned (.bool (decide (s = u) && eqL l m)) ∧ Below w.heap.size w w' := by
  have hu := Tryd.underlying25
  by_cases hx : s = u
  · rcases hy : eqL l m with _ | _
    all_goals
      have hx1 : (s == u) = true := by simp [hx]
      have HX := Lib.hid hx
      clear hx
      go_enter Tryd.func7, Tryd.ntmps7
      go_wp2_with fail
      refine (c_eqHammerS A B c d l m _ ((h.alloc _).alloc _) ((h2.alloc _).alloc _) hn hn2).mono ?_
      rintro e w' ⟨rfl, hb⟩
      rw [hy]
      clear hy h h2 hn hn2
      go_wp2
      go_ret
      exact ⟨ret_bool (by simp [HX.out]), bstep (balloc (balloc (Below.refl _ _) _) _) hb⟩
  · have hx1 : (s == u) = false := by simp [hx]
    have HX := Lib.hid hx
    clear hx
    go_enter Tryd.func7, Tryd.ntmps7
    go_wp2
    go_ret
    exact ⟨ret_bool (by simp [HX.out]), balloc (balloc (Below.refl _ _) _) _⟩

end Go.Proofs.YtkjpiokmccnhdaaDoor
