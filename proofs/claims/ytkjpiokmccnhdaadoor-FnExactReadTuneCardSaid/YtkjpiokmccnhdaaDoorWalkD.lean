/-
  The walks of the law's own helpers on notes: size, copy, equality, marks.
-/
import Derived.Test.YtkjpiokmccnhdaaDoorWalkA
namespace Go.Proofs.YtkjpiokmccnhdaaDoor
open Go.RowKit
set_option linter.unusedVariables false
set_option linter.unusedSimpArgs false
set_option maxRecDepth 4000

theorem info_Note : (Tryd.prog.info? 55).map (fun i => (i.zero, i.size, i.bytes)) = some (some (.agg #[.int .i16 0, .int .i8 0]), 2, 4) := by kernel_rfl



theorem c_eqNote (a b : Int × Int) (w : World) :
    Calls Tryd.prog 29 #[.agg #[.int .i16 a.1, .int .i8 a.2], .agg #[.int .i16 b.1, .int .i8 b.2]] w fun e w' => e = .returned (.bool (eqN a b)) ∧ Below w.heap.size w w' := by
  by_cases h1 : a.1 = b.1 <;> by_cases h2 : a.2 = b.2
  all_goals
    go_enter Tryd.func29, Tryd.ntmps29
    go_wp2
    go_ret
    exact ⟨ret_bool (by simp [eqN]; omega), balloc (balloc (Below.refl _ _) _) _⟩


theorem c_eqTune (A B : Option Addr) (c d : Nat) (l m : List (Int × Int)) (w : World) (h : At2 .i16 .i8 w A l) (h2 : At2 .i16 .i8 w B m) (hn : l.length ≤ 1073741824) (hn2 : m.length ≤ 1073741824) :
    Calls Tryd.prog 12 #[.slice A l.length c, .slice B m.length d] w fun e w' => e = .returned (.bool (eqL l m)) ∧ Below w.heap.size w w' := by
  have hu := Tryd.underlying55
  by_cases hlen : l.length = m.length
  · have HL := Lib.hid hlen
    have hlen1 : ((l.length : Int) == (m.length : Int)) = true := by simp [hlen]
    clear hlen
    go_enter Tryd.func12, Tryd.ntmps12
    go_wp2
    clear hlen1
    go_loopw [5] (fun i w' => ∃ k : Nat, i = .int .i64 k ∧ k ≤ l.length ∧ (∀ i (h1 : i < l.length) (h2 : i < m.length), i < k → eqN l[i] m[i] = true) ∧ Below w.heap.size w w') (fun i _ => l.length - (intOf i).toNat)
    case atStart => exact ⟨0, rfl, by omega, fun _ _ _ h => absurd h (by omega), Below.refl _ _⟩
    case round =>
      obtain ⟨k, rfl, hk, hz, hb⟩ := hrel
      have HZ := Lib.hid hz; clear hz
      by_cases hlt : k < l.length
      · have hlt2 : k < m.length := by have := HL.out; omega
        obtain ⟨b, off, rfl, hbl, hc⟩ := (h.below hb).get (by omega)
        obtain ⟨b2, off2, rfl, hbl2, hc2⟩ := (h2.below hb).get (by omega)
        have x1 : ∀ x : After wr, _ := fun x => (x.cell hbl).trans (hc k hlt).1
        have x2 : ∀ x : After wr, _ := fun x => (x.cell hbl).trans (hc k hlt).2
        have y1 : ∀ x : After wr, _ := fun x => (x.cell hbl2).trans (hc2 k hlt2).1
        have y2 : ∀ x : After wr, _ := fun x => (x.cell hbl2).trans (hc2 k hlt2).2
        have hi1 : (k : Int) < (m.length : Int) := by omega
        rcases hx : eqN l[k] m[k] with _ | _
        · go_wp2
          refine region_after (by kernel_rfl) (by kernel_rfl) ?_
          repeat (go_big_quiet_step (((go_at_call 29; exact After.call (c_eqNote _ _ _)))))
          refine wpQuiet_nil ?_
          rintro _ ⟨x, rfl⟩
          go_wp2
          go_ret
          exact ⟨ret_bool (eqL_at hlt hlt2 hx).symm, bstep hb x.below⟩
        · have HX := Lib.hid hx
          go_wp2
          refine region_after (by kernel_rfl) (by kernel_rfl) ?_
          repeat (go_big_quiet_step (((go_at_call 29; exact After.call (c_eqNote _ _ _)))))
          refine wpQuiet_nil ?_
          rintro _ ⟨x, rfl⟩
          go_wp2
          go_roundw
          case rel => exact ⟨k + 1, by go_num, by omega, fun i h1 h2 hik => by
            by_cases e : i = k
            · subst e; exact HX.out
            · exact HZ.out i h1 h2 (by omega), bstep hb x.below⟩
          case measure => simp [intOf]; omega
      · obtain rfl : k = l.length := by omega
        go_wp2
        go_ret
        exact ⟨ret_bool (eqL_all HL.out (fun i h1 h2 => HZ.out i h1 h2 h1)).symm, hb⟩
  · have HL := Lib.hid hlen
    have hlen1 : ((l.length : Int) == (m.length : Int)) = false := by simp; omega
    clear hlen
    go_enter Tryd.func12, Tryd.ntmps12
    go_wp2
    go_ret
    exact ⟨ret_bool (eqL_len HL.out).symm, Below.refl _ _⟩

theorem c_markTune (A : Option Addr) (c : Nat) (l : List (Int × Int)) (m : Nat) (base : Nat) (w : World) (h : Own2 .i16 .i8 55 w base (.slice A l.length c) l) (hn : l.length ≤ 1073741824) (hm : m ≤ 1073741824) :
    Calls Tryd.prog 13 #[.slice A l.length c, .int .i64 m] w fun e w' => e = .returned (.int .i64 ((m + 2 * l.length : Nat) : Int)) ∧ Own2 .i16 .i8 55 w' base (.slice A l.length c) (markL l.length m) ∧ w.grownBy w' (Value.slice A l.length c).ownBlock := by
  have hu := Tryd.underlying55
  go_enter Tryd.func13, Tryd.ntmps13
  go_wp2
  go_loopw [1, 5] (fun q i w' => ∃ k : Nat, i = .int .i64 k ∧ q = .int .i64 ((m + 2 * k : Nat) : Int) ∧ k ≤ l.length ∧ Own2 .i16 .i8 55 w' base (.slice A l.length c) (markP l k m) ∧ w.grownBy w' (Value.slice A l.length c).ownBlock) (fun _ i _ => l.length - (intOf i).toNat)
  case atStart => exact ⟨0, rfl, rfl, by omega, by rw [markP_zero]; exact h, World.grownBy.refl _ _⟩
  case round =>
    obtain ⟨k, rfl, rfl, hk, hown, hg⟩ := hrel
    by_cases hlt : k < l.length
    · have hlt2 : k < (markP l k m).length := by rw [markP_len _ _ _ hk]; exact hlt
      obtain ⟨g, rfl⟩ : ∃ g, A = some ⟨g, 0, none⟩ := hown.form (by omega)
      obtain ⟨y1, y2, y3, y4⟩ := hown.cells k hlt2
      have hw1 : IntKind.i64.wrap (((m + 2 * k : Nat) : Int) + 1) = ((m + 2 * k : Nat) : Int) + 1 := IntWalk.i64_in _ (by omega)
      have hw2 : IntKind.i64.wrap (((m + 2 * k : Nat) : Int) + 1 + 1) = ((m + 2 * k : Nat) : Int) + 1 + 1 := IntWalk.i64_in _ (by omega)
      go_wp2
      go_roundw
      case rel =>
        refine ⟨k + 1, by go_num, ?_, by omega, ?_, ?_⟩
        · congr 1
        · rw [← markP_set l k m hlt]; exact hown.store (markP_len _ _ _ hk) k (markN m k)
        · have hg' : w.grownBy wr (some g) := hg
          exact gset (g := g) (p := ⟨g, k * 2 + 1, none⟩) (gset (g := g) (p := ⟨g, k * 2, none⟩) hg' (.inl rfl) _) (.inl rfl) _
      case measure => simp [intOf]; omega
    · obtain rfl : k = l.length := by omega
      go_wp2
      go_ret
      exact ⟨rfl, by rw [markP_end] at hown; exact hown, hg⟩

theorem c_heldTune (A : Option Addr) (c : Nat) (n m : Nat) (w : World) (h : At2 .i16 .i8 w A (markL n m)) (hn : n ≤ 1073741824) (hm : m ≤ 1073741824) :
    Calls Tryd.prog 14 #[.slice A n c, .int .i64 m] w fun e w' => e = .returned (.int .i64 ((m + 2 * n : Nat) : Int)) ∧ Below w.heap.size w w' := by
  have hu := Tryd.underlying55
  go_enter Tryd.func14, Tryd.ntmps14
  go_wp2
  go_loopw [1, 5] (fun q i w' => ∃ k : Nat, i = .int .i64 k ∧ q = .int .i64 ((m + 2 * k : Nat) : Int) ∧ k ≤ n ∧ Below w.heap.size w w') (fun _ i _ => n - (intOf i).toNat)
  case atStart => exact ⟨0, rfl, rfl, by omega, Below.refl _ _⟩
  case round =>
    obtain ⟨k, rfl, rfl, hk, hb⟩ := hrel
    by_cases hlt : k < n
    · have hlt2 : k < (markL n m).length := by rw [markL_len]; exact hlt
      obtain ⟨b, off, rfl, hbl, hc⟩ := (h.below hb).get (by omega)
      have x1 := (hc k hlt2).1
      have x2 := (hc k hlt2).2
      rw [markL_get] at x1 x2
      unfold markN at x1 x2
      clear hc
      have hw1 : IntKind.i64.wrap (((m + 2 * k : Nat) : Int) + 1) = ((m + 2 * k : Nat) : Int) + 1 := IntWalk.i64_in _ (by omega)
      have hw2 : IntKind.i64.wrap (((m + 2 * k : Nat) : Int) + 1 + 1) = ((m + 2 * k : Nat) : Int) + 1 + 1 := IntWalk.i64_in _ (by omega)
      go_wp2
      go_roundw
      case rel =>
        refine ⟨k + 1, by go_num, ?_, by omega, hb⟩
        congr 1
      case measure => simp [intOf]; omega
    · obtain rfl : k = n := by omega
      go_wp2
      go_ret
      exact ⟨rfl, hb⟩

end Go.Proofs.YtkjpiokmccnhdaaDoor
