/-
  The walks of the law's own helpers on notes: size, copy, equality, marks.
-/
import Derived.Test.YtkdochfiaccnpaaDoorWalkA
namespace Go.Proofs.YtkdochfiaccnpaaDoor
open Go.RowKit
set_option linter.unusedVariables false
set_option linter.unusedSimpArgs false
set_option maxRecDepth 4000

theorem info_Note : (Tryd.prog.info? 49).map (fun i => (i.zero, i.size, i.bytes)) = some (some (.agg #[.int .i16 0, .int .i8 0]), 2, 4) := by kernel_rfl

theorem c_szTune (A : Option Addr) (c n : Nat) (left : Int) (w : World) (h0 : -1 ≤ left) (h1 : left ≤ 1048576) (hn : n ≤ 9223372036854775807) :
    Calls Tryd.prog 8 #[.slice A n c, .int .i64 left] w fun e w' => e = .returned (.int .i64 (szI left n)) ∧ w = w' := by
  by_cases hx : left < (n : Int)
  · have hw1 : IntKind.i64.wrap (left - (n:Int)) = left - (n:Int) := IntWalk.i64_in _ (by omega)
    have hx2 : left - (n : Int) < 0 := by omega
    go_enter Tryd.func8, Tryd.ntmps8
    go_wp2
    go_ret
    exact ⟨ret_int (by unfold szI; split <;> omega), rfl⟩
  · have hw1 : IntKind.i64.wrap (left - (n:Int)) = left - (n:Int) := IntWalk.i64_in _ (by omega)
    have hx2 : ¬ left - (n : Int) < 0 := by omega
    go_enter Tryd.func8, Tryd.ntmps8
    go_wp2
    go_ret
    exact ⟨ret_int (by unfold szI; split <;> omega), rfl⟩

theorem c_toNote (p : Int × Int) (w : World) :
    Calls Tryd.prog 24 #[.agg #[.int .i16 p.1, .int .i8 p.2]] w fun e w' => e = .returned (.agg #[.int .i16 p.1, .int .i8 p.2]) ∧ Below w.heap.size w w' := by
  have hu := Tryd.underlying49
  have hu2 := Tryd.underlying51
  go_enter Tryd.func24, Tryd.ntmps24
  go_wp2
  refine bodyPost_ret (v := .agg #[.int .i16 p.1, .int .i8 p.2]) (by simp [results, Tryd.results24, go_sem]) rfl ⟨rfl, ?_⟩
  repeat (first | exact Below.refl _ _ | apply balloc | refine bset ?_ (by simp) _)

theorem c_eqNote (a b : Int × Int) (w : World) :
    Calls Tryd.prog 27 #[.agg #[.int .i16 a.1, .int .i8 a.2], .agg #[.int .i16 b.1, .int .i8 b.2]] w fun e w' => e = .returned (.bool (eqN a b)) ∧ Below w.heap.size w w' := by
  by_cases h1 : a.1 = b.1 <;> by_cases h2 : a.2 = b.2
  all_goals
    go_enter Tryd.func27, Tryd.ntmps27
    go_wp2
    go_ret
    exact ⟨ret_bool (by simp [eqN]; omega), balloc (balloc (Below.refl _ _) _) _⟩

theorem c_toTune (A : Option Addr) (c : Nat) (l : List (Int × Int)) (w : World) (h : At2 .i16 .i8 w A l) (hn : l.length ≤ 1073741824) :
    Calls Tryd.prog 10 #[.slice A l.length c] w fun e w' => ∃ v, e = .returned v ∧ Own2 .i16 .i8 49 w' w.heap.size v l ∧ Below w.heap.size w w' := by
  have hu := Tryd.underlying49
  have hu2 := Tryd.underlying51
  have hmk := run_make2 (P := Tryd.prog) 28 49 .i16 .i8 4 Tryd.underlying28 info_Note l.length (by omega) hn
  go_enter Tryd.func10, Tryd.ntmps10
  go_wp2
  clear hmk
  go_loopw [4] (fun i w' => ∃ k : Nat, i = .int .i64 k ∧ k ≤ l.length ∧ Own2 .i16 .i8 49 w' w.heap.size (.slice (some ⟨w.heap.size, 0, none⟩) l.length l.length) (fillL l k) ∧ Below w.heap.size w w') (fun i _ => l.length - (intOf i).toNat)
  case atStart => exact ⟨0, rfl, by omega, by rw [fillL_zero]; exact Own2.made (Nat.le_refl _) hn, balloc (Below.refl _ _) _⟩
  case round =>
    obtain ⟨k, rfl, hk, hown, hb⟩ := hrel
    by_cases hlt : k < l.length
    · obtain ⟨b, off, rfl, hbl, hc⟩ := (h.below hb).get (by omega)
      have x1 := (hc k hlt).1
      have x2 := (hc k hlt).2
      clear hc
      have hlt2 : k < (fillL l k).length := by rw [fillL_len]; exact hlt
      go_wp2_with fail
      refine (c_toNote _ _).mono ?_
      rintro e w1 ⟨rfl, hb1⟩
      have hown1 := hown.below hb1
      obtain ⟨y1, y2, y3, y4⟩ := hown1.cells k hlt2
      go_wp2
      go_roundw
      case rel => exact ⟨k + 1, by go_num, by omega, by rw [← fillL_set l k hlt]; exact hown1.store (fillL_len l k) k l[k], bset (bset (bstep hb hb1) (Nat.le_refl _) _) (Nat.le_refl _) _⟩
      case measure => simp [intOf]; omega
    · obtain rfl : k = l.length := by omega
      go_wp2
      go_ret
      exact ⟨_, rfl, by rw [fillL_end] at hown; exact hown, hb⟩

theorem c_eqTune (A B : Option Addr) (c d : Nat) (l m : List (Int × Int)) (w : World) (h : At2 .i16 .i8 w A l) (h2 : At2 .i16 .i8 w B m) (hn : l.length ≤ 1073741824) (hn2 : m.length ≤ 1073741824) :
    Calls Tryd.prog 12 #[.slice A l.length c, .slice B m.length d] w fun e w' => e = .returned (.bool (eqL l m)) ∧ Below w.heap.size w w' := by
  have hu := Tryd.underlying49
  by_cases hlen : l.length = m.length
  · have HL := Lib.hid hlen
    have hlen1 : ((l.length : Int) == (m.length : Int)) = true := by simp [hlen]
    clear hlen
    go_enter Tryd.func12, Tryd.ntmps12
    go_wp2
    clear hlen1
    go_loopw [5] (fun i w' => ∃ k : Nat, i = .int .i64 k ∧ k ≤ l.length ∧ (∀ i (h1 : i < l.length) (h2 : i < m.length), i < k → eqN l[i] m[i] = true) ∧ Below w.heap.size w w') (fun i _ => l.length - (intOf i).toNat)
    case atStart => exact ⟨0, rfl, by omega, fun _ _ _ h => absurd h (by omega), Below.refl _ _⟩
    case round =>
      obtain ⟨k, rfl, hk, hz, hb⟩ := hrel
      have HZ := Lib.hid hz; clear hz
      by_cases hlt : k < l.length
      · have hlt2 : k < m.length := by have := HL.out; omega
        obtain ⟨b, off, rfl, hbl, hc⟩ := (h.below hb).get (by omega)
        obtain ⟨b2, off2, rfl, hbl2, hc2⟩ := (h2.below hb).get (by omega)
        have x1 : ∀ x : After wr, _ := fun x => (x.cell hbl).trans (hc k hlt).1
        have x2 : ∀ x : After wr, _ := fun x => (x.cell hbl).trans (hc k hlt).2
        have y1 : ∀ x : After wr, _ := fun x => (x.cell hbl2).trans (hc2 k hlt2).1
        have y2 : ∀ x : After wr, _ := fun x => (x.cell hbl2).trans (hc2 k hlt2).2
        have hi1 : (k : Int) < (m.length : Int) := by omega
        rcases hx : eqN l[k] m[k] with _ | _
        · go_wp2
          refine region_after (by kernel_rfl) (by kernel_rfl) ?_
          repeat (go_big_quiet_step (((go_at_call 27; exact After.call (c_eqNote _ _ _)))))
          refine wpQuiet_nil ?_
          rintro _ ⟨x, rfl⟩
          go_wp2
          go_ret
          exact ⟨ret_bool (eqL_at hlt hlt2 hx).symm, bstep hb x.below⟩
        · have HX := Lib.hid hx
          go_wp2
          refine region_after (by kernel_rfl) (by kernel_rfl) ?_
          repeat (go_big_quiet_step (((go_at_call 27; exact After.call (c_eqNote _ _ _)))))
          refine wpQuiet_nil ?_
          rintro _ ⟨x, rfl⟩
          go_wp2
          go_roundw
          case rel => exact ⟨k + 1, by go_num, by omega, fun i h1 h2 hik => by
            by_cases e : i = k
            · subst e; exact HX.out
            · exact HZ.out i h1 h2 (by omega), bstep hb x.below⟩
          case measure => simp [intOf]; omega
      · obtain rfl : k = l.length := by omega
        go_wp2
        go_ret
        exact ⟨ret_bool (eqL_all HL.out (fun i h1 h2 => HZ.out i h1 h2 h1)).symm, hb⟩
  · have HL := Lib.hid hlen
    have hlen1 : ((l.length : Int) == (m.length : Int)) = false := by simp; omega
    clear hlen
    go_enter Tryd.func12, Tryd.ntmps12
    go_wp2
    go_ret
    exact ⟨ret_bool (eqL_len HL.out).symm, Below.refl _ _⟩


end Go.Proofs.YtkdochfiaccnpaaDoor
