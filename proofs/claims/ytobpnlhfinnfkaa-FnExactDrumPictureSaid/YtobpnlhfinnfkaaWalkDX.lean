/-
  The walks of the law's own functions on slices of numbers: equality, marking; and the marking of a frame.
-/
import Derived.Test.YtobpnlhfinnfkaaWalkDA
import Derived.Test.YtobpnlhfinnfkaaDataH
namespace Go.Proofs.Ytobpnlhfinnfkaa
open Go.RowKit
set_option linter.unusedVariables false
set_option linter.unusedSimpArgs false
set_option maxRecDepth 4000

theorem info_i64 : (Try.prog.info? 2).map (fun i => (i.zero, i.size, i.bytes)) = some (some (.int .i64 0), 1, 8) := by kernel_rfl

theorem c_eqInt64S (A B : Option Addr) (c d : Nat) (l m : List Int) (w : World) (h : At1 .i64 w A l) (h2 : At1 .i64 w B m) (hn : l.length ≤ 1073741824) (hn2 : m.length ≤ 1073741824) :
    Calls Try.prog 10 #[.slice A l.length c, .slice B m.length d] w fun e w' => e = .returned (.bool (decide (l = m))) ∧ Below w.heap.size w w' := by
  by_cases hlen : l.length = m.length
  · have HL := Lib.hid hlen
    have hlen1 : ((l.length : Int) == (m.length : Int)) = true := by simp [hlen]
    have hlen2 : ((l.length : Int) != (m.length : Int)) = false := by simp [hlen]
    clear hlen
    go_enter Try.func10, Try.ntmps10
    go_wp2
    clear hlen1 hlen2
    go_loopw [5] (fun i w' => ∃ k : Nat, i = .int .i64 (k : Int) ∧ k ≤ l.length ∧ (∀ i (h1 : i < l.length) (h2 : i < m.length), i < k → l[i] = m[i]) ∧ Below w.heap.size w w') (fun i _ => l.length - (intOf i).toNat)
    case atStart => exact ⟨0, rfl, by omega, fun _ _ _ h => absurd h (by omega), Below.refl _ _⟩
    case round =>
      obtain ⟨k, rfl, hk, hz, hb⟩ := hrel
      have HZ := Lib.hid hz; clear hz
      by_cases hlt : k < l.length
      · have hlt2 : k < m.length := by have := HL.out; omega
        obtain ⟨b, off, rfl, hbl, hc⟩ := (h.below hb).get (by omega)
        obtain ⟨b2, off2, rfl, hbl2, hc2⟩ := (h2.below hb).get (by omega)
        have x1 : ∀ x : After wr, _ := fun x => (x.cell hbl).trans (hc k hlt)
        have x2 : ∀ x : After wr, _ := fun x => (x.cell hbl2).trans (hc2 k hlt2)
        clear hc hc2
        have hi1 : (k : Int) < (m.length : Int) := by omega
        have hi2 : (k : Int) < (l.length : Int) := by omega
        have hi3 : (0 : Int) ≤ (k : Int) := by omega
        rcases hx : (l[k] != m[k]) with _ | _
        · have HX := Lib.hid (show l[k] = m[k] by simpa using hx)
          go_wp2
          refine region_after (by kernel_rfl) (by kernel_rfl) ?_
          repeat (go_big_quiet_step (fail))
          refine wpQuiet_nil ?_
          rintro _ ⟨x, rfl⟩
          go_wp2
          go_roundw
          case rel => exact ⟨k + 1, by go_num, by omega, fun i h1 h2 hik => by
            by_cases e : i = k
            · subst e; exact HX.out
            · exact HZ.out i h1 h2 (by omega), bstep hb x.below⟩
          case measure => simp [intOf]; omega
        · have HX := Lib.hid (show ¬ l[k] = m[k] by simpa using hx)
          go_wp2
          refine region_after (by kernel_rfl) (by kernel_rfl) ?_
          repeat (go_big_quiet_step (fail))
          refine wpQuiet_nil ?_
          rintro _ ⟨x, rfl⟩
          go_wp2
          go_ret
          refine ⟨ret_bool (decide_eq_false fun e => HX.out ?_).symm, bstep hb x.below⟩
          subst e; rfl
      · obtain rfl : k = l.length := by omega
        go_wp2
        go_ret
        exact ⟨ret_bool (decide_eq_true (List.ext_getElem HL.out fun i h1 h2 => HZ.out i h1 h2 h1)).symm, hb⟩
  · have HL := Lib.hid hlen
    have hlen1 : ((l.length : Int) == (m.length : Int)) = false := by simp; omega
    have hlen2 : ((l.length : Int) != (m.length : Int)) = true := by simp; omega
    clear hlen
    go_enter Try.func10, Try.ntmps10
    go_wp2
    go_ret
    exact ⟨ret_bool (decide_eq_false fun e => HL.out (by rw [e])).symm, Below.refl _ _⟩



theorem c_markHammerS (A : Option Addr) (c : Nat) (l : List (Int × Int)) (m : Nat) (base : Nat) (w : World) (h : Own2 .i8 .i8 71 w base (.slice A l.length c) l) (hn : l.length ≤ 1073741824) (hm : m ≤ 1073741824) :
    Calls Try.prog 46 #[.slice A l.length c, .int .i64 (m : Int)] w fun e w' => e = .returned (.int .i64 ((m + 2 * l.length : Nat) : Int)) ∧ w.grownBy w' (Value.slice A l.length c).ownBlock := by
  have hu := Try.underlying71
  go_enter Try.func46, Try.ntmps46
  go_wp2
  go_loopw [1, 5] (fun q i w' => ∃ (k : Nat) (l' : List (Int × Int)), i = .int .i64 (k : Int) ∧ q = .int .i64 ((m + 2 * k : Nat) : Int) ∧ k ≤ l.length ∧ l'.length = l.length ∧ Own2 .i8 .i8 71 w' base (.slice A l.length c) l' ∧ w.grownBy w' (Value.slice A l.length c).ownBlock) (fun _ i _ => l.length - (intOf i).toNat)
  case atStart => exact ⟨0, l, rfl, rfl, by omega, rfl, h, World.grownBy.refl _ _⟩
  case round =>
    obtain ⟨k, l', rfl, rfl, hk, hl', hown, hg⟩ := hrel
    by_cases hlt : k < l.length
    · have hlt2 : k < l'.length := by omega
      obtain ⟨g, rfl⟩ : ∃ g, A = some ⟨g, 0, none⟩ := hown.form (by omega)
      obtain ⟨y1, y2, y3, y4⟩ := hown.cells k hlt2
      have hw1 : IntKind.i64.wrap (((m + 2 * k : Nat) : Int) + 1) = ((m + 2 * k : Nat) : Int) + 1 := IntWalk.i64_in _ (by omega)
      have hw2 : IntKind.i64.wrap (((m + 2 * k : Nat) : Int) + 1 + 1) = ((m + 2 * k : Nat) : Int) + 1 + 1 := IntWalk.i64_in _ (by omega)
      have HL := Lib.hid hl'
      have HO := Lib.hid hown
      have HG := Lib.hid (show w.grownBy wr (some g) from hg)
      clear hown hg hl'
      go_wp2
      go_roundw
      case rel =>
        exact ⟨k + 1, _, by go_num, by congr 1, by omega, by rw [List.length_set]; exact HL.out, HO.out.store HL.out k (_, _), gset (g := g) (p := ⟨g, k * 2 + 1, none⟩) (gset (g := g) (p := ⟨g, k * 2, none⟩) HG.out (.inl rfl) _) (.inl rfl) _⟩
      case measure => simp [intOf]; omega
    · obtain rfl : k = l.length := by omega
      go_wp2
      go_ret
      exact ⟨rfl, hg⟩

theorem c_markFrame (s : Int) (A : Option Addr) (c : Nat) (l : List (Int × Int)) (m : Nat) (base : Nat) (w : World) (h : Own2 .i8 .i8 71 w base (.slice A l.length c) l) (hn : l.length ≤ 1073741824) (hm : m ≤ 1073741824) :
    Calls Try.prog 18 #[.agg #[.int .i16 s, .slice A l.length c], .int .i64 (m : Int)] w fun e w' => e = .returned (.int .i64 ((m + 2 * l.length : Nat) : Int)) ∧ w.grownBy w' (Value.slice A l.length c).ownBlock := by
  have hu2 := Try.underlying37
  go_enter Try.func18, Try.ntmps18
  go_wp2_with fail
  refine (c_markHammerS A c l m base _ (h.alloc _) hn hm).mono ?_
  rintro e w1 ⟨rfl, hg⟩
  go_wp2
  go_ret
  exact ⟨rfl, World.grownBy.trans (World.grownBy_alloc _ _ _) hg⟩

end Go.Proofs.Ytobpnlhfinnfkaa
