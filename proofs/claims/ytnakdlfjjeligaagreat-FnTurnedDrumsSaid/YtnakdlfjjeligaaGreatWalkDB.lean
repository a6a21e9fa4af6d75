/-
  The walks of the test whether a frame is valid, in the reference and in the program.
-/
import Derived.Test.YtnakdlfjjeligaaGreatWalkDA
namespace Go.Proofs.YtnakdlfjjeligaaGreat
open Go.RowKit
set_option linter.unusedVariables false
set_option linter.unusedSimpArgs false
set_option maxRecDepth 4000

theorem c_l00Min (a b : Int) (w : World) :
    Calls Tryz.prog 90 #[.int .i64 a, .int .i64 b] w fun e w' => e = .returned (.int .i64 (min a b)) ∧ w = w' := by
  by_cases h : a < b
  all_goals
    go_enter Tryz.func90, Tryz.ntmps90
    go_wp2
    go_ret
    exact ⟨ret_int (by omega), rfl⟩

theorem wrap8 {a : Int} (h : -128 ≤ a ∧ a ≤ 127) : IntKind.i64.wrap a = a := IntWalk.i64_in _ (by omega)
theorem wrap16 {a : Int} (h : W16 a) : IntKind.i64.wrap a = a := IntWalk.i64_in _ (by unfold W16 at h; omega)

theorem c_l02Frame (b : Nat) (s : Int) (A : Option Addr) (c : Nat) (l : List (Int × Int)) (w : World) (hf : FrameAt w b s A c l) (h : At2 .i8 .i8 w A l) (hs : W16 s) (hl : Whs l) (hn : l.length ≤ 1073741824) :
    Calls Tryz.prog 69 #[.pointer (some ⟨b, 0, none⟩)] w fun e w' => e = .returned (.bool (okF s l)) ∧ Below w.heap.size w w' := by
  have hu := Tryz.underlying56
  have hu2 := Tryz.underlying27
  obtain ⟨f0, f1, f2⟩ := hf
  have ws := wrap16 hs
  unfold okF
  rcases e1 : inB s 2 96 with _ | _
  · go_enter Tryz.func69, Tryz.ntmps69
    go_wp2_with (go_at_call 57; refine (c_l00In _ _ _ _).mono ?_; rintro e w' ⟨rfl, rfl⟩)
    go_ret
    exact ⟨rfl, Below.refl _ _⟩
  rcases e2 : inB (l.length : Int) 1 24 with _ | _
  · go_enter Tryz.func69, Tryz.ntmps69
    go_wp2_with (go_at_call 57; refine (c_l00In _ _ _ _).mono ?_; rintro e w' ⟨rfl, rfl⟩)
    go_ret
    exact ⟨rfl, Below.refl _ _⟩
  go_enter Tryz.func69, Tryz.ntmps69
  go_wp2_with (go_at_call 57; refine (c_l00In _ _ _ _).mono ?_; rintro e w' ⟨rfl, rfl⟩)
  clear e1 e2
  go_loopw [3] (fun i w' => ∃ k : Nat, i = .int .i64 k ∧ k ≤ l.length ∧ (∀ i (hi : i < l.length), i < k → okH s l[i] = true) ∧ Below w.heap.size w w') (fun i _ => l.length - (intOf i).toNat)
  case atStart => exact ⟨0, rfl, by omega, fun _ _ h => absurd h (by omega), Below.refl _ _⟩
  case round =>
    obtain ⟨k, rfl, hk, hz, hb⟩ := hrel
    have HZ := Lib.hid hz; clear hz
    have g1 := (hb.cell (p := ⟨b, 0, none⟩) f0).trans f1
    have g2 := (hb.cell (p := ⟨b, 1, none⟩) f0).trans f2
    by_cases hlt : k < l.length
    · obtain ⟨bb, off, rfl, hbl, hc⟩ := (h.below hb).get (by omega)
      have x1 := (hc k hlt).1
      have x2 := (hc k hlt).2
      obtain ⟨k1, k2, k3, k4⟩ := hl.get hlt
      have w1 := wrap8 ⟨k1, k2⟩
      have w2 := wrap8 ⟨k3, k4⟩
      clear hc f1 f2
      have z1 : ∀ x : After (wr.alloc (.cells #[.int .i8 l[k].1, .int .i8 l[k].2] 56)), x.w.cell? ⟨wr.heap.size, 0, none⟩ = some (.int .i8 l[k].1) := fun x => box1 x rfl
      have z2 : ∀ x : After (wr.alloc (.cells #[.int .i8 l[k].1, .int .i8 l[k].2] 56)), x.w.cell? ⟨wr.heap.size, 1, none⟩ = some (.int .i8 l[k].2) := fun x => box1 x rfl
      have y1 : ∀ x : After (wr.alloc (.cells #[.int .i8 l[k].1, .int .i8 l[k].2] 56)), x.w.cell? ⟨b, 0, none⟩ = some (.int .i16 s) := fun x => (x.old (by have := hb.size; omega)).trans g1
      rcases e1 : inB l[k].1 0 47 with _ | _
      · go_wp2
        refine region_after (by kernel_rfl) (by kernel_rfl) ?_
        repeat (go_big_quiet_step (((go_at_call 57; exact After.call_same (c_l00In _ _ _ _)))))
        refine wpQuiet_nil ?_
        rintro _ ⟨x, rfl⟩
        go_wp2
        go_ret
        exact ⟨ret_bool (all_bad hlt (by unfold okH; rw [e1]; rfl)).symm, bstep (balloc hb _) x.below⟩
      · rcases e2 : inB l[k].2 1 (min 20 s) with _ | _
        · go_wp2
          refine region_after (by kernel_rfl) (by kernel_rfl) ?_
          repeat (go_big_quiet_step (first | (go_at_call 57; exact After.call_same (c_l00In _ _ _ _)) | (go_at_call 90; exact After.call_same (c_l00Min _ _ _))))
          refine wpQuiet_nil ?_
          rintro _ ⟨x, rfl⟩
          go_wp2
          go_ret
          exact ⟨ret_bool (all_bad hlt (by unfold okH; rw [e1, e2]; rfl)).symm, bstep (balloc hb _) x.below⟩
        · go_wp2
          refine region_after (by kernel_rfl) (by kernel_rfl) ?_
          repeat (go_big_quiet_step (first | (go_at_call 57; exact After.call_same (c_l00In _ _ _ _)) | (go_at_call 90; exact After.call_same (c_l00Min _ _ _))))
          refine wpQuiet_nil ?_
          rintro _ ⟨x, rfl⟩
          go_wp2
          go_roundw
          case rel => exact ⟨k + 1, by go_num, by omega, fun i hi hik => by
            by_cases e : i = k
            · subst e; unfold okH; rw [e1, e2]; rfl
            · exact HZ.out i hi (by omega), bstep (balloc hb _) x.below⟩
          case measure => simp [intOf]; omega
    · obtain rfl : k = l.length := by omega
      go_wp2
      go_ret
      exact ⟨ret_bool (by rw [all_ok (fun i hi => HZ.out i hi hi)]; rfl), hb⟩

end Go.Proofs.YtnakdlfjjeligaaGreat
