/-
  The walks of the law's own helpers on drums: copy, equality.
-/
import Derived.Test.YtobpnlhfinnfkaaWalkA
import Derived.Test.YtobpnlhfinnfkaaDataE
namespace Go.Proofs.Ytobpnlhfinnfkaa
open Go.RowKit
set_option linter.unusedVariables false
set_option linter.unusedSimpArgs false
set_option maxRecDepth 4000

theorem zero_Drum : (Try.prog.info? 38).map (·.zero) = some (some (.agg (drumV zD))) := by
  unfold drumV; rw [zD_eq]; kernel_rfl
theorem size_Drum : (Try.prog.info? 38).map (·.size) = some 96 := by kernel_rfl

theorem size_u32 : (Try.prog.info? 32).map (·.size) = some 1 := by kernel_rfl

theorem c_toDrum (d : List Int) (w : World) (hd : d.length = 96) :
    Calls Try.prog 14 #[.agg (drumV d)] w fun e w' => e = .returned (.agg (drumV d)) ∧ Below w.heap.size w w' := by
  have hu := Try.underlying38
  have hu2 := Try.underlying33
  go_enter Try.func14, Try.ntmps14
  go_wp2_with (refine wpList_alloc_row rfl 38 rfl (.agg (drumV zD)) zero_Drum ?_)
  go_loopw [4] (fun i w' => ∃ k : Nat, i = .int .i64 k ∧ k ≤ 96 ∧ Var w' w.heap.size (drumV d) 33 ∧ Var w' (w.heap.size + 1) (drumV zD) 38 ∧ Var w' (w.heap.size + 1 + 1) (drumV (mixD d zD k)) 38 ∧ Below w.heap.size w w') (fun i _ => 96 - (intOf i).toNat)
  case atStart =>
    refine ⟨0, rfl, by omega, ?_, ?_, ?_, balloc (balloc (balloc (Below.refl _ w) _) _) _⟩
    · exact ((Var.new w (drumV d) 33).old _).old _
    · simpa using (Var.new (w.alloc (.cells (drumV d) 33)) (drumV zD) 38).old (.cells (drumV zD) 38)
    · rw [mixD_zero]; simpa using Var.new ((w.alloc (.cells (drumV d) 33)).alloc (.cells (drumV zD) 38)) (drumV zD) 38
  case round =>
    obtain ⟨k, rfl, hk, v0, v1, v2, hb⟩ := hrel
    by_cases hlt : k < 96
    · have hlt1 : k < d.length := by omega
      have hlt2 : k < zD.length := by rw [zD_len]; omega
      have hlt3 : k < (mixD d zD k).length := by rw [mixD_len hd zD_len k hk]; omega
      have x1 := v0.cell (drumV_get hlt1)
      have x2 := v2.cell (drumV_get hlt3)
      have x3 := v2.frozen k
      have h1 : (0 : Int) ≤ (k : Int) := by omega
      have h2 : (k : Int) < 96 := by omega
      go_wp2
      go_roundw
      case rel => exact ⟨k + 1, by go_num, by omega, v0.other (by simp <;> omega) _, v1.other (by simp <;> omega) _, by have := v2.set k (.int .u32 d[k]); rw [drumV_set, mixD_set hlt1 hlt2] at this; exact this, bset hb (by simp <;> omega) _⟩
      case measure => simp [intOf]; omega
    · obtain rfl : k = 96 := by omega
      rw [mixD_end hd zD_len] at v2
      go_wp2_with (first | (refine wpList_loadD (by rfl) rfl v2 rfl Try.underlying38 size_Drum hd ?_) | (refine wpList_storeD rfl rfl v1 rfl rfl size_Drum hd zD_len ?_))
      refine bodyPost_ret (results_cell_drum Try.results14 _ _ (w.heap.size + 1) 38 d rfl (v1.row _) hu size_Drum hd) rfl ⟨rfl, brow hb (by simp <;> omega) _⟩

theorem eqD_at {d e : List Int} {k : Nat} (h1 : k < d.length) (h2 : k < e.length) (h : ¬ d[k] = e[k]) : decide (d = e) = false := by
  rw [decide_eq_false_iff_not]; rintro rfl; exact h rfl
theorem eqD_all {d e : List Int} (hl : d.length = e.length) (h : ∀ i (h1 : i < d.length) (h2 : i < e.length), d[i] = e[i]) : decide (d = e) = true := by
  rw [decide_eq_true_eq]; exact List.ext_getElem hl h

theorem c_eqDrum (d e : List Int) (w : World) (hd : d.length = 96) (he : e.length = 96) :
    Calls Try.prog 17 #[.agg (drumV d), .agg (drumV e)] w fun z w' => z = .returned (.bool (decide (d = e))) ∧ Below w.heap.size w w' := by
  have v0 : Var ((w.alloc (.cells (drumV d) 38)).alloc (.cells (drumV e) 38)) w.heap.size (drumV d) 38 := (Var.new w _ _).old _
  have v1 : Var ((w.alloc (.cells (drumV d) 38)).alloc (.cells (drumV e) 38)) (w.heap.size + 1) (drumV e) 38 := by simpa using Var.new (w.alloc (.cells (drumV d) 38)) (drumV e) 38
  have B : Below w.heap.size w ((w.alloc (.cells (drumV d) 38)).alloc (.cells (drumV e) 38)) := balloc (balloc (Below.refl _ w) _) _
  have V0 := Lib.hid v0
  have V1 := Lib.hid v1
  clear v0 v1
  go_enter Try.func17, Try.ntmps17
  go_wp2
  obtain ⟨wb, hwb⟩ : ∃ u, u = (w.alloc (.cells (drumV d) 38)).alloc (.cells (drumV e) 38) := ⟨_, rfl⟩
  rw [← hwb] at V0 V1 B ⊢
  clear hwb
  go_loopw [5] (fun i w' => ∃ k : Nat, i = .int .i64 k ∧ k ≤ 96 ∧ (∀ i (h1 : i < d.length) (h2 : i < e.length), i < k → d[i] = e[i]) ∧ Below wb.heap.size wb w') (fun i _ => 96 - (intOf i).toNat)
  case atStart => exact ⟨0, rfl, by omega, fun _ _ _ h => absurd h (by omega), Below.refl _ _⟩
  case round =>
    obtain ⟨k, rfl, hk, hz, hb⟩ := hrel
    have HZ := Lib.hid hz; clear hz
    by_cases hlt : k < 96
    · have hlt1 : k < d.length := by omega
      have hlt2 : k < e.length := by omega
      have x1 : ∀ x : After wr, _ := fun x => ((V0.out.below hb).below x.below).cell (drumV_get hlt1)
      have x2 : ∀ x : After wr, _ := fun x => ((V1.out.below hb).below x.below).cell (drumV_get hlt2)
      have h1 : (0 : Int) ≤ (k : Int) := by omega
      have h2 : (k : Int) < 96 := by omega
      rcases hx : (d[k] == e[k]) with _ | _
      · have HX := Lib.hid hx
        go_wp2
        refine region_after (by kernel_rfl) (by kernel_rfl) ?_
        repeat (go_big_quiet_step (((fail))))
        refine wpQuiet_nil ?_
        rintro _ ⟨x, rfl⟩
        go_wp2
        go_ret
        exact ⟨ret_bool (eqD_at hlt1 hlt2 (by simpa using HX.out)).symm, bstep (bstep B hb) x.below⟩
      · have HX := Lib.hid hx
        go_wp2
        refine region_after (by kernel_rfl) (by kernel_rfl) ?_
        repeat (go_big_quiet_step (((fail))))
        refine wpQuiet_nil ?_
        rintro _ ⟨x, rfl⟩
        go_wp2
        go_roundw
        case rel => exact ⟨k + 1, by go_num, by omega, fun i h1 h2 hik => by
          by_cases e : i = k
          · subst e; simpa using HX.out
          · exact HZ.out i h1 h2 (by omega), bstep hb x.below⟩
        case measure => simp [intOf]; omega
    · obtain rfl : k = 96 := by omega
      go_wp2
      go_ret
      exact ⟨ret_bool (eqD_all (hd.trans he.symm) (fun i h1 h2 => HZ.out i h1 h2 (by omega))).symm, bstep B hb⟩

end Go.Proofs.Ytobpnlhfinnfkaa
