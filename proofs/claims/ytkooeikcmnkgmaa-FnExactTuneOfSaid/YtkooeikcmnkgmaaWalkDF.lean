/-
  The walks of the law's own helpers on drums: copy, equality.
-/
import Derived.Test.YtkooeikcmnkgmaaWalkA
import Derived.Test.YtkooeikcmnkgmaaDataE
namespace Go.Proofs.Ytkooeikcmnkgmaa
open Go.RowKit
set_option linter.unusedVariables false
set_option linter.unusedSimpArgs false
set_option maxRecDepth 4000

theorem zero_Drum : (Try.prog.info? 54).map (·.zero) = some (some (.agg (drumV zD))) := by
  unfold drumV; rw [zD_eq]; kernel_rfl
theorem size_Drum : (Try.prog.info? 54).map (·.size) = some 96 := by kernel_rfl

theorem size_u32 : (Try.prog.info? 46).map (·.size) = some 1 := by kernel_rfl

theorem c_toDrum (d : List Int) (w : World) (hd : d.length = 96) :
    Calls Try.prog 34 #[.agg (drumV d)] w fun e w' => e = .returned (.agg (drumV d)) ∧ Below w.heap.size w w' := by
  have hu := Try.underlying54
  have hu2 := Try.underlying47
  go_enter Try.func34, Try.ntmps34
  go_wp2_with (refine wpList_alloc_row rfl 54 rfl (.agg (drumV zD)) zero_Drum ?_)
  go_loopw [4] (fun i w' => ∃ k : Nat, i = .int .i64 k ∧ k ≤ 96 ∧ Var w' w.heap.size (drumV d) 47 ∧ Var w' (w.heap.size + 1) (drumV zD) 54 ∧ Var w' (w.heap.size + 1 + 1) (drumV (mixD d zD k)) 54 ∧ Below w.heap.size w w') (fun i _ => 96 - (intOf i).toNat)
  case atStart =>
    refine ⟨0, rfl, by omega, ?_, ?_, ?_, balloc (balloc (balloc (Below.refl _ w) _) _) _⟩
    · exact ((Var.new w (drumV d) 47).old _).old _
    · simpa using (Var.new (w.alloc (.cells (drumV d) 47)) (drumV zD) 54).old (.cells (drumV zD) 54)
    · rw [mixD_zero]; simpa using Var.new ((w.alloc (.cells (drumV d) 47)).alloc (.cells (drumV zD) 54)) (drumV zD) 54
  case round =>
    obtain ⟨k, rfl, hk, v0, v1, v2, hb⟩ := hrel
    by_cases hlt : k < 96
    · have hlt1 : k < d.length := by omega
      have hlt2 : k < zD.length := by rw [zD_len]; omega
      have hlt3 : k < (mixD d zD k).length := by rw [mixD_len hd zD_len k hk]; omega
      have x1 := v0.cell (drumV_get hlt1)
      have x2 := v2.cell (drumV_get hlt3)
      have x3 := v2.frozen k
      have h1 : (0 : Int) ≤ (k : Int) := by omega
      have h2 : (k : Int) < 96 := by omega
      go_wp2
      go_roundw
      case rel => exact ⟨k + 1, by go_num, by omega, v0.other (by simp <;> omega) _, v1.other (by simp <;> omega) _, by have := v2.set k (.int .u32 d[k]); rw [drumV_set, mixD_set hlt1 hlt2] at this; exact this, bset hb (by simp <;> omega) _⟩
      case measure => simp [intOf]; omega
    · obtain rfl : k = 96 := by omega
      rw [mixD_end hd zD_len] at v2
      go_wp2_with (first | (refine wpList_loadD (by rfl) rfl v2 rfl Try.underlying54 size_Drum hd ?_) | (refine wpList_storeD rfl rfl v1 rfl rfl size_Drum hd zD_len ?_))
      refine bodyPost_ret (results_cell_drum Try.results34 _ _ (w.heap.size + 1) 54 d rfl (v1.row _) hu size_Drum hd) rfl ⟨rfl, brow hb (by simp <;> omega) _⟩

theorem eqD_at {d e : List Int} {k : Nat} (h1 : k < d.length) (h2 : k < e.length) (h : ¬ d[k] = e[k]) : decide (d = e) = false := by
  rw [decide_eq_false_iff_not]; rintro rfl; exact h rfl
theorem eqD_all {d e : List Int} (hl : d.length = e.length) (h : ∀ i (h1 : i < d.length) (h2 : i < e.length), d[i] = e[i]) : decide (d = e) = true := by
  rw [decide_eq_true_eq]; exact List.ext_getElem hl h


end Go.Proofs.Ytkooeikcmnkgmaa
