/-
  The walk of the program's code of a place.
-/
import Derived.Test.YtnakdlfjjeligaaGreatWalkDI
import Derived.Deep.RegionHeld3
namespace Go.Proofs.YtnakdlfjjeligaaGreat
open Go.RowKit
set_option linter.unusedVariables false
set_option linter.unusedSimpArgs false
set_option maxRecDepth 4000

theorem cP_two (s : Int) (l : List (Int × Int)) (d : List Int) (a t : Int) :
    (if cD s l d = 0 then (if (inB a 0 (s - 1) && inB t 0 ((l.length : Int) - 1)) = true then (0 : Int) else 2) else cD s l d) = cP s l d a t := by
  unfold cP cD vD
  cases okF s l && okD l.length s d <;> simp

theorem c_placeCode (s : Int) (A : Option Addr) (c : Nat) (l : List (Int × Int)) (d : List Int) (a t : Int) (w : World) (h : At2 .i8 .i8 w A l) (hs : W16 s) (hl : Whs l) (hn : l.length ≤ 1073741824) (hd : d.length = 96) :
    Calls Tryz.prog 33 #[.agg #[.int .i16 s, .slice A l.length c], .agg (drumV d), .int .i64 a, .int .i64 t] w fun e w' => e = .returned (.int .i64 (cP s l d a t)) ∧ Below w.heap.size w w' := by
  have hu2 := Tryz.underlying27
  have hud := Tryz.underlying31
  have hln : (Tryz.prog.info? 31).map (·.size) = some (drumV d).toList.length := by rw [drumV_len, hd]; exact size_Drum
  have v0 : Var ((w.alloc (.cells #[.int .i16 s, .slice A l.length c] 27)).alloc (.cells (drumV d) 31)) w.heap.size #[.int .i16 s, .slice A l.length c] 27 := (Var.new w _ _).old _
  have v1 : Var ((w.alloc (.cells #[.int .i16 s, .slice A l.length c] 27)).alloc (.cells (drumV d) 31)) (w.heap.size + 1) (drumV d) 31 := by simpa using Var.new (w.alloc (.cells #[.int .i16 s, .slice A l.length c] 27)) (drumV d) 31
  have B : Below w.heap.size w ((w.alloc (.cells #[.int .i16 s, .slice A l.length c] 27)).alloc (.cells (drumV d) 31)) := balloc (balloc (Below.refl _ w) _) _
  have V0 := Lib.hid v0
  have V1 := Lib.hid v1
  clear v0 v1
  go_enter Tryz.func33, Tryz.ntmps33
  go_wp2_with fail
  obtain ⟨w0, hw0⟩ : ∃ u, u = ((w.alloc (.cells #[.int .i16 s, .slice A l.length c] 27)).alloc (.cells (drumV d) 31)) := ⟨_, rfl⟩
  rw [← hw0] at V0 V1 B ⊢
  clear hw0
  obtain ⟨u, hU⟩ : ∃ u : Int, (if (inB a 0 (s - 1) && inB t 0 ((l.length : Int) - 1)) = true then (0 : Int) else 2) = u := ⟨_, rfl⟩
  have HU := Lib.hid hU
  clear hU
  have hk0 := Lib.hid (show w0.drew.cell? ⟨w.heap.size, 0, none⟩ = some (.int .i16 s) ∧ w0.drew.cell? ⟨w.heap.size, 1, none⟩ = some (.slice A l.length c) ∧ w0.drew.rangeAt (w.heap.size + 1) 0 (drumV d).toList ∧ Below w0.heap.size w0 w0.drew from ⟨V0.out.drew.cell rfl, V0.out.drew.cell rfl, V1.out.drew.range, bdrew (Below.refl _ _)⟩)
  refine wp_region_held_drew (S := (fun w' => w'.cell? ⟨w.heap.size, 0, none⟩ = some (.int .i16 s) ∧ w'.cell? ⟨w.heap.size, 1, none⟩ = some (.slice A l.length c) ∧ w'.rangeAt (w.heap.size + 1) 0 (drumV d).toList ∧ Below w0.heap.size w0 w')) (by kernel_rfl) hk0.out (fun hHeld => ?_)
  refine wpAnyH_take (i := 0) (v := .agg #[.int .i16 s, .slice A l.length c]) rfl (by kernel_rfl) (by kernel_rfl) (by kernel_rfl) (fun _ _ _ h => h) (Or.inl ⟨by rfl, by intro w' hS; (try dsimp only at hS); go_simp⟩) hHeld ?_
  simp only [Act.put, List.setIfInBounds_toArray, List.set_cons_zero, List.set_cons_succ]
  refine wpAnyH_take (i := 1) (v := .agg (drumV d)) rfl (by kernel_rfl) (by kernel_rfl) (by kernel_rfl) (fun _ _ _ h => h) (by simpa using yieldsIf_load_mid (S := (fun w' => w'.cell? ⟨w.heap.size, 0, none⟩ = some (.int .i16 s) ∧ w'.cell? ⟨w.heap.size, 1, none⟩ = some (.slice A l.length c) ∧ w'.rangeAt (w.heap.size + 1) 0 (drumV d).toList ∧ Below w0.heap.size w0 w')) (by rfl) _ _ rfl _ _ rfl (drumV d).toList _ (fun w' hS => hS.2.2.1) hud rfl hln) hHeld ?_
  simp only [Act.put, List.setIfInBounds_toArray, List.set_cons_zero, List.set_cons_succ]
  refine wpAnyH_take (i := 4) (v := .agg #[.int .i16 s, .slice A l.length c]) rfl (by kernel_rfl) (by kernel_rfl) (by kernel_rfl) (fun _ _ _ h => h) (Or.inl ⟨by rfl, by intro w' hS; (try dsimp only at hS); go_simp⟩) hHeld ?_
  simp only [Act.put, List.setIfInBounds_toArray, List.set_cons_zero, List.set_cons_succ]
  refine wpAnyH_take (i := 5) (v := .int .i64 a) rfl (by kernel_rfl) (by kernel_rfl) (by kernel_rfl) (fun _ _ _ h => h) (Or.inl ⟨by rfl, by intro w' hS; (try dsimp only at hS); go_simp⟩) hHeld ?_
  simp only [Act.put, List.setIfInBounds_toArray, List.set_cons_zero, List.set_cons_succ]
  refine wpAnyH_take (i := 6) (v := .int .i64 t) rfl (by kernel_rfl) (by kernel_rfl) (by kernel_rfl) (fun _ _ _ h => h) (Or.inl ⟨by rfl, by intro w' hS; (try dsimp only at hS); go_simp⟩) hHeld ?_
  simp only [Act.put, List.setIfInBounds_toArray, List.set_cons_zero, List.set_cons_succ]
  refine wpAnyH_ready (rs := [2]) (by kernel_rfl) (by simp) ?_
  refine AllReadyH.cons rfl (fun K hK => ?_) AllReadyH.nil
  rw [if_pos (by rfl)]
  refine wp_build_drum1 rfl (by simp [Act.eval]) Tryz.underlying104 zero_Drum size_Drum hd ?_
  have hOld := hHeld
  refine hK.out _ _ ⟨keepc hHeld.1 (balloc (Below.refl _ _) _), keepc hHeld.2.1 (balloc (Below.refl _ _) _), keepr hHeld.2.2.1 (balloc (Below.refl _ _) _), balloc hHeld.2.2.2 _⟩ (fun hHeld => ?_)
  clear hK K
  try simp only [Act.put, List.setIfInBounds_toArray, List.set_cons_zero, List.set_cons_succ]
  refine wpAnyH_ready (rs := [3]) (by kernel_rfl) (by simp) ?_
  refine AllReadyH.cons rfl (fun K hK => ?_) AllReadyH.nil
  go_simp
  refine (c_drumCode _ s A c 1 l [d] _ (h.below (bstep B hHeld.2.2.2)) (DrumsAt.one (Var.new _ _ _) hd) hs hl hn (by simp)).mono ?_
  rintro e w1 ⟨rfl, hbk⟩
  rw [cD_eq]
  go_wp2_with fail
  refine hK.out _ _ ⟨keepc hHeld.1 hbk, keepc hHeld.2.1 hbk, keepr hHeld.2.2.1 hbk, bstep hHeld.2.2.2 hbk⟩ (fun hHeld => ?_)
  clear hK K
  try simp only [Act.put, List.setIfInBounds_toArray, List.set_cons_zero, List.set_cons_succ]
  refine wpAnyH_ready (rs := [7]) (by kernel_rfl) (by simp) ?_
  refine AllReadyH.cons rfl (fun K hK => ?_) AllReadyH.nil
  go_simp
  refine (c_isPlace s A c l a t _ hs hn).mono ?_
  rintro e w2 ⟨rfl, hbk⟩
  go_wp2_with fail
  refine hK.out _ _ ⟨keepc hHeld.1 hbk, keepc hHeld.2.1 hbk, keepr hHeld.2.2.1 hbk, bstep hHeld.2.2.2 hbk⟩ (fun hHeld => ?_)
  clear hK K
  try simp only [Act.put, List.setIfInBounds_toArray, List.set_cons_zero, List.set_cons_succ]
  refine wpAnyH_ready (rs := [8]) (by kernel_rfl) (by simp) ?_
  refine AllReadyH.cons rfl (fun K hK => ?_) AllReadyH.nil
  go_simp
  refine (c_unlessD _ _ _).mono ?_
  rintro e w3 ⟨rfl, rfl⟩
  rw [HU.out]
  go_wp2_with fail
  refine hK.out _ _ hHeld (fun hHeld => ?_)
  clear hK K
  try simp only [Act.put, List.setIfInBounds_toArray, List.set_cons_zero, List.set_cons_succ]
  have hOld := hHeld
  refine wpAnyH_ready (rs := [9]) (by kernel_rfl) (by simp) ?_
  refine AllReadyH.cons rfl (fun K hK => ?_) AllReadyH.nil
  go_simp
  refine hK.out _ _ ⟨keepc hHeld.1 (balloc (Below.refl _ _) _), keepc hHeld.2.1 (balloc (Below.refl _ _) _), keepr hHeld.2.2.1 (balloc (Below.refl _ _) _), balloc hHeld.2.2.2 _⟩ (fun hHeld => ?_)
  clear hK K
  try simp only [Act.put, List.setIfInBounds_toArray, List.set_cons_zero, List.set_cons_succ]
  refine wpAnyH_ready (rs := [10]) (by kernel_rfl) (by simp) ?_
  refine AllReadyH.cons rfl (fun K hK => ?_) AllReadyH.nil
  go_simp
  refine (c_firstOfD_two _ _ _ _).mono ?_
  rintro e w4 ⟨rfl, hbk⟩
  have HC := Lib.hid (show (if cD s l d = 0 then u else cD s l d) = cP s l d a t by rw [← HU.out]; exact cP_two s l d a t)
  rw [HC.out]
  go_wp2_with fail
  refine hK.out _ _ ⟨keepc hOld.1 hbk, keepc hOld.2.1 hbk, keepr hOld.2.2.1 hbk, bstep hOld.2.2.2 hbk⟩ (fun hHeld => ?_)
  clear hK K
  try simp only [Act.put, List.setIfInBounds_toArray, List.set_cons_zero, List.set_cons_succ]
  refine wpAnyH_ready (rs := [11]) (by kernel_rfl) (by simp) ?_
  refine AllReadyH.cons rfl (fun K hK => ?_) AllReadyH.nil
  go_simp
  refine hK.out _ _ hHeld (fun hHeld => ?_)
  clear hK K
  try simp only [Act.put, List.setIfInBounds_toArray, List.set_cons_zero, List.set_cons_succ]
  refine wpAnyH_done (by kernel_rfl) ?_ _
  go_wp2
  go_ret
  exact ⟨rfl, bstep B hHeld.2.2.2⟩



end Go.Proofs.YtnakdlfjjeligaaGreat
