/-
  The walks of FirstClash, in the reference and in the program.
-/
import Derived.Test.YtjcbailckchnoaaGreatDoorWalkDV
namespace Go.Proofs.YtjcbailckchnoaaGreatDoor
open Go.RowKit
set_option linter.unusedVariables false
set_option linter.unusedSimpArgs false
set_option maxRecDepth 4000


theorem c_implFirstClash (s : Int) (A : Option Addr) (c : Nat) (l : List (Int × Int)) (d : List Int) (w : World) (h : At2 .i8 .i8 w A l) (hs : W16 s) (hl : Whs l) (hn : l.length ≤ 1073741824) (hd : d.length = 96) (hr : ∀ x ∈ d, 0 ≤ x ∧ x ≤ 4294967295) :
    Calls Tryz.prog 12 #[.agg #[.int .i16 s, .slice A l.length c], .agg (drumV d)] w fun e w' => e = .returned (.tuple #[.int .i64 (rFirst1 s l d), .int .i64 (rFirst2 s l d), .int .i64 (cFirst s l d)]) ∧ Below w.heap.size w w' := by
  have hu2 := Tryz.underlying27
  have v1 : Var ((w.alloc (.cells #[.int .i16 s, .slice A l.length c] 27)).alloc (.cells (drumV d) 31)) (w.heap.size + 1) (drumV d) 31 := by simpa using Var.new (w.alloc (.cells #[.int .i16 s, .slice A l.length c] 27)) (drumV d) 31
  have B : Below w.heap.size w ((w.alloc (.cells #[.int .i16 s, .slice A l.length c] 27)).alloc (.cells (drumV d) 31)) := balloc (balloc (Below.refl _ w) _) _
  have V1 := Lib.hid v1
  clear v1
  obtain ⟨p, hp⟩ : ∃ p, cD s l d = p := ⟨_, rfl⟩
  obtain ⟨L, hL⟩ : ∃ L, rCl s l d = L := ⟨_, rfl⟩
  have HP := Lib.hid hp
  have HL := Lib.hid hL
  by_cases hx : p = 0
  · subst hx
    have HM := Lib.hid (show rFirst1 s l d = (L.getD 0 (0, 0)).1 ∧ rFirst2 s l d = (L.getD 0 (0, 0)).2 ∧ cFirst s l d = if L.length = 0 then 6 else 0 by
      unfold rFirst1 rFirst2 cFirst; rw [if_pos hp, if_pos hp, if_pos hp, hL]; exact ⟨rfl, rfl, rfl⟩)
    clear hp hL
    by_cases hq : L.length = 0
    · have HM2 := Lib.hid (show rFirst1 s l d = 0 ∧ rFirst2 s l d = 0 ∧ cFirst s l d = 6 by
        rw [HM.out.1, HM.out.2.1, HM.out.2.2, if_pos hq]
        have : L = [] := List.length_eq_zero_iff.1 hq
        rw [this]; exact ⟨rfl, rfl, rfl⟩)
      have HQ := Lib.hid hq
      clear hq
      go_enter Tryz.func12, Tryz.ntmps12
      go_wp2_with (refine wpList_loadD (by rfl) rfl V1.out rfl Tryz.underlying31 size_Drum hd ?_)
      refine (c_implClashesOf s A c l d _ (h.below B) hs hl hn hd hr).mono ?_
      rintro e w1 ⟨A', c', rfl, ho, b1⟩
      rw [HP.out, HL.out, HQ.out]
      clear ho
      go_wp2
      go_ret3
      refine ⟨?_, bstep B b1⟩
      rw [HM2.out.1, HM2.out.2.1, HM2.out.2.2]; rfl
    · have hpos : 0 < L.length := by omega
      have HM2 := Lib.hid (show rFirst1 s l d = L[0].1 ∧ rFirst2 s l d = L[0].2 ∧ cFirst s l d = 0 by
        rw [HM.out.1, HM.out.2.1, HM.out.2.2, if_neg hq, List.getD_eq_getElem?_getD, List.getElem?_eq_getElem hpos]; exact ⟨rfl, rfl, rfl⟩)
      have hn0 : ((L.length : Int) == 0) = false := by simp; intro e; simp [e] at hpos
      have hi0 : (0 : Int) < (L.length : Int) := by omega
      go_enter Tryz.func12, Tryz.ntmps12
      go_wp2_with (refine wpList_loadD (by rfl) rfl V1.out rfl Tryz.underlying31 size_Drum hd ?_)
      refine (c_implClashesOf s A c l d _ (h.below B) hs hl hn hd hr).mono ?_
      rintro e w1 ⟨A', c', rfl, ho, b1⟩
      rw [HP.out]
      rw [HL.out] at ho ⊢
      obtain ⟨b, off, rfl, hbl, hc⟩ := ho.at_.get hpos
      have y1 := (hc 0 hpos).1
      have y2 := (hc 0 hpos).2
      simp only [Nat.zero_mul, Nat.add_zero] at y1 y2
      have x1 : ∀ x : After w1, _ := fun x => (x.cell hbl).trans y1
      have x2 : ∀ x : After w1, _ := fun x => (x.cell hbl).trans y2
      clear ho hc y1 y2
      go_wp2
      refine region_after (by kernel_rfl) (by kernel_rfl) ?_
      repeat (go_big_quiet_step (fail))
      refine wpQuiet_nil ?_
      rintro _ ⟨x, rfl⟩
      go_wp2
      go_ret3
      refine ⟨?_, bstep (bstep B b1) x.below⟩
      rw [HM2.out.1, HM2.out.2.1, HM2.out.2.2]; rfl
  · have HM := Lib.hid (show rFirst1 s l d = 0 ∧ rFirst2 s l d = 0 ∧ cFirst s l d = p by unfold rFirst1 rFirst2 cFirst; rw [hp, if_neg hx, if_neg hx, if_neg hx]; exact ⟨rfl, rfl, rfl⟩)
    have hx2 : (p == 0) = false := by simpa using hx
    clear hp hL
    obtain ⟨q, hq⟩ : ∃ q, L.length = q := ⟨_, rfl⟩
    have HQ := Lib.hid hq
    clear hq
    go_enter Tryz.func12, Tryz.ntmps12
    go_wp2_with (refine wpList_loadD (by rfl) rfl V1.out rfl Tryz.underlying31 size_Drum hd ?_)
    refine (c_implClashesOf s A c l d _ (h.below B) hs hl hn hd hr).mono ?_
    rintro e w1 ⟨A', c', rfl, ho, b1⟩
    rw [HP.out, HL.out, HQ.out]
    clear ho
    go_wp2
    go_ret3
    refine ⟨?_, bstep B b1⟩
    rw [HM.out.1, HM.out.2.1, HM.out.2.2]; rfl

end Go.Proofs.YtjcbailckchnoaaGreatDoor
