/-
  The walks of CountPins.
-/
import Derived.Test.YtjcbailckchnoaaGreatDoorWalkDK
namespace Go.Proofs.YtjcbailckchnoaaGreatDoor
open Go.RowKit
set_option linter.unusedVariables false
set_option linter.unusedSimpArgs false
set_option maxRecDepth 4000

theorem cD_of (s : Int) (l : List (Int × Int)) (d : List Int) : cD s l d = if vD s l d then 0 else 1 := rfl


set_option maxHeartbeats 800000 in
theorem c_implCountPins (s : Int) (A : Option Addr) (c : Nat) (l : List (Int × Int)) (d : List Int) (w : World) (h : At2 .i8 .i8 w A l) (hs : W16 s) (hl : Whs l) (hn : l.length ≤ 1073741824) (hd : d.length = 96) (hr : ∀ x ∈ d, 0 ≤ x ∧ x ≤ 4294967295) :
    Calls Tryz.prog 18 #[.agg #[.int .i16 s, .slice A l.length c], .agg (drumV d)] w fun e w' => e = .returned (.tuple #[.int .i64 (rCountPins s l d), .int .i64 (cD s l d)]) ∧ Below w.heap.size w w' := by
  have hu2 := Tryz.underlying27
  have v1 : Var ((w.alloc (.cells #[.int .i16 s, .slice A l.length c] 27)).alloc (.cells (drumV d) 31)) (w.heap.size + 1) (drumV d) 31 := by simpa using Var.new (w.alloc (.cells #[.int .i16 s, .slice A l.length c] 27)) (drumV d) 31
  have B : Below w.heap.size w ((w.alloc (.cells #[.int .i16 s, .slice A l.length c] 27)).alloc (.cells (drumV d) 31)) := balloc (balloc (Below.refl _ w) _) _
  have B2 := balloc B (.cells (drumV d) 31)
  have V1 := Lib.hid v1
  have v2 : Var (((w.alloc (.cells #[.int .i16 s, .slice A l.length c] 27)).alloc (.cells (drumV d) 31)).alloc (.cells (drumV d) 31)) (w.heap.size + 1 + 1) (drumV d) 31 := by simpa using Var.new ((w.alloc (.cells #[.int .i16 s, .slice A l.length c] 27)).alloc (.cells (drumV d) 31)) (drumV d) 31
  have V2 := Lib.hid v2
  clear v2
  have V3 := Lib.hid (v1.old (.cells (drumV d) 31))
  clear v1
  unfold rCountPins
  rw [cD_of]
  have he := cD_eq s l d
  rw [cD_of] at he
  rcases hx : vD s l d with _ | _
  all_goals
    rw [hx] at he
    have HE := Lib.hid he
    clear he
    go_enter Tryz.func18, Tryz.ntmps18
    go_wp2_with (first | (refine wpList_loadD (by rfl) rfl V1.out rfl Tryz.underlying31 size_Drum hd ?_) | (refine wpList_bd1 (by rfl) rfl (by simp [Act.eval, Act.put]) Tryz.underlying106 zero_Drum size_Drum hd ?_))
    refine (c_drumCode _ s A c 1 l [d] _ (h.below B2) (DrumsAt.one V2.out hd) hs hl hn (by simp)).mono ?_
    rintro e w1 ⟨rfl, b1⟩
    rw [HE.out]
    have B1 := bstep B2 b1
    have V4 := Lib.hid (V3.out.below b1)
    clear b1 B2 B
    first
    | (go_wp2
       go_ret2
       exact ⟨rfl, B1⟩)
    | (go_wp2_with (refine wpList_loadD (by rfl) rfl V4.out rfl Tryz.underlying31 size_Drum hd ?_)
       refine (c_count d _ hd hr).mono ?_
       rintro e w2 ⟨rfl, b2⟩
       go_wp2
       go_ret2
       exact ⟨rfl, bstep B1 b2⟩)

end Go.Proofs.YtjcbailckchnoaaGreatDoor
