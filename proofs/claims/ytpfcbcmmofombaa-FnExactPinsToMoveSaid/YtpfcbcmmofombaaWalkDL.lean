/-
  The walks of CountPins.
-/
import Derived.Test.YtpfcbcmmofombaaWalkDK
namespace Go.Proofs.Ytpfcbcmmofombaa
open Go.RowKit
set_option linter.unusedVariables false
set_option linter.unusedSimpArgs false
set_option maxRecDepth 4000

theorem cD_of (s : Int) (l : List (Int × Int)) (d : List Int) : cD s l d = if vD s l d then 0 else 1 := rfl

theorem c_specCountPins (s : Int) (A : Option Addr) (c : Nat) (l : List (Int × Int)) (d : List Int) (w : World) (h : At2 .i8 .i8 w A l) (hs : W16 s) (hl : Whs l) (hn : l.length ≤ 1073741824) (hd : d.length = 96) (hr : ∀ x ∈ d, 0 ≤ x ∧ x ≤ 4294967295) :
    Calls Try.prog 30 #[.agg #[.int .i16 s, .slice A l.length c], .agg (drumV d)] w fun e w' => e = .returned (.tuple #[.int .i64 (rCountPins s l d), .int .i64 (cD s l d)]) ∧ Below w.heap.size w w' := by
  have v0 : FrameAt ((w.alloc (.cells #[.int .i16 s, .slice A l.length c] 30)).alloc (.cells (drumV d) 40)) w.heap.size s A c l := (FrameAt.box _).alloc _
  have v1 : DrumAt ((w.alloc (.cells #[.int .i16 s, .slice A l.length c] 30)).alloc (.cells (drumV d) 40)) (w.heap.size + 1) d := by simpa using DrumAt.box (w := w.alloc (.cells #[.int .i16 s, .slice A l.length c] 30)) 40 hd
  have B : Below w.heap.size w ((w.alloc (.cells #[.int .i16 s, .slice A l.length c] 30)).alloc (.cells (drumV d) 40)) := balloc (balloc (Below.refl _ w) _) _
  have V0 := Lib.hid v0
  have V1 := Lib.hid v1
  clear v0 v1
  unfold rCountPins
  rw [cD_of]
  rcases hx : vD s l d with _ | _
  · have hc := (cD_of s l d).trans (by rw [hx]; rfl : _ = (1 : Int))
    go_enter Try.func30, Try.ntmps30
    go_wp2_with fail
    refine (c_l02Asked w.heap.size (w.heap.size + 1) s A c l d _ V0.out (h.below B) V1.out hs hl hn).mono ?_
    rintro e w1 ⟨rfl, b1⟩
    rw [hc]
    clear hc
    go_wp2
    go_ret2
    exact ⟨rfl, bstep B b1⟩
  · have hc := (cD_of s l d).trans (by rw [hx]; rfl : _ = (0 : Int))
    go_enter Try.func30, Try.ntmps30
    go_wp2_with fail
    refine (c_l02Asked w.heap.size (w.heap.size + 1) s A c l d _ V0.out (h.below B) V1.out hs hl hn).mono ?_
    rintro e w1 ⟨rfl, b1⟩
    rw [hc]
    clear hc
    have VD := Lib.hid (V1.out.below b1)
    have B1 := bstep B b1
    clear b1 B
    go_wp2
    go_loopw [7, 8] (fun q i w' => ∃ k : Nat, i = .int .i64 k ∧ k ≤ 96 ∧ q = .int .i64 (popL (d.take k)) ∧ Below w1.heap.size w1 w') (fun _ i _ => 96 - (intOf i).toNat)
    case atStart => exact ⟨0, rfl, by omega, by simp [popL], Below.refl _ _⟩
    case round =>
      obtain ⟨k, rfl, hk, rfl, hb⟩ := hrel
      by_cases hlt : k < 96
      · have hlt1 : k < d.length := by omega
        have x1 := (VD.out.below hb).2.2 k hlt1
        have h1 : (0 : Int) ≤ (k : Int) := by omega
        have h2 : (k : Int) < 96 := by omega
        have hb1 := popL_bd d k (by omega)
        have hb2 := popI_bd d[k]
        have hw1 : IntKind.i64.wrap (popL (d.take k) + popI d[k]) = popL (d.take k) + popI d[k] := IntWalk.i64_in _ (by omega)
        clear hb1 hb2
        go_wp2_with (go_at_call 62; refine (c_l02Count _ _ (hr _ (List.getElem_mem hlt1))).mono ?_; rintro e w1 ⟨rfl, rfl⟩)
        go_roundw
        case rel => exact ⟨k + 1, by go_num, by omega, by rw [popL_snoc d k hlt1], hb⟩
        case measure => simp [intOf]; omega
      · obtain rfl : k = 96 := by omega
        have HT := Lib.hid (show d.take 96 = d from List.take_of_length_le (by omega))
        go_wp2
        go_ret2
        exact ⟨by simp [HT.out], bstep B1 hb⟩

set_option maxHeartbeats 800000 in
theorem c_implCountPins (s : Int) (A : Option Addr) (c : Nat) (l : List (Int × Int)) (d : List Int) (w : World) (h : At2 .i8 .i8 w A l) (hs : W16 s) (hl : Whs l) (hn : l.length ≤ 1073741824) (hd : d.length = 96) (hr : ∀ x ∈ d, 0 ≤ x ∧ x ≤ 4294967295) :
    Calls Try.prog 31 #[.agg #[.int .i16 s, .slice A l.length c], .agg (drumV d)] w fun e w' => e = .returned (.tuple #[.int .i64 (rCountPins s l d), .int .i64 (cD s l d)]) ∧ Below w.heap.size w w' := by
  have hu2 := Try.underlying30
  have v1 : Var ((w.alloc (.cells #[.int .i16 s, .slice A l.length c] 30)).alloc (.cells (drumV d) 40)) (w.heap.size + 1) (drumV d) 40 := by simpa using Var.new (w.alloc (.cells #[.int .i16 s, .slice A l.length c] 30)) (drumV d) 40
  have B : Below w.heap.size w ((w.alloc (.cells #[.int .i16 s, .slice A l.length c] 30)).alloc (.cells (drumV d) 40)) := balloc (balloc (Below.refl _ w) _) _
  have B2 := balloc B (.cells (drumV d) 40)
  have V1 := Lib.hid v1
  have v2 : Var (((w.alloc (.cells #[.int .i16 s, .slice A l.length c] 30)).alloc (.cells (drumV d) 40)).alloc (.cells (drumV d) 40)) (w.heap.size + 1 + 1) (drumV d) 40 := by simpa using Var.new ((w.alloc (.cells #[.int .i16 s, .slice A l.length c] 30)).alloc (.cells (drumV d) 40)) (drumV d) 40
  have V2 := Lib.hid v2
  clear v2
  have V3 := Lib.hid (v1.old (.cells (drumV d) 40))
  clear v1
  unfold rCountPins
  rw [cD_of]
  have he := cD_eq s l d
  rw [cD_of] at he
  rcases hx : vD s l d with _ | _
  all_goals
    rw [hx] at he
    have HE := Lib.hid he
    clear he
    go_enter Try.func31, Try.ntmps31
    go_wp2_with (first | (refine wpList_loadD (by rfl) rfl V1.out rfl Try.underlying40 size_Drum hd ?_) | (refine wpList_bd1 (by rfl) rfl (by simp [Act.eval, Act.put]) Try.underlying102 zero_Drum size_Drum hd ?_))
    refine (c_drumCode _ s A c 1 l [d] _ (h.below B2) (DrumsAt.one V2.out hd) hs hl hn (by simp)).mono ?_
    rintro e w1 ⟨rfl, b1⟩
    rw [HE.out]
    have B1 := bstep B2 b1
    have V4 := Lib.hid (V3.out.below b1)
    clear b1 B2 B
    first
    | (go_wp2
       go_ret2
       exact ⟨rfl, B1⟩)
    | (go_wp2_with (refine wpList_loadD (by rfl) rfl V4.out rfl Try.underlying40 size_Drum hd ?_)
       refine (c_count d _ hd hr).mono ?_
       rintro e w2 ⟨rfl, b2⟩
       go_wp2
       go_ret2
       exact ⟨rfl, bstep B1 b2⟩)

end Go.Proofs.Ytpfcbcmmofombaa
