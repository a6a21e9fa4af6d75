/-
  The walks of ClashesOf, IsPlayable and FirstClash, in the reference and in the program.
-/
import Derived.Test.YtnakdlfjjeligaaGreatWalkDU
namespace Go.Proofs.YtnakdlfjjeligaaGreat
open Go.RowKit
set_option linter.unusedVariables false
set_option linter.unusedSimpArgs false
set_option maxRecDepth 4000

/-- The clashes of a drum in a frame: none where either is not valid. -/
noncomputable def rCl (s : Int) (l : List (Int × Int)) (d : List Int) : List (Int × Int) := if cD s l d = 0 then clL d s.toNat l s.toNat else []
theorem rCl_len (s : Int) (l : List (Int × Int)) (d : List Int) : (rCl s l d).length ≤ 3072 := by
  unfold rCl
  split
  · rename_i hx
    obtain ⟨hf, _⟩ := cD_zero hx
    obtain ⟨⟨s1, s2⟩, ⟨n1, n2⟩, _⟩ := okF_iff.1 hf
    exact clL_len d s.toNat l (by omega) (by omega)
  · simp
noncomputable def rPlay (s : Int) (l : List (Int × Int)) (d : List Int) : Bool := if cD s l d = 0 then decide ((rCl s l d).length = 0) else false
noncomputable def cFirst (s : Int) (l : List (Int × Int)) (d : List Int) : Int := if cD s l d = 0 then (if (rCl s l d).length = 0 then 6 else 0) else cD s l d
noncomputable def rFirst1 (s : Int) (l : List (Int × Int)) (d : List Int) : Int := if cD s l d = 0 then ((rCl s l d).getD 0 (0, 0)).1 else 0
noncomputable def rFirst2 (s : Int) (l : List (Int × Int)) (d : List Int) : Int := if cD s l d = 0 then ((rCl s l d).getD 0 (0, 0)).2 else 0

theorem c_implClashesOf (s : Int) (A : Option Addr) (c : Nat) (l : List (Int × Int)) (d : List Int) (w : World) (h : At2 .i8 .i8 w A l) (hs : W16 s) (hl : Whs l) (hn : l.length ≤ 1073741824) (hd : d.length = 96) (hr : ∀ x ∈ d, 0 ≤ x ∧ x ≤ 4294967295) :
    Calls Tryz.prog 16 #[.agg #[.int .i16 s, .slice A l.length c], .agg (drumV d)] w fun e w' => ∃ A' c', e = .returned (.tuple #[.slice A' (rCl s l d).length c', .int .i64 (cD s l d)]) ∧ Own2 .i64 .i64 114 w' w.heap.size (.slice A' (rCl s l d).length c') (rCl s l d) ∧ Below w.heap.size w w' := by
  have hu2 := Tryz.underlying27
  have v0 : Var (((w.alloc (.cells #[.int .i16 s, .slice A l.length c] 27)).alloc (.cells (drumV d) 31)).alloc (.cells (drumV d) 31)) w.heap.size #[.int .i16 s, .slice A l.length c] 27 := ((Var.new w _ _).old _).old _
  have v1 : Var ((w.alloc (.cells #[.int .i16 s, .slice A l.length c] 27)).alloc (.cells (drumV d) 31)) (w.heap.size + 1) (drumV d) 31 := by simpa using Var.new (w.alloc (.cells #[.int .i16 s, .slice A l.length c] 27)) (drumV d) 31
  have v3 : Var (((w.alloc (.cells #[.int .i16 s, .slice A l.length c] 27)).alloc (.cells (drumV d) 31)).alloc (.cells (drumV d) 31)) (w.heap.size + 1 + 1) (drumV d) 31 := by simpa using Var.new ((w.alloc (.cells #[.int .i16 s, .slice A l.length c] 27)).alloc (.cells (drumV d) 31)) (drumV d) 31
  have B : Below w.heap.size w (((w.alloc (.cells #[.int .i16 s, .slice A l.length c] 27)).alloc (.cells (drumV d) 31)).alloc (.cells (drumV d) 31)) := balloc (balloc (balloc (Below.refl _ w) _) _) _
  have V0 := Lib.hid v0
  have V1 := Lib.hid v1
  have U1 := Lib.hid (v1.old (.cells (drumV d) 31))
  have V3 := Lib.hid v3
  clear v0 v1 v3
  by_cases hx : cD s l d = 0
  · obtain ⟨hf, hdd⟩ := cD_zero hx
    obtain ⟨⟨s1, s2⟩, ⟨n1, n2⟩, _⟩ := okF_iff.1 hf
    obtain ⟨n, rfl⟩ := Int.eq_ofNat_of_zero_le (show 0 ≤ s by omega)
    have HM := Lib.hid (show rCl (n : Int) l d = clL d n l n by unfold rCl; rw [if_pos hx, Int.toNat_natCast])
    have hn96 : n ≤ 96 := by omega
    have hn2 : 2 ≤ n := by omega
    have hl32 : l.length ≤ 32 := by omega
    have HX := Lib.hid hx
    clear hx hf hdd s1 s2 n1 n2
    go_enter Tryz.func16, Tryz.ntmps16
    go_wp2_with (first | (refine wpList_loadD (by rfl) rfl V1.out rfl Tryz.underlying31 size_Drum hd ?_) | (refine wpList_bd1 (by rfl) rfl (by simp [Act.eval, Act.put]) Tryz.underlying104 zero_Drum size_Drum hd ?_))
    refine (c_drumCode _ (n : Int) A c 1 l [d] _ (h.below B) (DrumsAt.one V3.out hd) hs hl hn (by simp)).mono ?_
    rintro e w1 ⟨rfl, b1⟩
    rw [cD_eq, HX.out]
    have F1 := Lib.hid (V0.out.below b1)
    have D1 := Lib.hid (U1.out.below b1)
    have B1 := bstep B b1
    clear b1
    have f1 := F1.out.cell (i := 0) rfl
    have f2 := F1.out.cell (i := 1) rfl
    go_wp2_with (refine wpList_loadD (by rfl) rfl D1.out rfl Tryz.underlying31 size_Drum hd ?_)
    refine (c_allClashes n A c l d _ (h.below B1) hd hr hn2 hn96 hl32 hl).mono ?_
    rintro e w2 ⟨A', c', rfl, ho, b2⟩
    have HO := Lib.hid ho
    clear ho f1 f2
    go_wp2
    go_ret2
    rw [HM.out]
    refine ⟨A', c', ?_, HO.out.base_le B1.size, bstep B1 b2⟩
    rw [HX.out]; rfl
  · obtain ⟨p, hp⟩ : ∃ p, cD s l d = p := ⟨_, rfl⟩
    have HM := Lib.hid (show rCl s l d = [] by unfold rCl; rw [if_neg hx])
    rw [hp] at hx ⊢
    have HP := Lib.hid hp
    have hx2 : (p == 0) = false := by simpa using hx
    clear hp hx
    go_enter Tryz.func16, Tryz.ntmps16
    go_wp2_with (first | (refine wpList_loadD (by rfl) rfl V1.out rfl Tryz.underlying31 size_Drum hd ?_) | (refine wpList_bd1 (by rfl) rfl (by simp [Act.eval, Act.put]) Tryz.underlying104 zero_Drum size_Drum hd ?_))
    refine (c_drumCode _ s A c 1 l [d] _ (h.below B) (DrumsAt.one V3.out hd) hs hl hn (by simp)).mono ?_
    rintro e w1 ⟨rfl, b1⟩
    rw [cD_eq, HP.out]
    have B1 := bstep B b1
    clear b1
    go_wp2
    go_ret2
    rw [HM.out]
    exact ⟨none, 0, rfl, World.ownsRow_nil _ _ _ _, B1⟩

theorem c_specClashesOf (s : Int) (A : Option Addr) (c : Nat) (l : List (Int × Int)) (d : List Int) (w : World) (h : At2 .i8 .i8 w A l) (hs : W16 s) (hl : Whs l) (hn : l.length ≤ 1073741824) (hd : d.length = 96) (hr : ∀ x ∈ d, 0 ≤ x ∧ x ≤ 4294967295) :
    Calls Tryz.prog 15 #[.agg #[.int .i16 s, .slice A l.length c], .agg (drumV d)] w fun e w' => ∃ A' c', e = .returned (.tuple #[.slice A' (rCl s l d).length c', .int .i64 (cD s l d)]) ∧ Own2 .i64 .i64 114 w' w.heap.size (.slice A' (rCl s l d).length c') (rCl s l d) ∧ Below w.heap.size w w' := by
  have v0 : FrameAt ((w.alloc (.cells #[.int .i16 s, .slice A l.length c] 27)).alloc (.cells (drumV d) 31)) w.heap.size s A c l := (FrameAt.box _).alloc _
  have v1 : DrumAt ((w.alloc (.cells #[.int .i16 s, .slice A l.length c] 27)).alloc (.cells (drumV d) 31)) (w.heap.size + 1) d := by simpa using DrumAt.box (w := w.alloc (.cells #[.int .i16 s, .slice A l.length c] 27)) 31 hd
  have B : Below w.heap.size w ((w.alloc (.cells #[.int .i16 s, .slice A l.length c] 27)).alloc (.cells (drumV d) 31)) := balloc (balloc (Below.refl _ w) _) _
  have V0 := Lib.hid v0
  have V1 := Lib.hid v1
  clear v0 v1
  by_cases hx : cD s l d = 0
  · obtain ⟨hf, hdd⟩ := cD_zero hx
    obtain ⟨⟨s1, s2⟩, ⟨n1, n2⟩, _⟩ := okF_iff.1 hf
    obtain ⟨n, rfl⟩ := Int.eq_ofNat_of_zero_le (show 0 ≤ s by omega)
    have HM := Lib.hid (show rCl (n : Int) l d = clL d n l n by unfold rCl; rw [if_pos hx, Int.toNat_natCast])
    have hn96 : n ≤ 96 := by omega
    have hn2 : 2 ≤ n := by omega
    have hl32 : l.length ≤ 32 := by omega
    have HX := Lib.hid hx
    clear hx hf hdd s1 s2 n1 n2
    go_enter Tryz.func15, Tryz.ntmps15
    go_wp2_with fail
    refine (c_l02Asked w.heap.size (w.heap.size + 1) (n : Int) A c l d _ V0.out (h.below B) V1.out hs hl hn).mono ?_
    rintro e w1 ⟨rfl, b1⟩
    rw [HX.out]
    have B1 := bstep B b1
    go_wp2_with fail
    refine (c_l02Clashes w.heap.size (w.heap.size + 1) n A c l d _ (h.below B1) (V0.out.below b1) (V1.out.below b1) hr hn2 hn96 hl32 hl).mono ?_
    rintro e w2 ⟨A', c', rfl, ho, b2⟩
    have HO := Lib.hid ho
    clear ho
    go_wp2
    go_ret2
    rw [HM.out]
    refine ⟨A', c', ?_, HO.out.base_le B1.size, bstep B1 b2⟩
    rw [HX.out]; rfl
  · obtain ⟨p, hp⟩ : ∃ p, cD s l d = p := ⟨_, rfl⟩
    have HM := Lib.hid (show rCl s l d = [] by unfold rCl; rw [if_neg hx])
    rw [hp] at hx ⊢
    have HP := Lib.hid hp
    have hx2 : (p == 0) = false := by simpa using hx
    clear hp hx
    go_enter Tryz.func15, Tryz.ntmps15
    go_wp2_with fail
    refine (c_l02Asked w.heap.size (w.heap.size + 1) s A c l d _ V0.out (h.below B) V1.out hs hl hn).mono ?_
    rintro e w1 ⟨rfl, b1⟩
    rw [HP.out]
    have B1 := bstep B b1
    go_wp2
    go_ret2
    rw [HM.out]
    exact ⟨_, _, rfl, Own2.lit0 B1.size, balloc B1 _⟩


end Go.Proofs.YtnakdlfjjeligaaGreat
