/-
  The walks of PinsByTrack, in the reference and in the program.
-/
import Derived.Test.YtjcbailckchnoaaGreatDoorWalkDT
import Derived.Test.YtjcbailckchnoaaGreatDoorWalkDX
import Derived.Test.YtjcbailckchnoaaGreatDoorPureK
import Derived.Test.YtjcbailckchnoaaGreatDoorData
namespace Go.Proofs.YtjcbailckchnoaaGreatDoor
open Go.RowKit
set_option linter.unusedVariables false
set_option linter.unusedSimpArgs false
set_option maxRecDepth 4000

noncomputable def rCnt (s : Int) (l : List (Int × Int)) (d : List Int) : List Int := if cD s l d = 0 then cntU d l.length s.toNat 0 else []
theorem rCnt_len (s : Int) (l : List (Int × Int)) (d : List Int) : (rCnt s l d).length ≤ 32 := by
  unfold rCnt
  split
  · rename_i hx
    obtain ⟨hf, _⟩ := cD_zero hx
    obtain ⟨_, ⟨n1, n2⟩, _⟩ := okF_iff.1 hf
    rw [cntU_len]; omega
  · simp

/-- What is known while the program counts pin after pin. -/
def CnS (w0 : World) (pb n : Nat) (A : Option Addr) (c : Nat) (l : List (Int × Int)) (d : List Int) (k t : Nat) (w' : World) : Prop :=
  Var w' pb #[.int .i16 (n : Int), .slice A l.length c] 27 ∧ Var w' (pb + 1) (drumV d) 31 ∧
  Var w' (w0.heap.size + 1 + 1 + 1) #[.slice (some ⟨w0.heap.size + 1 + 1, 0, none⟩) l.length l.length] 53 ∧ Own1 .i64 2 w' w0.heap.size (.slice (some ⟨w0.heap.size + 1 + 1, 0, none⟩) l.length l.length) (cntU d l.length k t) ∧ Below w0.heap.size w0 w'

theorem c_count1 (w0 : World) (pb n : Nat) (A : Option Addr) (c : Nat) (l : List (Int × Int)) (d : List Int) (k t : Nat) (w : World) (hk : k < 96) (ht : t < l.length) (hp : pinB d k t = true) (hpb : w0.heap.size + 1 + 1 + 1 < pb) (hS : CnS w0 pb n A c l d k t w) :
    Calls Tryz.prog 72 #[.int .i64 (k : Int), .int .i64 (t : Int), .pointer (some ⟨w0.heap.size + 1 + 1 + 1, 0, none⟩)] w fun z w' => z = .returned (.tuple #[]) ∧ CnS w0 pb n A c l d k (t + 1) w' := by
  obtain ⟨h1, h2, h3, h4, h5⟩ := hS
  have ht2 : t < (cntU d l.length k t).length := by rw [cntU_len]; exact ht
  have f1 := h3.cell (i := 0) rfl
  obtain ⟨y1, y2⟩ := h4.cell t ht2
  rw [cntU_at] at y1
  have hc := cntT_le d t k
  have hw1 : IntKind.i64.wrap (((cntT d t k : Nat) : Int) + 1) = ((cntT d t k : Nat) : Int) + 1 := IntWalk.i64_in _ (by omega)
  have i1 : (0 : Int) ≤ (t : Int) := by omega
  have i2 : (t : Int) < (l.length : Int) := by omega
  have HS := Lib.hid (cntU_yes ht hp)
  have H1 := Lib.hid h1
  have H2 := Lib.hid h2
  have H3 := Lib.hid h3
  have H4 := Lib.hid h4
  have H5 := Lib.hid h5
  clear h1 h2 h3 h4 h5 hp
  go_enter Tryz.func72, Tryz.ntmps72
  go_wp2
  go_end0
  refine ⟨rfl, H1.out.other (by simp <;> omega) _, H2.out.other (by simp <;> omega) _, H3.out.other (by simp <;> omega) _, ?_, bset H5.out (by simp <;> omega) _⟩
  rw [← HS.out]
  exact H4.out.store (cntU_len _ _ _ _) t _

/-- The program's counts. -/
theorem c_byTrack (n : Nat) (A : Option Addr) (c : Nat) (l : List (Int × Int)) (d : List Int) (w : World) (hd : d.length = 96) (hr : Wd d) (hn96 : n ≤ 96) (hl : l.length ≤ 32) :
    Calls Tryz.prog 48 #[.agg #[.int .i16 (n : Int), .slice A l.length c], .agg (drumV d)] w fun z w' => ∃ A' c', z = .returned (.slice A' (cntU d l.length n 0).length c') ∧ Own1 .i64 2 w' w.heap.size (.slice A' (cntU d l.length n 0).length c') (cntU d l.length n 0) ∧ Below w.heap.size w w' := by
  have hu2 := Tryz.underlying27
  have hmk := run_make1 (P := Tryz.prog) 53 2 .i64 8 Tryz.underlying53 info_i64 l.length (by omega) (by omega)
  have s2 : ((w.alloc (.cells #[.int .i16 (n : Int), .slice A l.length c] 27)).alloc (.cells (drumV d) 31)).heap.size = w.heap.size + 1 + 1 := by simp
  have s3 : (((w.alloc (.cells #[.int .i16 (n : Int), .slice A l.length c] 27)).alloc (.cells (drumV d) 31)).alloc (.cells (madeCells #[.int .i64 0] l.length) 2)).heap.size = w.heap.size + 1 + 1 + 1 := by simp
  have v0 : Var ((((w.alloc (.cells #[.int .i16 (n : Int), .slice A l.length c] 27)).alloc (.cells (drumV d) 31)).alloc (.cells (madeCells #[.int .i64 0] l.length) 2)).alloc (.cells #[.slice (some ⟨w.heap.size + 1 + 1, 0, none⟩) l.length l.length] 53)) w.heap.size #[.int .i16 (n : Int), .slice A l.length c] 27 := (((Var.new w _ _).old _).old _).old _
  have v1 : Var ((((w.alloc (.cells #[.int .i16 (n : Int), .slice A l.length c] 27)).alloc (.cells (drumV d) 31)).alloc (.cells (madeCells #[.int .i64 0] l.length) 2)).alloc (.cells #[.slice (some ⟨w.heap.size + 1 + 1, 0, none⟩) l.length l.length] 53)) (w.heap.size + 1) (drumV d) 31 := by
    have : Var ((w.alloc (.cells #[.int .i16 (n : Int), .slice A l.length c] 27)).alloc (.cells (drumV d) 31)) (w.heap.size + 1) (drumV d) 31 := by simpa using Var.new (w.alloc (.cells #[.int .i16 (n : Int), .slice A l.length c] 27)) (drumV d) 31
    exact (this.old _).old _
  have v5 : Var ((((w.alloc (.cells #[.int .i16 (n : Int), .slice A l.length c] 27)).alloc (.cells (drumV d) 31)).alloc (.cells (madeCells #[.int .i64 0] l.length) 2)).alloc (.cells #[.slice (some ⟨w.heap.size + 1 + 1, 0, none⟩) l.length l.length] 53)) (w.heap.size + 1 + 1 + 1) #[.slice (some ⟨w.heap.size + 1 + 1, 0, none⟩) l.length l.length] 53 := by have := Var.new (((w.alloc (.cells #[.int .i16 (n : Int), .slice A l.length c] 27)).alloc (.cells (drumV d) 31)).alloc (.cells (madeCells #[.int .i64 0] l.length) 2)) #[.slice (some ⟨w.heap.size + 1 + 1, 0, none⟩) l.length l.length] 53; rw [s3] at this; exact this
  have o3 : Own1 .i64 2 (((w.alloc (.cells #[.int .i16 (n : Int), .slice A l.length c] 27)).alloc (.cells (drumV d) 31)).alloc (.cells (madeCells #[.int .i64 0] l.length) 2)) w.heap.size (.slice (some ⟨w.heap.size + 1 + 1, 0, none⟩) l.length l.length) (List.replicate l.length 0) := by
    have := Own1.made (k := .i64) (E := 2) (w := ((w.alloc (.cells #[.int .i16 (n : Int), .slice A l.length c] 27)).alloc (.cells (drumV d) 31))) (base := w.heap.size) (by simp <;> omega) (n := l.length) (by omega)
    rw [s2] at this; exact this
  have o5 := o3.alloc (.cells #[.slice (some ⟨w.heap.size + 1 + 1, 0, none⟩) l.length l.length] 53)
  have B5 : Below w.heap.size w ((((w.alloc (.cells #[.int .i16 (n : Int), .slice A l.length c] 27)).alloc (.cells (drumV d) 31)).alloc (.cells (madeCells #[.int .i64 0] l.length) 2)).alloc (.cells #[.slice (some ⟨w.heap.size + 1 + 1, 0, none⟩) l.length l.length] 53)) := balloc (balloc (balloc (balloc (Below.refl _ w) _) _) _) _
  have s5 : ((((w.alloc (.cells #[.int .i16 (n : Int), .slice A l.length c] 27)).alloc (.cells (drumV d) 31)).alloc (.cells (madeCells #[.int .i64 0] l.length) 2)).alloc (.cells #[.slice (some ⟨w.heap.size + 1 + 1, 0, none⟩) l.length l.length] 53)).heap.size = w.heap.size + 1 + 1 + 1 + 1 := by simp
  have V0 := Lib.hid v0
  have V1 := Lib.hid v1
  obtain ⟨wa, hwa⟩ : ∃ x, x = ((((w.alloc (.cells #[.int .i16 (n : Int), .slice A l.length c] 27)).alloc (.cells (drumV d) 31)).alloc (.cells (madeCells #[.int .i64 0] l.length) 2)).alloc (.cells #[.slice (some ⟨w.heap.size + 1 + 1, 0, none⟩) l.length l.length] 53)) := ⟨_, rfl⟩
  have key : Calls Tryz.prog 64 #[.agg #[.int .i16 (n : Int), .slice A l.length c], .agg (drumV d), .func (.func 72) #[] #[.pointer (some ⟨w.heap.size + 1 + 1 + 1, 0, none⟩)]] wa fun z w' => z = .returned (.tuple #[]) ∧ CnS w wa.heap.size n A c l d n 0 w' := by
    rw [← hwa] at v5 o5 B5 s5
    refine c_pins_byTrack (w.heap.size + 1 + 1 + 1) n A c l d wa hd hr hn96 hl (CnS w wa.heap.size n A c l d) ?_ ?_ ?_ ?_ ?_
    · refine ⟨(Var.new wa _ _).old _, by simpa using Var.new (wa.alloc (.cells #[.int .i16 (n : Int), .slice A l.length c] 27)) (drumV d) 31, (v5.old _).old _, ?_, balloc (balloc B5 _) _⟩
      rw [cntU_zero]; exact (o5.alloc _).alloc _
    · exact fun k t w' hS => ⟨hS.1, hS.2.1⟩
    · intro k w' hS
      unfold CnS at hS ⊢
      rw [cntU_row] at hS
      exact hS
    · intro k t w' ht hp hS
      unfold CnS at hS ⊢
      rw [cntU_no hp]
      exact hS
    · exact fun k t w' hk ht hp hS => c_count1 w wa.heap.size n A c l d k t w' (by omega) ht hp (by omega) hS
  have KEY := Lib.hid key
  clear key v0 v1 v5 o3 o5 B5 s2 s3 s5
  rw [← hwa] at V0 V1
  have HW := Lib.hid hwa
  clear hwa
  go_enter Tryz.func48, Tryz.ntmps48
  go_upto_region 2 with fail
  rw [← HW.out]
  clear hmk HW
  have f1 := V0.out.cell (i := 0) rfl
  have f2 := V0.out.cell (i := 1) rfl
  go_wp2_with (refine wpList_loadD (by rfl) rfl V1.out rfl Tryz.underlying31 size_Drum hd ?_)
  refine KEY.out.mono ?_
  rintro z w1 ⟨rfl, h1, h2, h3, h4, h5⟩
  have g1 := h3.cell (i := 0) rfl
  have H4 := Lib.hid h4
  clear h1 h2 h3 h4 f1 f2
  go_wp2
  go_ret
  have hl2 := cntU_len d l.length n 0
  refine ⟨some ⟨w.heap.size + 1 + 1, 0, none⟩, l.length, ?_, ?_, h5⟩
  · rw [hl2]; rfl
  · rw [hl2]; exact H4.out

theorem c_implPinsByTrack (s : Int) (A : Option Addr) (c : Nat) (l : List (Int × Int)) (d : List Int) (w : World) (h : At2 .i8 .i8 w A l) (hs : W16 s) (hl : Whs l) (hn : l.length ≤ 1073741824) (hd : d.length = 96) (hr : ∀ x ∈ d, 0 ≤ x ∧ x ≤ 4294967295) :
    Calls Tryz.prog 19 #[.agg #[.int .i16 s, .slice A l.length c], .agg (drumV d)] w fun e w' => ∃ A' c', e = .returned (.tuple #[.slice A' (rCnt s l d).length c', .int .i64 (cD s l d)]) ∧ Own1 .i64 2 w' w.heap.size (.slice A' (rCnt s l d).length c') (rCnt s l d) ∧ Below w.heap.size w w' := by
  have hu2 := Tryz.underlying27
  have v0 : Var (((w.alloc (.cells #[.int .i16 s, .slice A l.length c] 27)).alloc (.cells (drumV d) 31)).alloc (.cells (drumV d) 31)) w.heap.size #[.int .i16 s, .slice A l.length c] 27 := ((Var.new w _ _).old _).old _
  have v1 : Var ((w.alloc (.cells #[.int .i16 s, .slice A l.length c] 27)).alloc (.cells (drumV d) 31)) (w.heap.size + 1) (drumV d) 31 := by simpa using Var.new (w.alloc (.cells #[.int .i16 s, .slice A l.length c] 27)) (drumV d) 31
  have v3 : Var (((w.alloc (.cells #[.int .i16 s, .slice A l.length c] 27)).alloc (.cells (drumV d) 31)).alloc (.cells (drumV d) 31)) (w.heap.size + 1 + 1) (drumV d) 31 := by simpa using Var.new ((w.alloc (.cells #[.int .i16 s, .slice A l.length c] 27)).alloc (.cells (drumV d) 31)) (drumV d) 31
  have B : Below w.heap.size w (((w.alloc (.cells #[.int .i16 s, .slice A l.length c] 27)).alloc (.cells (drumV d) 31)).alloc (.cells (drumV d) 31)) := balloc (balloc (balloc (Below.refl _ w) _) _) _
  have V0 := Lib.hid v0
  have V1 := Lib.hid v1
  have U1 := Lib.hid (v1.old (.cells (drumV d) 31))
  have V3 := Lib.hid v3
  clear v0 v1 v3
  by_cases hx : cD s l d = 0
  · obtain ⟨hf, hdd⟩ := cD_zero hx
    obtain ⟨⟨s1, s2⟩, ⟨n1, n2⟩, _⟩ := okF_iff.1 hf
    obtain ⟨n, rfl⟩ := Int.eq_ofNat_of_zero_le (show 0 ≤ s by omega)
    have HM := Lib.hid (show rCnt (n : Int) l d = cntU d l.length n 0 by unfold rCnt; rw [if_pos hx, Int.toNat_natCast])
    have hn96 : n ≤ 96 := by omega
    have hl32 : l.length ≤ 32 := by omega
    have HX := Lib.hid hx
    clear hx hf hdd s1 s2 n1 n2
    go_enter Tryz.func19, Tryz.ntmps19
    go_wp2_with (first | (refine wpList_loadD (by rfl) rfl V1.out rfl Tryz.underlying31 size_Drum hd ?_) | (refine wpList_bd1 (by rfl) rfl (by simp [Act.eval, Act.put]) Tryz.underlying106 zero_Drum size_Drum hd ?_))
    refine (c_drumCode _ (n : Int) A c 1 l [d] _ (h.below B) (DrumsAt.one V3.out hd) hs hl hn (by simp)).mono ?_
    rintro e w1 ⟨rfl, b1⟩
    rw [cD_eq, HX.out]
    have F1 := Lib.hid (V0.out.below b1)
    have D1 := Lib.hid (U1.out.below b1)
    have B1 := bstep B b1
    clear b1
    have f1 := F1.out.cell (i := 0) rfl
    have f2 := F1.out.cell (i := 1) rfl
    go_wp2_with (refine wpList_loadD (by rfl) rfl D1.out rfl Tryz.underlying31 size_Drum hd ?_)
    refine (c_byTrack n A c l d _ hd hr hn96 hl32).mono ?_
    rintro e w2 ⟨A', c', rfl, ho, b2⟩
    have HO := Lib.hid ho
    clear ho f1 f2
    go_wp2
    go_ret2
    rw [HM.out]
    refine ⟨A', c', ?_, HO.out.base_le B1.size, bstep B1 b2⟩
    rw [HX.out]; rfl
  · obtain ⟨p, hp⟩ : ∃ p, cD s l d = p := ⟨_, rfl⟩
    have HM := Lib.hid (show rCnt s l d = [] by unfold rCnt; rw [if_neg hx])
    rw [hp] at hx ⊢
    have HP := Lib.hid hp
    have hx2 : (p == 0) = false := by simpa using hx
    clear hp hx
    go_enter Tryz.func19, Tryz.ntmps19
    go_wp2_with (first | (refine wpList_loadD (by rfl) rfl V1.out rfl Tryz.underlying31 size_Drum hd ?_) | (refine wpList_bd1 (by rfl) rfl (by simp [Act.eval, Act.put]) Tryz.underlying106 zero_Drum size_Drum hd ?_))
    refine (c_drumCode _ s A c 1 l [d] _ (h.below B) (DrumsAt.one V3.out hd) hs hl hn (by simp)).mono ?_
    rintro e w1 ⟨rfl, b1⟩
    rw [cD_eq, HP.out]
    have B1 := bstep B b1
    clear b1
    go_wp2
    go_ret2
    rw [HM.out]
    exact ⟨none, 0, rfl, Own1.nil _ _ _ _, B1⟩


end Go.Proofs.YtjcbailckchnoaaGreatDoor
