/-
  The walks of FreePlaces and FreeTracks, in the reference and in the program.
-/
import Derived.Test.YtjcbailckchnoaaGreatDoorWalkDY
namespace Go.Proofs.YtjcbailckchnoaaGreatDoor
open Go.RowKit
set_option linter.unusedVariables false
set_option linter.unusedSimpArgs false
set_option maxRecDepth 4000

/-- The free places of a track: none where the place is not one of the frame. -/
noncomputable def rFree (s : Int) (l : List (Int × Int)) (d : List Int) (t : Int) : List Int := if cP s l d 0 t = 0 then frL d s.toNat l t.toNat s.toNat else []
theorem rFree_len (s : Int) (l : List (Int × Int)) (d : List Int) (t : Int) : (rFree s l d t).length ≤ 96 := by
  unfold rFree
  split
  · rename_i hx
    obtain ⟨hf, _⟩ := cP_zero hx
    obtain ⟨⟨s1, s2⟩, _⟩ := okF_iff.1 hf
    have := frL_len d s.toNat l t.toNat s.toNat
    omega
  · simp

set_option maxHeartbeats 800000 in
theorem c_specFreePlaces (s : Int) (A : Option Addr) (c : Nat) (l : List (Int × Int)) (d : List Int) (t : Int) (w : World) (h : At2 .i8 .i8 w A l) (hs : W16 s) (hl : Whs l) (hn : l.length ≤ 1073741824) (hd : d.length = 96) (hr : ∀ x ∈ d, 0 ≤ x ∧ x ≤ 4294967295) (hbt : -9223372036854775808 ≤ t ∧ t ≤ 9223372036854775807) :
    Calls Tryz.prog 21 #[.agg #[.int .i16 s, .slice A l.length c], .agg (drumV d), .int .i64 t] w fun e w' => ∃ A' c', e = .returned (.tuple #[.slice A' (rFree s l d t).length c', .int .i64 (cP s l d 0 t)]) ∧ Own1 .i64 2 w' w.heap.size (.slice A' (rFree s l d t).length c') (rFree s l d t) ∧ Below w.heap.size w w' := by
  have v0 : FrameAt ((w.alloc (.cells #[.int .i16 s, .slice A l.length c] 27)).alloc (.cells (drumV d) 31)) w.heap.size s A c l := (FrameAt.box _).alloc _
  have v1 : DrumAt ((w.alloc (.cells #[.int .i16 s, .slice A l.length c] 27)).alloc (.cells (drumV d) 31)) (w.heap.size + 1) d := by simpa using DrumAt.box (w := w.alloc (.cells #[.int .i16 s, .slice A l.length c] 27)) 31 hd
  have B : Below w.heap.size w ((w.alloc (.cells #[.int .i16 s, .slice A l.length c] 27)).alloc (.cells (drumV d) 31)) := balloc (balloc (Below.refl _ w) _) _
  have V0 := Lib.hid v0
  have V1 := Lib.hid v1
  clear v0 v1
  by_cases hx : cP s l d 0 t = 0
  · obtain ⟨hf, hdd, _, t1, t2⟩ := cP_zero hx
    obtain ⟨⟨s1, s2⟩, ⟨n1, n2⟩, _⟩ := okF_iff.1 hf
    obtain ⟨n, rfl⟩ := Int.eq_ofNat_of_zero_le (show 0 ≤ s by omega)
    obtain ⟨j, rfl⟩ := Int.eq_ofNat_of_zero_le t1
    have hjl : j < l.length := by omega
    have hrd := (okF_get hf hjl).2
    have HRD := Lib.hid (show 1 ≤ l[j].2 ∧ l[j].2 ≤ (n : Int) from ⟨hrd.1, hrd.2.2⟩)
    have HM := Lib.hid (show rFree (n : Int) l d (j : Int) = frL d n l j n by unfold rFree; rw [if_pos hx, Int.toNat_natCast, Int.toNat_natCast])
    have hn96 : n ≤ 96 := by omega
    have hn2 : 2 ≤ n := by omega
    have hl32 : l.length ≤ 32 := by omega
    have HX := Lib.hid hx
    clear hx hf hdd t1 t2 s1 s2 n1 n2 hrd hbt
    go_enter Tryz.func21, Tryz.ntmps21
    go_wp2_with fail
    refine (c_l02Place w.heap.size (w.heap.size + 1) (n : Int) A c l d _ _ _ V0.out (h.below B) V1.out hs hl hn).mono ?_
    rintro e w1 ⟨rfl, b1⟩
    rw [HX.out]
    have F1 := Lib.hid (V0.out.below b1)
    have D1 := Lib.hid (V1.out.below b1)
    have B1 := bstep B b1
    clear b1
    go_wp2
    go_loopw [9, 10] (fun v i w' => ∃ (k : Nat) (A' : Option Addr) (c' : Nat), i = .int .i64 (k : Int) ∧ v = .slice A' (frL d n l j k).length c' ∧ k ≤ n ∧ Own1 .i64 2 w' w1.heap.size v (frL d n l j k) ∧ Below w1.heap.size w1 w') (fun _ i _ => n - (intOf i).toNat)
    case atStart => exact ⟨0, _, _, rfl, by rw [frL_zero]; rfl, by omega, by rw [frL_zero]; exact Own1.lit0 (Nat.le_refl _), balloc (Below.refl _ _) _⟩
    case round =>
      obtain ⟨k, A1, c1, rfl, rfl, hk, hown, hb⟩ := hrel
      have HO := Lib.hid hown
      clear hown
      have f1 := (F1.out.below hb).2.1
      by_cases hlt : k < n
      · have hs := frL_succ d n l j k
        rcases hq : frB d n l k j with _ | _
        · rw [hq] at hs
          simp only [Bool.false_eq_true, if_false, List.append_nil] at hs
          have HQ := Lib.hid hq
          have HS := Lib.hid hs
          clear hs hq
          go_wp2_with fail
          refine (c_l02Free w.heap.size (w.heap.size + 1) n A c l d k j _ ((h.below B1).below hb) (F1.out.below hb) (D1.out.below hb) hr hn2 hn96 hlt hjl hl32 HRD.out).mono ?_
          rintro z w2 ⟨rfl, rfl⟩
          rw [HQ.out]
          go_wp2
          go_roundw
          case rel => exact ⟨k + 1, A1, c1, by go_num, by rw [HS.out], by omega, by rw [HS.out]; exact HO.out, hb⟩
          case measure => simp [intOf]; omega
        · rw [hq] at hs
          simp only [if_true] at hs
          have HQ := Lib.hid hq
          have HS := Lib.hid hs
          clear hs hq
          have hlen2 : (frL d n l j k).length ≤ 1073741824 := Nat.le_trans (frL_len _ _ _ _ _) (by omega)
          go_wp2_with fail
          refine (c_l02Free w.heap.size (w.heap.size + 1) n A c l d k j _ ((h.below B1).below hb) (F1.out.below hb) (D1.out.below hb) hr hn2 hn96 hlt hjl hl32 HRD.out).mono ?_
          rintro z w2 ⟨rfl, rfl⟩
          rw [HQ.out]
          have hown2 := (HO.out).alloc (.cells #[.int .i64 ((k : Int))] 2)
          have B3 := balloc (hb) (.cells #[.int .i64 ((k : Int))] 2)
          have hbs := B3.size
          have z1 := cell_new wr #[.int .i64 ((k : Int))] 2 (i := 0) rfl
          go_wp2_with (at_builtin; refine append_int rfl (.tmp 28) (.tmp 30) 53 rfl 2 .i64 8 Tryz.underlying53 info_i64 (by decide) w1.heap.size _ _ rfl hown2 _ _ ((k : Int)) rfl z1 hlen2 hbs ?_; intro A3 c3 w3 ho3 hg3)
          have B4 := bgrown B3 hg3 (fun j hj => hown2.low hj)
          go_roundw
          case rel => exact ⟨k + 1, A3, c3, by go_num, by rw [HS.out, List.length_append]; rfl, by omega, by rw [HS.out]; rw [List.length_append] at ho3; exact ho3, B4⟩
          case measure => simp [intOf]; omega
      · obtain rfl : k = n := by omega
        go_wp2
        go_ret2
        rw [HM.out]
        refine ⟨A1, c1, ?_, HO.out.base_le B1.size, bstep B1 hb⟩
        rw [HX.out]; rfl
  · obtain ⟨p, hp⟩ : ∃ p, cP s l d 0 t = p := ⟨_, rfl⟩
    have HM := Lib.hid (show rFree s l d t = [] by unfold rFree; rw [if_neg hx])
    rw [hp] at hx ⊢
    have HP := Lib.hid hp
    have hx2 : (p == 0) = false := by simpa using hx
    clear hp hx
    go_enter Tryz.func21, Tryz.ntmps21
    go_wp2_with fail
    refine (c_l02Place w.heap.size (w.heap.size + 1) s A c l d _ _ _ V0.out (h.below B) V1.out hs hl hn).mono ?_
    rintro e w1 ⟨rfl, b1⟩
    rw [HP.out]
    have B1 := bstep B b1
    go_wp2
    go_ret2
    rw [HM.out]
    exact ⟨_, _, rfl, Own1.lit0 B1.size, balloc B1 _⟩

set_option maxHeartbeats 800000 in
theorem c_implFreePlaces (s : Int) (A : Option Addr) (c : Nat) (l : List (Int × Int)) (d : List Int) (t : Int) (w : World) (h : At2 .i8 .i8 w A l) (hs : W16 s) (hl : Whs l) (hn : l.length ≤ 1073741824) (hd : d.length = 96) (hr : ∀ x ∈ d, 0 ≤ x ∧ x ≤ 4294967295) (hbt : -9223372036854775808 ≤ t ∧ t ≤ 9223372036854775807) :
    Calls Tryz.prog 20 #[.agg #[.int .i16 s, .slice A l.length c], .agg (drumV d), .int .i64 t] w fun e w' => ∃ A' c', e = .returned (.tuple #[.slice A' (rFree s l d t).length c', .int .i64 (cP s l d 0 t)]) ∧ Own1 .i64 2 w' w.heap.size (.slice A' (rFree s l d t).length c') (rFree s l d t) ∧ Below w.heap.size w w' := by
  have hu2 := Tryz.underlying27
  have v0 : Var ((w.alloc (.cells #[.int .i16 s, .slice A l.length c] 27)).alloc (.cells (drumV d) 31)) w.heap.size #[.int .i16 s, .slice A l.length c] 27 := (Var.new w _ _).old _
  have v1 : Var ((w.alloc (.cells #[.int .i16 s, .slice A l.length c] 27)).alloc (.cells (drumV d) 31)) (w.heap.size + 1) (drumV d) 31 := by simpa using Var.new (w.alloc (.cells #[.int .i16 s, .slice A l.length c] 27)) (drumV d) 31
  have B : Below w.heap.size w ((w.alloc (.cells #[.int .i16 s, .slice A l.length c] 27)).alloc (.cells (drumV d) 31)) := balloc (balloc (Below.refl _ w) _) _
  have V0 := Lib.hid v0
  have V1 := Lib.hid v1
  clear v0 v1
  by_cases hx : cP s l d 0 t = 0
  · obtain ⟨hf, hdd, _, t1, t2⟩ := cP_zero hx
    obtain ⟨⟨s1, s2⟩, ⟨n1, n2⟩, _⟩ := okF_iff.1 hf
    obtain ⟨n, rfl⟩ := Int.eq_ofNat_of_zero_le (show 0 ≤ s by omega)
    obtain ⟨j, rfl⟩ := Int.eq_ofNat_of_zero_le t1
    have hjl : j < l.length := by omega
    have hrd := (okF_get hf hjl).2
    have HRD := Lib.hid (show 1 ≤ l[j].2 ∧ l[j].2 ≤ (n : Int) from ⟨hrd.1, hrd.2.2⟩)
    have HM := Lib.hid (show rFree (n : Int) l d (j : Int) = frL d n l j n by unfold rFree; rw [if_pos hx, Int.toNat_natCast, Int.toNat_natCast])
    have hn96 : n ≤ 96 := by omega
    have hn2 : 2 ≤ n := by omega
    have hl32 : l.length ≤ 32 := by omega
    have HX := Lib.hid hx
    clear hx hf hdd t1 t2 s1 s2 n1 n2 hrd hbt
    go_enter Tryz.func20, Tryz.ntmps20
    go_wp2_with (refine wpList_loadD (by rfl) rfl V1.out rfl Tryz.underlying31 size_Drum hd ?_)
    refine (c_placeCode (n : Int) A c l d _ _ _ (h.below B) hs hl hn hd).mono ?_
    rintro e w1 ⟨rfl, b1⟩
    rw [HX.out]
    have F1 := Lib.hid (V0.out.below b1)
    have D1 := Lib.hid (V1.out.below b1)
    have B1 := bstep B b1
    clear b1
    have f0 := (F1.out.below (balloc (Below.refl _ w1) (.cells #[] 2))).cell (i := 0) rfl
    go_wp2
    clear f0
    go_loopw [9, 22] (fun v i w' => ∃ (k : Nat) (A' : Option Addr) (c' : Nat), i = .int .i64 (k : Int) ∧ v = .slice A' (frL d n l j k).length c' ∧ k ≤ n ∧ Own1 .i64 2 w' w1.heap.size v (frL d n l j k) ∧ Below w1.heap.size w1 w') (fun _ i _ => n - (intOf i).toNat)
    case atStart => exact ⟨0, _, _, rfl, by rw [frL_zero]; rfl, by omega, by rw [frL_zero]; exact Own1.lit0 (Nat.le_refl _), balloc (Below.refl _ _) _⟩
    case round =>
      obtain ⟨k, A1, c1, rfl, rfl, hk, hown, hb⟩ := hrel
      have HO := Lib.hid hown
      clear hown
      have f1 := (F1.out.below hb).cell (i := 0) rfl
      have f2 := (F1.out.below hb).cell (i := 1) rfl
      by_cases hlt : k < n
      · have hs := frL_succ d n l j k
        rcases hq : frB d n l k j with _ | _
        · rw [hq] at hs
          simp only [Bool.false_eq_true, if_false, List.append_nil] at hs
          have HQ := Lib.hid hq
          have HS := Lib.hid hs
          clear hs hq
          go_wp2_with fail
          refine (c_isFree (w.heap.size + 1) n A c l d k j _ ((h.below B1).below hb) ((D1.out.drum hd).below hb) hr hn2 hn96 hlt hjl hl32 hl).mono ?_
          rintro z w2 ⟨rfl, b2⟩
          rw [HQ.out]
          go_wp2
          go_roundw
          case rel => exact ⟨k + 1, A1, c1, by go_num, by rw [HS.out], by omega, by rw [HS.out]; exact HO.out.below b2, bstep hb b2⟩
          case measure => simp [intOf]; omega
        · rw [hq] at hs
          simp only [if_true] at hs
          have HQ := Lib.hid hq
          have HS := Lib.hid hs
          clear hs hq
          have hlen2 : (frL d n l j k).length ≤ 1073741824 := Nat.le_trans (frL_len _ _ _ _ _) (by omega)
          go_wp2_with fail
          refine (c_isFree (w.heap.size + 1) n A c l d k j _ ((h.below B1).below hb) ((D1.out.drum hd).below hb) hr hn2 hn96 hlt hjl hl32 hl).mono ?_
          rintro z w2 ⟨rfl, b2⟩
          rw [HQ.out]
          have hown2 := (HO.out.below b2).alloc (.cells #[.int .i64 ((k : Int))] 2)
          have B3 := balloc (bstep hb b2) (.cells #[.int .i64 ((k : Int))] 2)
          have hbs := B3.size
          have z1 := cell_new w2 #[.int .i64 ((k : Int))] 2 (i := 0) rfl
          go_wp2_with (at_builtin; refine append_int rfl (.tmp 29) (.tmp 31) 53 rfl 2 .i64 8 Tryz.underlying53 info_i64 (by decide) w1.heap.size _ _ rfl hown2 _ _ ((k : Int)) rfl z1 hlen2 hbs ?_; intro A3 c3 w3 ho3 hg3)
          have B4 := bgrown B3 hg3 (fun j hj => hown2.low hj)
          go_roundw
          case rel => exact ⟨k + 1, A3, c3, by go_num, by rw [HS.out, List.length_append]; rfl, by omega, by rw [HS.out]; rw [List.length_append] at ho3; exact ho3, B4⟩
          case measure => simp [intOf]; omega
      · obtain rfl : k = n := by omega
        go_wp2
        go_ret2
        rw [HM.out]
        refine ⟨A1, c1, ?_, HO.out.base_le B1.size, bstep B1 hb⟩
        rw [HX.out]; rfl
  · obtain ⟨p, hp⟩ : ∃ p, cP s l d 0 t = p := ⟨_, rfl⟩
    have HM := Lib.hid (show rFree s l d t = [] by unfold rFree; rw [if_neg hx])
    rw [hp] at hx ⊢
    have HP := Lib.hid hp
    have hx2 : (p == 0) = false := by simpa using hx
    clear hp hx
    go_enter Tryz.func20, Tryz.ntmps20
    go_wp2_with (refine wpList_loadD (by rfl) rfl V1.out rfl Tryz.underlying31 size_Drum hd ?_)
    refine (c_placeCode s A c l d _ _ _ (h.below B) hs hl hn hd).mono ?_
    rintro e w1 ⟨rfl, b1⟩
    rw [HP.out]
    have B1 := bstep B b1
    go_wp2
    go_ret2
    rw [HM.out]
    exact ⟨none, 0, rfl, Own1.nil _ _ _ _, B1⟩

end Go.Proofs.YtjcbailckchnoaaGreatDoor
