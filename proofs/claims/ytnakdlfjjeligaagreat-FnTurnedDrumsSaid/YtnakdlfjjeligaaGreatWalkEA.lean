/-
  The walks of FreeTracks, in the reference and in the program.
-/
import Derived.Test.YtnakdlfjjeligaaGreatWalkDZ
import Derived.Test.YtnakdlfjjeligaaGreatData
namespace Go.Proofs.YtnakdlfjjeligaaGreat
open Go.RowKit
set_option linter.unusedVariables false
set_option linter.unusedSimpArgs false
set_option maxRecDepth 4000

/-- The code of a step and a pitch; the free tracks with the pitch. -/
noncomputable def cFT (s : Int) (l : List (Int × Int)) (d : List Int) (k p : Int) : Int := if cP s l d k 0 = 0 then (if inB p 0 47 then 0 else 2) else cP s l d k 0
noncomputable def rFT (s : Int) (l : List (Int × Int)) (d : List Int) (k p : Int) : List Int := if cFT s l d k p = 0 then ftL d s.toNat l k.toNat p l.length else []
theorem cFT_zero {s : Int} {l : List (Int × Int)} {d : List Int} {k p : Int} (h : cFT s l d k p = 0) : cP s l d k 0 = 0 ∧ inB p 0 47 = true := by
  unfold cFT at h
  split at h
  · rename_i h1
    split at h
    · rename_i h2; exact ⟨h1, h2⟩
    · omega
  · rename_i h1; exact absurd h h1
theorem rFT_len (s : Int) (l : List (Int × Int)) (d : List Int) (k p : Int) : (rFT s l d k p).length ≤ 32 := by
  unfold rFT
  split
  · rename_i hx
    obtain ⟨hf, _⟩ := cP_zero (cFT_zero hx).1
    obtain ⟨_, ⟨n1, n2⟩, _⟩ := okF_iff.1 hf
    have := ftL_len d s.toNat l k.toNat p l.length
    omega
  · simp

set_option maxHeartbeats 1000000 in
theorem c_specFreeTracks (s : Int) (A : Option Addr) (c : Nat) (l : List (Int × Int)) (d : List Int) (k p : Int) (w : World) (h : At2 .i8 .i8 w A l) (hs : W16 s) (hl : Whs l) (hn : l.length ≤ 1073741824) (hd : d.length = 96) (hr : ∀ x ∈ d, 0 ≤ x ∧ x ≤ 4294967295) (hbk : -9223372036854775808 ≤ k ∧ k ≤ 9223372036854775807) (hbp : -9223372036854775808 ≤ p ∧ p ≤ 9223372036854775807) :
    Calls Tryz.prog 24 #[.agg #[.int .i16 s, .slice A l.length c], .agg (drumV d), .int .i64 k, .int .i64 p] w fun e w' => ∃ A' c', e = .returned (.tuple #[.slice A' (rFT s l d k p).length c', .int .i64 (cFT s l d k p)]) ∧ Own1 .i64 2 w' w.heap.size (.slice A' (rFT s l d k p).length c') (rFT s l d k p) ∧ Below w.heap.size w w' := by
  have v0 : FrameAt ((w.alloc (.cells #[.int .i16 s, .slice A l.length c] 27)).alloc (.cells (drumV d) 31)) w.heap.size s A c l := (FrameAt.box _).alloc _
  have v1 : DrumAt ((w.alloc (.cells #[.int .i16 s, .slice A l.length c] 27)).alloc (.cells (drumV d) 31)) (w.heap.size + 1) d := by simpa using DrumAt.box (w := w.alloc (.cells #[.int .i16 s, .slice A l.length c] 27)) 31 hd
  have B : Below w.heap.size w ((w.alloc (.cells #[.int .i16 s, .slice A l.length c] 27)).alloc (.cells (drumV d) 31)) := balloc (balloc (Below.refl _ w) _) _
  have V0 := Lib.hid v0
  have V1 := Lib.hid v1
  clear v0 v1
  by_cases hx : cFT s l d k p = 0
  · obtain ⟨hx1, hx2⟩ := cFT_zero hx
    obtain ⟨hf, hdd, ⟨a1, a2⟩, _⟩ := cP_zero hx1
    obtain ⟨⟨s1, s2⟩, ⟨n1, n2⟩, _⟩ := okF_iff.1 hf
    obtain ⟨n, rfl⟩ := Int.eq_ofNat_of_zero_le (show 0 ≤ s by omega)
    obtain ⟨k, rfl⟩ := Int.eq_ofNat_of_zero_le a1
    have HRD := Lib.hid (fun (i : Nat) (hi : i < l.length) => show 1 ≤ l[i].2 ∧ l[i].2 ≤ (n : Int) from ⟨(okF_get hf hi).2.1, (okF_get hf hi).2.2.2⟩)
    have HM := Lib.hid (show rFT (n : Int) l d (k : Int) p = ftL d n l k p l.length by unfold rFT; rw [if_pos hx, Int.toNat_natCast, Int.toNat_natCast])
    have hn96 : n ≤ 96 := by omega
    have hn2 : 2 ≤ n := by omega
    have hkn : k < n := by omega
    have hl32 : l.length ≤ 32 := by omega
    have HX := Lib.hid hx
    have HX1 := Lib.hid hx1
    have HX2 := Lib.hid hx2
    clear hx hx1 hx2 hf hdd a1 a2 s1 s2 n1 n2 hbk hbp
    go_enter Tryz.func24, Tryz.ntmps24
    go_wp2_with fail
    refine (c_l02Place w.heap.size (w.heap.size + 1) (n : Int) A c l d _ _ _ V0.out (h.below B) V1.out hs hl hn).mono ?_
    rintro e w1 ⟨rfl, b1⟩
    rw [HX1.out]
    have F1 := Lib.hid (V0.out.below b1)
    have D1 := Lib.hid (V1.out.below b1)
    have B1 := bstep B b1
    clear b1
    go_wp2_with fail
    refine (c_l00In _ _ _ _).mono ?_
    rintro e w' ⟨rfl, rfl⟩
    rw [HX2.out]
    go_wp2
    go_loopw [11, 12] (fun v i w' => ∃ (i' : Nat) (A' : Option Addr) (c' : Nat), i = .int .i64 (i' : Int) ∧ v = .slice A' (ftL d n l k p i').length c' ∧ i' ≤ l.length ∧ Own1 .i64 2 w' w1.heap.size v (ftL d n l k p i') ∧ Below w1.heap.size w1 w') (fun _ i _ => l.length - (intOf i).toNat)
    case atStart => exact ⟨0, _, _, rfl, by rw [ftL_zero]; rfl, by omega, by rw [ftL_zero]; exact Own1.lit0 (Nat.le_refl _), balloc (Below.refl _ _) _⟩
    case round =>
      obtain ⟨i, A1, c1, rfl, rfl, hi, hown, hb⟩ := hrel
      have HO := Lib.hid hown
      clear hown
      have f2 := (F1.out.below hb).2.2
      by_cases hlt : i < l.length
      · have hs := ftL_succ d n l k p i
        rw [ftB_at hlt] at hs
        obtain ⟨m1, m2, _, _⟩ := hl.get hlt
        have m3 : IntKind.i64.wrap l[i].1 = l[i].1 := IntWalk.i64_in _ (by omega)
        have j1 : (0 : Int) ≤ (i : Int) := by omega
        have j2 : (i : Int) < (l.length : Int) := by omega
        obtain ⟨b, off, hAe, hbl, hc⟩ := ((h.below B1).below hb).get (by omega)
        have f3 := (hc i hlt).1
        clear hc
        have f4 : wr.cell? ⟨w.heap.size, 1, none⟩ = some (.slice (some ⟨b, off, none⟩) l.length c) := by rw [← hAe]; exact f2
        clear f2
        have HA := Lib.hid hAe
        clear hAe
        rcases he : (l[i].1 == p) with _ | _
        · have he2 : decide (l[i].1 = p) = false := by simpa using he
          rw [he2, Bool.false_and] at hs
          simp only [Bool.false_eq_true, if_false, List.append_nil] at hs
          have HS := Lib.hid hs
          clear hs he2
          go_wp2
          go_roundw
          case rel => exact ⟨i + 1, A1, c1, by go_num, by rw [HS.out], by omega, by rw [HS.out]; exact HO.out, hb⟩
          case measure => simp [intOf]; omega
        · have he2 : decide (l[i].1 = p) = true := by simpa using he
          rw [he2, Bool.true_and] at hs
          clear he2
          rcases hq : frB d n l k i with _ | _
          · rw [hq] at hs
            simp only [Bool.false_eq_true, if_false, List.append_nil] at hs
            have HS := Lib.hid hs
            have HQ := Lib.hid hq
            clear hs hq
            go_wp2_with fail
            refine (c_l02Free w.heap.size (w.heap.size + 1) n A c l d k i _ ((h.below B1).below hb) (F1.out.below hb) (D1.out.below hb) hr hn2 hn96 hkn hlt hl32 (HRD.out i hlt)).mono ?_
            rintro z w3 ⟨rfl, rfl⟩
            rw [HQ.out]
            go_wp2
            go_roundw
            case rel => exact ⟨i + 1, A1, c1, by go_num, by rw [HS.out], by omega, by rw [HS.out]; exact HO.out, hb⟩
            case measure => simp [intOf]; omega
          · rw [hq] at hs
            simp only [if_true] at hs
            have HS := Lib.hid hs
            have HQ := Lib.hid hq
            clear hs hq
            have hlen2 : (ftL d n l k p i).length ≤ 1073741824 := Nat.le_trans (ftL_len _ _ _ _ _ _) (by omega)
            go_wp2_with fail
            refine (c_l02Free w.heap.size (w.heap.size + 1) n A c l d k i _ ((h.below B1).below hb) (F1.out.below hb) (D1.out.below hb) hr hn2 hn96 hkn hlt hl32 (HRD.out i hlt)).mono ?_
            rintro z w3 ⟨rfl, rfl⟩
            rw [HQ.out]
            have hown2 := (HO.out).alloc (.cells #[.int .i64 (i : Int)] 2)
            have B3 := balloc (hb) (.cells #[.int .i64 (i : Int)] 2)
            have hbs := B3.size
            have z1 := cell_new wr #[.int .i64 (i : Int)] 2 (i := 0) rfl
            go_wp2_with (at_builtin; refine append_int rfl (.tmp 48) (.tmp 50) 57 rfl 2 .i64 8 Tryz.underlying57 info_i64 (by decide) w1.heap.size _ _ rfl hown2 _ _ ((i : Int)) rfl z1 hlen2 hbs ?_; intro A3 c3 w4 ho3 hg3)
            have B4 := bgrown B3 hg3 (fun j hj => hown2.low hj)
            go_roundw
            case rel => exact ⟨i + 1, A3, c3, by go_num, by rw [HS.out, List.length_append]; rfl, by omega, by rw [HS.out]; rw [List.length_append] at ho3; exact ho3, B4⟩
            case measure => simp [intOf]; omega
      · obtain rfl : i = l.length := by omega
        go_wp2
        go_ret2
        rw [HM.out]
        refine ⟨A1, c1, ?_, HO.out.base_le B1.size, bstep B1 hb⟩
        rw [HX.out]; rfl
  · have HM := Lib.hid (show rFT s l d k p = [] by unfold rFT; rw [if_neg hx])
    by_cases hx1 : cP s l d k 0 = 0
    · have hx2 : inB p 0 47 = false := by
        cases h2 : inB p 0 47 with
        | false => rfl
        | true => exact absurd (by unfold cFT; rw [if_pos hx1, h2]; rfl) hx
      have HC := Lib.hid (show cFT s l d k p = 2 by unfold cFT; rw [if_pos hx1, hx2]; rfl)
      have HX1 := Lib.hid hx1
      have HX2 := Lib.hid hx2
      clear hx hx1 hx2
      go_enter Tryz.func24, Tryz.ntmps24
      go_wp2_with fail
      refine (c_l02Place w.heap.size (w.heap.size + 1) s A c l d _ _ _ V0.out (h.below B) V1.out hs hl hn).mono ?_
      rintro e w1 ⟨rfl, b1⟩
      rw [HX1.out]
      have B1 := bstep B b1
      go_wp2_with fail
      refine (c_l00In _ _ _ _).mono ?_
      rintro e w' ⟨rfl, rfl⟩
      rw [HX2.out]
      go_wp2
      go_ret2
      rw [HM.out]
      refine ⟨_, _, ?_, Own1.lit0 B1.size, balloc B1 _⟩
      rw [HC.out]; rfl
    · obtain ⟨q, hq⟩ : ∃ q, cP s l d k 0 = q := ⟨_, rfl⟩
      have HC := Lib.hid (show cFT s l d k p = q by unfold cFT; rw [if_neg hx1, hq])
      rw [hq] at hx1
      have HQ := Lib.hid hq
      have hx2 : (q == 0) = false := by simpa using hx1
      clear hx hx1 hq
      go_enter Tryz.func24, Tryz.ntmps24
      go_wp2_with fail
      refine (c_l02Place w.heap.size (w.heap.size + 1) s A c l d _ _ _ V0.out (h.below B) V1.out hs hl hn).mono ?_
      rintro e w1 ⟨rfl, b1⟩
      rw [HQ.out]
      have B1 := bstep B b1
      go_wp2
      go_ret2
      rw [HM.out]
      refine ⟨_, _, ?_, Own1.lit0 B1.size, balloc B1 _⟩
      rw [HC.out]; rfl

theorem c_pitch (n : Nat) (A : Option Addr) (c : Nat) (l : List (Int × Int)) (i : Nat) (w : World) (h : At2 .i8 .i8 w A l) (hi : i < l.length) (hl : Whs l) :
    Calls Tryz.prog 85 #[.agg #[.int .i16 (n : Int), .slice A l.length c], .int .i64 (i : Int)] w fun e w' => e = .returned (.int .i64 l[i].1) ∧ Below w.heap.size w w' := by
  have hu2 := Tryz.underlying27
  obtain ⟨b, off, rfl, hbl, hc⟩ := h.get (by omega)
  have f3 := (World.cell?_alloc_lt w (.cells #[.int .i16 (n : Int), .slice (some ⟨b, off, none⟩) l.length c] 27) ⟨b, off + i * 2, none⟩ hbl).trans (hc i hi).1
  obtain ⟨m1, m2, _, _⟩ := hl.get hi
  have m3 : IntKind.i64.wrap l[i].1 = l[i].1 := IntWalk.i64_in _ (by omega)
  have j1 : (0 : Int) ≤ (i : Int) := by omega
  have j2 : (i : Int) < (l.length : Int) := by omega
  clear hc
  go_enter Tryz.func85, Tryz.ntmps85
  go_wp2
  go_ret
  exact ⟨rfl, balloc (Below.refl _ _) _⟩

set_option maxHeartbeats 1000000 in
theorem c_freeTracks (bd n : Nat) (A : Option Addr) (c : Nat) (l : List (Int × Int)) (d : List Int) (k : Nat) (p : Int) (w : World) (h : At2 .i8 .i8 w A l) (hd : DrumAt w bd d) (hr : Wd d) (hn2 : 2 ≤ n) (hn96 : n ≤ 96) (hkn : k < n) (hl32 : l.length ≤ 32) (hl : Whs l) :
    Calls Tryz.prog 56 #[.agg #[.int .i16 (n : Int), .slice A l.length c], .pointer (some ⟨bd, 0, none⟩), .int .i64 (k : Int), .int .i64 p] w fun e w' => ∃ A' c', e = .returned (.slice A' (ftL d n l k p l.length).length c') ∧ Own1 .i64 2 w' w.heap.size (.slice A' (ftL d n l k p l.length).length c') (ftL d n l k p l.length) ∧ Below w.heap.size w w' := by
  have hu2 := Tryz.underlying27
  have v0 := Var.new w #[.int .i16 (n : Int), .slice A l.length c] 27
  have B0 := balloc (Below.refl _ w) (.cells #[.int .i16 (n : Int), .slice A l.length c] 27)
  obtain ⟨w1, hw1⟩ : ∃ x, x = w.alloc (.cells #[.int .i16 (n : Int), .slice A l.length c] 27) := ⟨_, rfl⟩
  have D1 := Lib.hid (hd.alloc (.cells #[.int .i16 (n : Int), .slice A l.length c] 27))
  rw [← hw1] at v0 B0 D1
  have B1 := B0
  have F1 := Lib.hid v0
  have f0 := (v0.below (balloc (Below.refl _ w1) (.cells #[] 2))).cell (i := 1) rfl
  have HW := Lib.hid hw1
  clear v0 hd B0
  go_enter Tryz.func56, Tryz.ntmps56
  go_upto_region 1 with fail
  try simp only [Act.put, List.setIfInBounds_toArray, List.set_cons_zero, List.set_cons_succ]
  rw [← hw1]
  clear hw1
  go_wp2_with (go_at_call 80; refine (c_size _ _ _ _).mono ?_; rintro e w' ⟨rfl, rfl⟩)
  clear f0
  go_loopw [9, 15] (fun v i w' => ∃ (i' : Nat) (A' : Option Addr) (c' : Nat), i = .int .i64 (i' : Int) ∧ v = .slice A' (ftL d n l k p i').length c' ∧ i' ≤ l.length ∧ Own1 .i64 2 w' w1.heap.size v (ftL d n l k p i') ∧ Below w1.heap.size w1 w') (fun _ i _ => l.length - (intOf i).toNat)
  case atStart => exact ⟨0, _, _, rfl, by rw [ftL_zero]; rfl, by omega, by rw [ftL_zero]; exact Own1.lit0 (Nat.le_refl _), balloc (Below.refl _ _) _⟩
  case round =>
    obtain ⟨i, A1, c1, rfl, rfl, hi, hown, hb⟩ := hrel
    have HO := Lib.hid hown
    clear hown
    have f1 := (F1.out.below hb).cell (i := 0) rfl
    have f2 := (F1.out.below hb).cell (i := 1) rfl
    by_cases hlt : i < l.length
    · have hs := ftL_succ d n l k p i
      rw [ftB_at hlt] at hs
      obtain ⟨m1, m2, _, _⟩ := hl.get hlt
      have m3 : IntKind.i64.wrap l[i].1 = l[i].1 := IntWalk.i64_in _ (by omega)
      have j1 : (0 : Int) ≤ (i : Int) := by omega
      have j2 : (i : Int) < (l.length : Int) := by omega
      rcases he : (l[i].1 == p) with _ | _
      · have he2 : decide (l[i].1 = p) = false := by simpa using he
        rw [he2, Bool.false_and] at hs
        simp only [Bool.false_eq_true, if_false, List.append_nil] at hs
        have HS := Lib.hid hs
        clear hs he2
        go_wp2_with fail
        refine (c_pitch n A c l i _ ((h.below B1).below hb) hlt hl).mono ?_
        rintro z w2 ⟨rfl, b2⟩
        have q1 := (F1.out.below (bstep hb b2)).cell (i := 0) rfl
        have q2 := (F1.out.below (bstep hb b2)).cell (i := 1) rfl
        go_wp2
        go_roundw
        case rel => exact ⟨i + 1, A1, c1, by go_num, by rw [HS.out], by omega, by rw [HS.out]; exact HO.out.below b2, bstep hb b2⟩
        case measure => simp [intOf]; omega
      · have he2 : decide (l[i].1 = p) = true := by simpa using he
        rw [he2, Bool.true_and] at hs
        clear he2
        rcases hq : frB d n l k i with _ | _
        · rw [hq] at hs
          simp only [Bool.false_eq_true, if_false, List.append_nil] at hs
          have HS := Lib.hid hs
          have HQ := Lib.hid hq
          clear hs hq
          go_wp2_with fail
          refine (c_pitch n A c l i _ ((h.below B1).below hb) hlt hl).mono ?_
          rintro z w2 ⟨rfl, b2⟩
          have q1 := (F1.out.below (bstep hb b2)).cell (i := 0) rfl
          have q2 := (F1.out.below (bstep hb b2)).cell (i := 1) rfl
          go_wp2_with fail
          refine (c_isFree bd n A c l d k i _ (((h.below B1).below hb).below b2) ((D1.out.below hb).below b2) hr hn2 hn96 hkn hlt hl32 hl).mono ?_
          rintro z w3 ⟨rfl, b3⟩
          rw [HQ.out]
          go_wp2
          go_roundw
          case rel => exact ⟨i + 1, A1, c1, by go_num, by rw [HS.out], by omega, by rw [HS.out]; exact (HO.out.below b2).below b3, bstep (bstep hb b2) b3⟩
          case measure => simp [intOf]; omega
        · rw [hq] at hs
          simp only [if_true] at hs
          have HS := Lib.hid hs
          have HQ := Lib.hid hq
          clear hs hq
          have hlen2 : (ftL d n l k p i).length ≤ 1073741824 := Nat.le_trans (ftL_len _ _ _ _ _ _) (by omega)
          go_wp2_with fail
          refine (c_pitch n A c l i _ ((h.below B1).below hb) hlt hl).mono ?_
          rintro z w2 ⟨rfl, b2⟩
          have q1 := (F1.out.below (bstep hb b2)).cell (i := 0) rfl
          have q2 := (F1.out.below (bstep hb b2)).cell (i := 1) rfl
          go_wp2_with fail
          refine (c_isFree bd n A c l d k i _ (((h.below B1).below hb).below b2) ((D1.out.below hb).below b2) hr hn2 hn96 hkn hlt hl32 hl).mono ?_
          rintro z w3 ⟨rfl, b3⟩
          rw [HQ.out]
          have hown2 := ((HO.out.below b2).below b3).alloc (.cells #[.int .i64 (i : Int)] 2)
          have B3 := balloc (bstep (bstep hb b2) b3) (.cells #[.int .i64 (i : Int)] 2)
          have hbs := B3.size
          have z1 := cell_new w3 #[.int .i64 (i : Int)] 2 (i := 0) rfl
          go_wp2_with (at_builtin; refine append_int rfl (.tmp 30) (.tmp 32) 57 rfl 2 .i64 8 Tryz.underlying57 info_i64 (by decide) w1.heap.size _ _ rfl hown2 _ _ ((i : Int)) rfl z1 hlen2 hbs ?_; intro A3 c3 w4 ho3 hg3)
          have B4 := bgrown B3 hg3 (fun j hj => hown2.low hj)
          go_roundw
          case rel => exact ⟨i + 1, A3, c3, by go_num, by rw [HS.out, List.length_append]; rfl, by omega, by rw [HS.out]; rw [List.length_append] at ho3; exact ho3, B4⟩
          case measure => simp [intOf]; omega
    · obtain rfl : i = l.length := by omega
      go_wp2
      go_ret
      exact ⟨A1, c1, rfl, HO.out.base_le B1.size, bstep B1 hb⟩

theorem c_implFreeTracks (s : Int) (A : Option Addr) (c : Nat) (l : List (Int × Int)) (d : List Int) (k p : Int) (w : World) (h : At2 .i8 .i8 w A l) (hs : W16 s) (hl : Whs l) (hn : l.length ≤ 1073741824) (hd : d.length = 96) (hr : ∀ x ∈ d, 0 ≤ x ∧ x ≤ 4294967295) (hbk : -9223372036854775808 ≤ k ∧ k ≤ 9223372036854775807) (hbp : -9223372036854775808 ≤ p ∧ p ≤ 9223372036854775807) :
    Calls Tryz.prog 23 #[.agg #[.int .i16 s, .slice A l.length c], .agg (drumV d), .int .i64 k, .int .i64 p] w fun e w' => ∃ A' c', e = .returned (.tuple #[.slice A' (rFT s l d k p).length c', .int .i64 (cFT s l d k p)]) ∧ Own1 .i64 2 w' w.heap.size (.slice A' (rFT s l d k p).length c') (rFT s l d k p) ∧ Below w.heap.size w w' := by
  have hu2 := Tryz.underlying27
  have v0 : Var ((w.alloc (.cells #[.int .i16 s, .slice A l.length c] 27)).alloc (.cells (drumV d) 31)) w.heap.size #[.int .i16 s, .slice A l.length c] 27 := (Var.new w _ _).old _
  have v1 : Var ((w.alloc (.cells #[.int .i16 s, .slice A l.length c] 27)).alloc (.cells (drumV d) 31)) (w.heap.size + 1) (drumV d) 31 := by simpa using Var.new (w.alloc (.cells #[.int .i16 s, .slice A l.length c] 27)) (drumV d) 31
  have B : Below w.heap.size w ((w.alloc (.cells #[.int .i16 s, .slice A l.length c] 27)).alloc (.cells (drumV d) 31)) := balloc (balloc (Below.refl _ w) _) _
  have V0 := Lib.hid v0
  have V1 := Lib.hid v1
  clear v0 v1
  have HU := Lib.hid (show (if cP s l d k 0 = 0 then (if inB p 0 47 = true then (0 : Int) else 2) else cP s l d k 0) = cFT s l d k p by unfold cFT; rfl)
  by_cases hx : cFT s l d k p = 0
  · obtain ⟨hx1, hx2⟩ := cFT_zero hx
    obtain ⟨hf, hdd, ⟨a1, a2⟩, _⟩ := cP_zero hx1
    obtain ⟨⟨s1, s2⟩, ⟨n1, n2⟩, _⟩ := okF_iff.1 hf
    obtain ⟨n, rfl⟩ := Int.eq_ofNat_of_zero_le (show 0 ≤ s by omega)
    obtain ⟨k, rfl⟩ := Int.eq_ofNat_of_zero_le a1
    have HRD := Lib.hid (fun (i : Nat) (hi : i < l.length) => show 1 ≤ l[i].2 ∧ l[i].2 ≤ (n : Int) from ⟨(okF_get hf hi).2.1, (okF_get hf hi).2.2.2⟩)
    have HM := Lib.hid (show rFT (n : Int) l d (k : Int) p = ftL d n l k p l.length by unfold rFT; rw [if_pos hx, Int.toNat_natCast, Int.toNat_natCast])
    have hn96 : n ≤ 96 := by omega
    have hn2 : 2 ≤ n := by omega
    have hkn : k < n := by omega
    have hl32 : l.length ≤ 32 := by omega
    have HX := Lib.hid hx
    have HX1 := Lib.hid hx1
    have HX2 := Lib.hid hx2
    clear hx hx1 hx2 hf hdd a1 a2 s1 s2 n1 n2 hbk hbp
    clear HRD HX1 HX2
    go_enter Tryz.func23, Tryz.ntmps23
    go_wp2_with (refine wpList_loadD (by rfl) rfl V1.out rfl Tryz.underlying31 size_Drum hd ?_)
    refine (c_placeCode (n : Int) A c l d _ _ _ (h.below B) hs hl hn hd).mono ?_
    rintro e w1 ⟨rfl, b1⟩
    go_wp2_with fail
    refine (c_isPitch _ _).mono ?_
    rintro e w' ⟨rfl, rfl⟩
    go_wp2_with fail
    refine (c_unlessD _ _ _).mono ?_
    rintro e w' ⟨rfl, rfl⟩
    obtain ⟨u, hu⟩ : ∃ u : Int, (if inB p 0 47 = true then (0 : Int) else 2) = u := ⟨_, rfl⟩
    rw [hu] at HU ⊢
    clear hu
    obtain ⟨q, hq⟩ : ∃ q : Int, cP (n : Int) l d (k : Int) 0 = q := ⟨_, rfl⟩
    rw [hq] at HU ⊢
    clear hq
    go_wp2_with fail
    refine (c_firstOfD_two _ _ _ _).mono ?_
    rintro e w2 ⟨rfl, b2⟩
    rw [HU.out, HX.out]
    have b12 := bstep b1 b2
    have F1 := Lib.hid (V0.out.below b12)
    have D1 := Lib.hid (V1.out.below b12)
    have B1 := bstep B b12
    clear b1 b2 b12
    have f1 := F1.out.cell (i := 0) rfl
    have f2 := F1.out.cell (i := 1) rfl
    go_wp2_with fail
    refine (c_freeTracks (w.heap.size + 1) n A c l d k p _ (h.below B1) (D1.out.drum hd) hr hn2 hn96 hkn hl32 hl).mono ?_
    rintro e w3 ⟨A', c', rfl, ho, b3⟩
    have HO := Lib.hid ho
    clear ho f1 f2
    go_wp2
    go_ret2
    rw [HM.out]
    refine ⟨A', c', ?_, HO.out.base_le B1.size, bstep B1 b3⟩
    rw [HX.out]; rfl
  · have HM := Lib.hid (show rFT s l d k p = [] by unfold rFT; rw [if_neg hx])
    obtain ⟨r, hrr⟩ : ∃ r, cFT s l d k p = r := ⟨_, rfl⟩
    rw [hrr] at HU hx ⊢
    have hx2 : (r == 0) = false := by simpa using hx
    clear hrr hx
    go_enter Tryz.func23, Tryz.ntmps23
    go_wp2_with (refine wpList_loadD (by rfl) rfl V1.out rfl Tryz.underlying31 size_Drum hd ?_)
    refine (c_placeCode s A c l d _ _ _ (h.below B) hs hl hn hd).mono ?_
    rintro e w1 ⟨rfl, b1⟩
    go_wp2_with fail
    refine (c_isPitch _ _).mono ?_
    rintro e w' ⟨rfl, rfl⟩
    go_wp2_with fail
    refine (c_unlessD _ _ _).mono ?_
    rintro e w' ⟨rfl, rfl⟩
    obtain ⟨u, hu⟩ : ∃ u : Int, (if inB p 0 47 = true then (0 : Int) else 2) = u := ⟨_, rfl⟩
    rw [hu] at HU ⊢
    clear hu
    obtain ⟨q, hq⟩ : ∃ q : Int, cP s l d k 0 = q := ⟨_, rfl⟩
    rw [hq] at HU ⊢
    clear hq
    go_wp2_with fail
    refine (c_firstOfD_two _ _ _ _).mono ?_
    rintro e w2 ⟨rfl, b2⟩
    rw [HU.out]
    have B1 := bstep B (bstep b1 b2)
    go_wp2
    go_ret2
    rw [HM.out]
    exact ⟨none, 0, rfl, Own1.nil _ _ _ _, B1⟩

end Go.Proofs.YtnakdlfjjeligaaGreat
