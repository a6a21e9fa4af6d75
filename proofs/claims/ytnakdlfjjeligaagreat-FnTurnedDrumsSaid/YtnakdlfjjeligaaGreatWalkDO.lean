/-
  The walks of TurnDrum, in the reference and in the program.
-/
import Derived.Test.YtnakdlfjjeligaaGreatWalkDJ
import Derived.Test.YtnakdlfjjeligaaGreatData
namespace Go.Proofs.YtnakdlfjjeligaaGreat
open Go.RowKit
set_option linter.unusedVariables false
set_option linter.unusedSimpArgs false
set_option maxRecDepth 4000

set_option maxHeartbeats 800000 in
theorem c_specTurnDrum (s : Int) (A : Option Addr) (c : Nat) (l : List (Int × Int)) (d : List Int) (b : Int) (w : World) (h : At2 .i8 .i8 w A l) (hs : W16 s) (hl : Whs l) (hn : l.length ≤ 1073741824) (hd : d.length = 96) (hr : ∀ x ∈ d, 0 ≤ x ∧ x ≤ 4294967295) (hbb : -9223372036854775808 ≤ b ∧ b ≤ 9223372036854775807) :
    Calls Tryz.prog 9 #[.agg #[.int .i16 s, .slice A l.length c], .agg (drumV d), .int .i64 b] w fun e w' => e = .returned (.tuple #[.agg (drumV (rTurn s l d b)), .int .i64 (cP s l d b 0)]) ∧ Below w.heap.size w w' := by
  have v0 : FrameAt (((w.alloc (.cells #[.int .i16 s, .slice A l.length c] 27)).alloc (.cells (drumV d) 31)).alloc (.cells (drumV zD) 31)) w.heap.size s A c l := ((FrameAt.box _).alloc _).alloc _
  have v1 : DrumAt (((w.alloc (.cells #[.int .i16 s, .slice A l.length c] 27)).alloc (.cells (drumV d) 31)).alloc (.cells (drumV zD) 31)) (w.heap.size + 1) d := by simpa using (DrumAt.box (w := w.alloc (.cells #[.int .i16 s, .slice A l.length c] 27)) 31 hd).alloc (.cells (drumV zD) 31)
  have v2 : Var (((w.alloc (.cells #[.int .i16 s, .slice A l.length c] 27)).alloc (.cells (drumV d) 31)).alloc (.cells (drumV zD) 31)) (w.heap.size + 1 + 1) (drumV zD) 31 := by simpa using Var.new ((w.alloc (.cells #[.int .i16 s, .slice A l.length c] 27)).alloc (.cells (drumV d) 31)) (drumV zD) 31
  have B : Below w.heap.size w (((w.alloc (.cells #[.int .i16 s, .slice A l.length c] 27)).alloc (.cells (drumV d) 31)).alloc (.cells (drumV zD) 31)) := balloc (balloc (balloc (Below.refl _ w) _) _) _
  have V0 := Lib.hid v0
  have V1 := Lib.hid v1
  have V2 := Lib.hid v2
  clear v0 v1 v2
  by_cases hx : cP s l d b 0 = 0
  · obtain ⟨hf, hdd, ⟨a1, a2⟩, _⟩ := cP_zero hx
    obtain ⟨⟨s1, s2⟩, _, _⟩ := okF_iff.1 hf
    obtain ⟨n, rfl⟩ := Int.eq_ofNat_of_zero_le (show 0 ≤ s by omega)
    obtain ⟨q, rfl⟩ := Int.eq_ofNat_of_zero_le a1
    have HM := Lib.hid (show turnS n q d n = rTurn (n : Int) l d (q : Int) by unfold rTurn; rw [if_pos hx, Int.toNat_natCast, Int.toNat_natCast])
    have hn96 : n ≤ 96 := by omega
    have hn2 : 2 ≤ n := by omega
    have hqn : q < n := by omega
    have HX := Lib.hid hx
    clear hx hf hdd s1 s2 a1 a2 hbb
    go_enter Tryz.func9, Tryz.ntmps9
    go_wp2_with (refine wpList_alloc_row rfl 31 rfl (.agg (drumV zD)) zero_Drum ?_)
    refine (c_l02Place w.heap.size (w.heap.size + 1) (n : Int) A c l d _ _ _ V0.out (h.below B) V1.out hs hl hn).mono ?_
    rintro e w1 ⟨rfl, b1⟩
    rw [HX.out]
    have F1 := Lib.hid (V0.out.below b1)
    have D1 := Lib.hid (V1.out.below b1)
    have R1 := Lib.hid (V2.out.below b1)
    have B1 := bstep B b1
    clear b1
    have V3 := Lib.hid (Var.new w1 (drumV zD) 31)
    have V4 := Lib.hid (V3.out.row (drumV zD))
    have B4 : Below w1.heap.size w1 ((w1.alloc (.cells (drumV zD) 31)).setRow w1.heap.size (drumV zD)) := brow (balloc (Below.refl _ _) _) (Nat.le_refl _) _
    have f1 := (F1.out.below B4).2.1
    go_wp2_with (first | (refine wpList_bz (by rfl) rfl Tryz.underlying31 zero_Drum size_u32 ?_) | (refine wpList_alloc_row rfl 31 rfl (.agg (drumV zD)) zero_Drum ?_) | (refine wpList_storeD rfl rfl V3.out rfl rfl size_Drum zD_len zD_len ?_))
    go_loopw [11] (fun i w' => ∃ k : Nat, i = .int .i64 k ∧ k ≤ n ∧ Var w' w1.heap.size (drumV (turnS n q d k)) 31 ∧ Below w1.heap.size w1 w') (fun i _ => n - (intOf i).toNat)
    case atStart => exact ⟨0, rfl, by omega, V4.out, B4⟩
    case round =>
      obtain ⟨k, rfl, hk, hv, hb⟩ := hrel
      have HV := Lib.hid hv
      clear hv
      by_cases hlt : k < n
      · have hlt1 : k < d.length := by omega
        obtain ⟨j, hj⟩ : ∃ j : Nat, (k + q) % n = j := ⟨_, rfl⟩
        have hjn : j < n := by rw [← hj]; exact Nat.mod_lt _ (by omega)
        have x1 : ∀ x : After wr, _ := fun x => ((D1.out.below hb).below x.below).2.2 k hlt1
        have x3 : ∀ x : After wr, _ := fun x => ((F1.out.below hb).below x.below).2.1
        have h1 : (0 : Int) ≤ (k : Int) := by omega
        have h2 : (k : Int) < 96 := by omega
        have h3 : (0 : Int) ≤ (j : Int) := by omega
        have h4 : (j : Int) < 96 := by omega
        have hw1 : IntKind.i64.wrap ((k : Int) + (q : Int)) = (k : Int) + (q : Int) := IntWalk.i64_in _ (by omega)
        have hw2 : ((k : Int) + (q : Int)).tmod (n : Int) = (j : Int) := by
          rw [Int.tmod_eq_emod_of_nonneg (by omega), ← hj]; push_cast; rfl
        have hn0 : ((n : Int) == 0) = false := by simp; omega
        have hjl : j < (turnS n q d k).length := by rw [turnS_len]; omega
        have HJ := Lib.hid hjl
        have HST := Lib.hid (show (turnS n q d k).set j d[k] = turnS n q d (k + 1) by
          subst hj; simp only [turnS]; rw [List.getD_eq_getElem?_getD, List.getElem?_eq_getElem hlt1]; rfl)
        clear hj hjl hjn
        go_wp2
        refine region_tail 8 (by kernel_rfl) (by kernel_rfl) ?_
        simp only [List.take_succ_cons, List.take_zero, List.drop_succ_cons, List.drop_zero]
        repeat (go_big_quiet_step (fail))
        refine wpQuiet_nil ?_
        intro w2 hb2
        clear x1 x3
        have y1 := (HV.out.below hb2).cell (drumV_get HJ.out)
        have y2 := (HV.out.below hb2).frozen j
        go_wp2
        go_roundw
        case rel =>
          refine ⟨k + 1, by go_num, by omega, ?_, bset (bstep hb hb2) (by simp) _⟩
          have := (HV.out.below hb2).set j (.int .u32 d[k])
          rw [drumV_set, HST.out] at this
          exact this
        case measure => simp [intOf]; omega
      · obtain rfl : k = n := by omega
        have HL := Lib.hid (turnS_len k q d k)
        go_wp2_with (first | (refine wpList_loadD (by rfl) rfl HV.out rfl Tryz.underlying31 size_Drum HL.out ?_) | (refine wpList_storeD rfl rfl (R1.out.below hb) rfl rfl size_Drum HL.out zD_len ?_))
        refine bodyPost_ret (results_drum_int Tryz.results9 _ _ (w.heap.size + 1 + 1) 31 (turnS k q d k) rfl ((R1.out.below hb).row _) Tryz.underlying31 size_Drum HL.out) rfl ⟨?_, brow (bstep B1 hb) (by omega) _⟩
        rw [HM.out, HX.out]; rfl
  · obtain ⟨p, hp⟩ : ∃ p, cP s l d b 0 = p := ⟨_, rfl⟩
    have HM := Lib.hid (show rTurn s l d b = zD by unfold rTurn; rw [if_neg hx])
    rw [hp] at hx ⊢
    have HP := Lib.hid hp
    have hx2 : (p == 0) = false := by simpa using hx
    clear hp hx
    go_enter Tryz.func9, Tryz.ntmps9
    go_wp2_with (refine wpList_alloc_row rfl 31 rfl (.agg (drumV zD)) zero_Drum ?_)
    refine (c_l02Place w.heap.size (w.heap.size + 1) s A c l d _ _ _ V0.out (h.below B) V1.out hs hl hn).mono ?_
    rintro e w1 ⟨rfl, b1⟩
    rw [HP.out]
    have R1 := Lib.hid (V2.out.below b1)
    have B1 := bstep B b1
    clear b1
    go_wp2_with (first | (refine wpList_bz (by rfl) rfl Tryz.underlying31 zero_Drum size_u32 ?_) | (refine wpList_storeD rfl rfl R1.out rfl rfl size_Drum zD_len zD_len ?_))
    refine bodyPost_ret (results_drum_int Tryz.results9 _ _ (w.heap.size + 1 + 1) 31 zD rfl (R1.out.row _) Tryz.underlying31 size_Drum zD_len) rfl ⟨?_, brow B1 (by omega) _⟩
    rw [HM.out]; rfl

set_option maxHeartbeats 800000 in
theorem c_turned (n : Nat) (A : Option Addr) (c : Nat) (l : List (Int × Int)) (d : List Int) (q : Nat) (w : World) (hd : d.length = 96) (hn96 : n ≤ 96) (hn2 : 2 ≤ n) (hqn : q < n) :
    Calls Tryz.prog 34 #[.agg #[.int .i16 (n : Int), .slice A l.length c], .agg (drumV d), .int .i64 (q : Int)] w fun e w' => e = .returned (.agg (drumV (turnS n q d n))) ∧ Below w.heap.size w w' := by
  obtain ⟨s, hs⟩ : ∃ s : Int, s = (n : Int) := ⟨_, rfl⟩
  rw [← hs]
  have v0 : FrameAt (((w.alloc (.cells #[.int .i16 s, .slice A l.length c] 27)).alloc (.cells (drumV d) 31)).alloc (.cells (drumV zD) 31)) w.heap.size s A c l := ((FrameAt.box _).alloc _).alloc _
  have v1 : DrumAt (((w.alloc (.cells #[.int .i16 s, .slice A l.length c] 27)).alloc (.cells (drumV d) 31)).alloc (.cells (drumV zD) 31)) (w.heap.size + 1) d := by simpa using (DrumAt.box (w := w.alloc (.cells #[.int .i16 s, .slice A l.length c] 27)) 31 hd).alloc (.cells (drumV zD) 31)
  have v2 : Var (((w.alloc (.cells #[.int .i16 s, .slice A l.length c] 27)).alloc (.cells (drumV d) 31)).alloc (.cells (drumV zD) 31)) (w.heap.size + 1 + 1) (drumV zD) 31 := by simpa using Var.new ((w.alloc (.cells #[.int .i16 s, .slice A l.length c] 27)).alloc (.cells (drumV d) 31)) (drumV zD) 31
  have B : Below w.heap.size w (((w.alloc (.cells #[.int .i16 s, .slice A l.length c] 27)).alloc (.cells (drumV d) 31)).alloc (.cells (drumV zD) 31)) := balloc (balloc (balloc (Below.refl _ w) _) _) _
  have V0 := Lib.hid v0
  have V1 := Lib.hid v1
  have V2 := Lib.hid v2
  clear v0 v1 v2
  subst hs
  go_enter Tryz.func34, Tryz.ntmps34
  have v3 : Var ((((w.alloc (.cells #[.int .i16 (n : Int), .slice A l.length c] 27)).alloc (.cells (drumV d) 31)).alloc (.cells (drumV zD) 31)).alloc (.cells (drumV zD) 31)) (w.heap.size + 1 + 1 + 1) (drumV zD) 31 := by simpa using Var.new (((w.alloc (.cells #[.int .i16 (n : Int), .slice A l.length c] 27)).alloc (.cells (drumV d) 31)).alloc (.cells (drumV zD) 31)) (drumV zD) 31
  have V3 := Lib.hid v3
  clear v3
  have V3r := Lib.hid (Var.new (((w.alloc (.cells #[.int .i16 (n : Int), .slice A l.length c] 27)).alloc (.cells (drumV d) 31)).alloc (.cells (drumV zD) 31)) (drumV zD) 31)
  have V4 := Lib.hid (V3.out.row (drumV zD))
  have hsz : (((w.alloc (.cells #[.int .i16 (n : Int), .slice A l.length c] 27)).alloc (.cells (drumV d) 31)).alloc (.cells (drumV zD) 31)).heap.size = w.heap.size + 1 + 1 + 1 := by simp
  have B4 : Below (((w.alloc (.cells #[.int .i16 (n : Int), .slice A l.length c] 27)).alloc (.cells (drumV d) 31)).alloc (.cells (drumV zD) 31)).heap.size (((w.alloc (.cells #[.int .i16 (n : Int), .slice A l.length c] 27)).alloc (.cells (drumV d) 31)).alloc (.cells (drumV zD) 31)) (((((w.alloc (.cells #[.int .i16 (n : Int), .slice A l.length c] 27)).alloc (.cells (drumV d) 31)).alloc (.cells (drumV zD) 31)).alloc (.cells (drumV zD) 31)).setRow (w.heap.size + 1 + 1 + 1) (drumV zD)) := brow (balloc (Below.refl _ _) _) (by simp) _
  have f1 := (V0.out.below B4).2.1
  have F1 := V0
  have D1 := V1
  have R1 := V2
  have B1 := B
  obtain ⟨w1, hw1⟩ : ∃ x, x = (((w.alloc (.cells #[.int .i16 (n : Int), .slice A l.length c] 27)).alloc (.cells (drumV d) 31)).alloc (.cells (drumV zD) 31)) := ⟨_, rfl⟩
  rw [← hw1] at F1 D1 R1 B1 hsz
  clear V0 V1 V2 B
  go_wp2_with (first | (refine wpList_bz (by rfl) rfl Tryz.underlying31 zero_Drum size_u32 ?_) | (refine wpList_alloc_row rfl 31 rfl (.agg (drumV zD)) zero_Drum ?_) | (refine wpList_storeD rfl rfl V3r.out rfl rfl size_Drum zD_len zD_len ?_))
  go_loopw [13] (fun i w' => ∃ k : Nat, i = .int .i64 k ∧ k ≤ n ∧ Var w' (w.heap.size + 1 + 1 + 1) (drumV (turnS n q d k)) 31 ∧ Below w1.heap.size w1 w') (fun i _ => n - (intOf i).toNat)
  case atStart => exact ⟨0, rfl, by omega, V4.out, by rw [hw1]; exact B4⟩
  case round =>
    obtain ⟨k, rfl, hk, hv, hb⟩ := hrel
    have HV := Lib.hid hv
    clear hv
    by_cases hlt : k < n
    · have hlt1 : k < d.length := by omega
      obtain ⟨j, hj⟩ : ∃ j : Nat, (k + q) % n = j := ⟨_, rfl⟩
      have hjn : j < n := by rw [← hj]; exact Nat.mod_lt _ (by omega)
      have x1 : ∀ x : After wr, _ := fun x => ((D1.out.below hb).below x.below).2.2 k hlt1
      have x3 : ∀ x : After wr, _ := fun x => ((F1.out.below hb).below x.below).2.1
      have h1 : (0 : Int) ≤ (k : Int) := by omega
      have h2 : (k : Int) < 96 := by omega
      have h3 : (0 : Int) ≤ (j : Int) := by omega
      have h4 : (j : Int) < 96 := by omega
      have hw1 : IntKind.i64.wrap ((k : Int) + (q : Int)) = (k : Int) + (q : Int) := IntWalk.i64_in _ (by omega)
      have hw2 : ((k : Int) + (q : Int)).tmod (n : Int) = (j : Int) := by
        rw [Int.tmod_eq_emod_of_nonneg (by omega), ← hj]; push_cast; rfl
      have hn0 : ((n : Int) == 0) = false := by simp; omega
      have hjl : j < (turnS n q d k).length := by rw [turnS_len]; omega
      have HJ := Lib.hid hjl
      have HST := Lib.hid (show (turnS n q d k).set j d[k] = turnS n q d (k + 1) by
        subst hj; simp only [turnS]; rw [List.getD_eq_getElem?_getD, List.getElem?_eq_getElem hlt1]; rfl)
      clear hj hjl hjn
      go_wp2
      refine region_tail 10 (by kernel_rfl) (by kernel_rfl) ?_
      simp only [List.take_succ_cons, List.take_zero, List.drop_succ_cons, List.drop_zero]
      repeat (go_big_quiet_step (fail))
      refine wpQuiet_nil ?_
      intro w2 hb2
      clear x1 x3
      have y1 := (HV.out.below hb2).cell (drumV_get HJ.out)
      have y2 := (HV.out.below hb2).frozen j
      go_wp2
      go_roundw
      case rel =>
        refine ⟨k + 1, by go_num, by omega, ?_, bset (bstep hb hb2) (by show _ ≤ w.heap.size + 1 + 1 + 1; omega) _⟩
        have := (HV.out.below hb2).set j (.int .u32 d[k])
        rw [drumV_set, HST.out] at this
        exact this
      case measure => simp [intOf]; omega
    · obtain rfl : k = n := by omega
      have HL := Lib.hid (turnS_len k q d k)
      go_wp2_with (first | (refine wpList_loadD (by rfl) rfl HV.out rfl Tryz.underlying31 size_Drum HL.out ?_) | (refine wpList_storeD rfl rfl (R1.out.below hb) rfl rfl size_Drum HL.out zD_len ?_))
      refine bodyPost_ret (results_cell_drum Tryz.results34 _ _ (w.heap.size + 1 + 1) 31 (turnS k q d k) rfl ((R1.out.below hb).row _) Tryz.underlying31 size_Drum HL.out) rfl ⟨rfl, brow (bstep B1 hb) (by omega) _⟩

set_option maxHeartbeats 800000 in
theorem c_implTurnDrum (s : Int) (A : Option Addr) (c : Nat) (l : List (Int × Int)) (d : List Int) (b : Int) (w : World) (h : At2 .i8 .i8 w A l) (hs : W16 s) (hl : Whs l) (hn : l.length ≤ 1073741824) (hd : d.length = 96) (hr : ∀ x ∈ d, 0 ≤ x ∧ x ≤ 4294967295) (hbb : -9223372036854775808 ≤ b ∧ b ≤ 9223372036854775807) :
    Calls Tryz.prog 8 #[.agg #[.int .i16 s, .slice A l.length c], .agg (drumV d), .int .i64 b] w fun e w' => e = .returned (.tuple #[.agg (drumV (rTurn s l d b)), .int .i64 (cP s l d b 0)]) ∧ Below w.heap.size w w' := by
  have hu2 := Tryz.underlying27
  have v0 : Var (((w.alloc (.cells #[.int .i16 s, .slice A l.length c] 27)).alloc (.cells (drumV d) 31)).alloc (.cells (drumV zD) 31)) w.heap.size #[.int .i16 s, .slice A l.length c] 27 := ((Var.new w _ _).old _).old _
  have v1 : Var (((w.alloc (.cells #[.int .i16 s, .slice A l.length c] 27)).alloc (.cells (drumV d) 31)).alloc (.cells (drumV zD) 31)) (w.heap.size + 1) (drumV d) 31 := by simpa using (Var.new (w.alloc (.cells #[.int .i16 s, .slice A l.length c] 27)) (drumV d) 31).old (.cells (drumV zD) 31)
  have v2 : Var (((w.alloc (.cells #[.int .i16 s, .slice A l.length c] 27)).alloc (.cells (drumV d) 31)).alloc (.cells (drumV zD) 31)) (w.heap.size + 1 + 1) (drumV zD) 31 := by simpa using Var.new ((w.alloc (.cells #[.int .i16 s, .slice A l.length c] 27)).alloc (.cells (drumV d) 31)) (drumV zD) 31
  have B : Below w.heap.size w (((w.alloc (.cells #[.int .i16 s, .slice A l.length c] 27)).alloc (.cells (drumV d) 31)).alloc (.cells (drumV zD) 31)) := balloc (balloc (balloc (Below.refl _ w) _) _) _
  have V0 := Lib.hid v0
  have V1 := Lib.hid v1
  have V2 := Lib.hid v2
  clear v0 v1 v2
  by_cases hx : cP s l d b 0 = 0
  · obtain ⟨hf, hdd, ⟨a1, a2⟩, _⟩ := cP_zero hx
    obtain ⟨⟨s1, s2⟩, _, _⟩ := okF_iff.1 hf
    obtain ⟨n, rfl⟩ := Int.eq_ofNat_of_zero_le (show 0 ≤ s by omega)
    obtain ⟨q, rfl⟩ := Int.eq_ofNat_of_zero_le a1
    have HM := Lib.hid (show turnS n q d n = rTurn (n : Int) l d (q : Int) by unfold rTurn; rw [if_pos hx, Int.toNat_natCast, Int.toNat_natCast])
    have hn96 : n ≤ 96 := by omega
    have hn2 : 2 ≤ n := by omega
    have hqn : q < n := by omega
    have HX := Lib.hid hx
    clear hx hf hdd s1 s2 a1 a2 hbb
    go_enter Tryz.func8, Tryz.ntmps8
    go_wp2_with (first | (refine wpList_alloc_row rfl 31 rfl (.agg (drumV zD)) zero_Drum ?_) | (refine wpList_loadD (by rfl) rfl V1.out rfl Tryz.underlying31 size_Drum hd ?_))
    refine (c_placeCode (n : Int) A c l d _ _ _ (h.below B) hs hl hn hd).mono ?_
    rintro e w1 ⟨rfl, b1⟩
    rw [HX.out]
    have F1 := Lib.hid (V0.out.below b1)
    have D1 := Lib.hid (V1.out.below b1)
    have R1 := Lib.hid (V2.out.below b1)
    have B1 := bstep B b1
    clear b1
    have f1 := F1.out.cell (i := 0) rfl
    have f2 := F1.out.cell (i := 1) rfl
    go_wp2_with (refine wpList_loadD (by rfl) rfl D1.out rfl Tryz.underlying31 size_Drum hd ?_)
    refine (c_turned n A c l d q _ hd hn96 hn2 hqn).mono ?_
    rintro e w2 ⟨rfl, b2⟩
    have R2 := Lib.hid (R1.out.below b2)
    have B2 := bstep B1 b2
    have HL := Lib.hid (turnS_len n q d n)
    clear f1 f2
    go_wp2_with (refine wpList_storeD rfl rfl R2.out rfl rfl size_Drum HL.out zD_len ?_)
    refine bodyPost_ret (results_drum_int Tryz.results8 _ _ (w.heap.size + 1 + 1) 31 (turnS n q d n) rfl (R2.out.row _) Tryz.underlying31 size_Drum HL.out) rfl ⟨?_, brow B2 (by omega) _⟩
    rw [HM.out, HX.out]; rfl
  · obtain ⟨p, hp⟩ : ∃ p, cP s l d b 0 = p := ⟨_, rfl⟩
    have HM := Lib.hid (show rTurn s l d b = zD by unfold rTurn; rw [if_neg hx])
    rw [hp] at hx ⊢
    have HP := Lib.hid hp
    have hx2 : (p == 0) = false := by simpa using hx
    clear hp hx
    go_enter Tryz.func8, Tryz.ntmps8
    go_wp2_with (first | (refine wpList_alloc_row rfl 31 rfl (.agg (drumV zD)) zero_Drum ?_) | (refine wpList_loadD (by rfl) rfl V1.out rfl Tryz.underlying31 size_Drum hd ?_))
    refine (c_placeCode s A c l d _ _ _ (h.below B) hs hl hn hd).mono ?_
    rintro e w1 ⟨rfl, b1⟩
    rw [HP.out]
    have R1 := Lib.hid (V2.out.below b1)
    have B1 := bstep B b1
    clear b1
    go_wp2_with (first | (refine wpList_bz (by rfl) rfl Tryz.underlying31 zero_Drum size_u32 ?_) | (refine wpList_storeD rfl rfl R1.out rfl rfl size_Drum zD_len zD_len ?_))
    refine bodyPost_ret (results_drum_int Tryz.results8 _ _ (w.heap.size + 1 + 1) 31 zD rfl (R1.out.row _) Tryz.underlying31 size_Drum zD_len) rfl ⟨?_, brow B1 (by omega) _⟩
    rw [HM.out]; rfl

end Go.Proofs.YtnakdlfjjeligaaGreat
