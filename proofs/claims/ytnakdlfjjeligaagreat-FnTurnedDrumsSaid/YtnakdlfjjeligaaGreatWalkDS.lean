/-
  The walks of all clashes of a drum, in the reference and in the program.
-/
import Derived.Test.YtnakdlfjjeligaaGreatWalkDR
namespace Go.Proofs.YtnakdlfjjeligaaGreat
open Go.RowKit
set_option linter.unusedVariables false
set_option linter.unusedSimpArgs false
set_option maxRecDepth 4000

theorem info_A2 : (Tryz.prog.info? 114).map (fun i => (i.zero, i.size, i.bytes)) = some (some (.agg #[.int .i64 0, .int .i64 0]), 2, 16) := by kernel_rfl

set_option maxHeartbeats 800000 in
theorem c_l02Clashes (bf bd n : Nat) (A : Option Addr) (c : Nat) (l : List (Int × Int)) (d : List Int) (w : World) (h : At2 .i8 .i8 w A l) (hf : FrameAt w bf (n : Int) A c l) (hd : DrumAt w bd d) (hr : Wd d) (hn2 : 2 ≤ n) (hn96 : n ≤ 96) (hl : l.length ≤ 32) (hw : Whs l) :
    Calls Tryz.prog 43 #[.pointer (some ⟨bf, 0, none⟩), .pointer (some ⟨bd, 0, none⟩)] w fun z w' => ∃ A' c', z = .returned (.slice A' (clL d n l n).length c') ∧ Own2 .i64 .i64 114 w' w.heap.size (.slice A' (clL d n l n).length c') (clL d n l n) ∧ Below w.heap.size w w' := by
  have HF := Lib.hid hf
  have HD := Lib.hid hd
  clear hf hd
  go_enter Tryz.func43, Tryz.ntmps43
  go_wp2
  go_loopw [5, 6] (fun v i w' => ∃ (k : Nat) (A' : Option Addr) (c' : Nat), i = .int .i64 (k : Int) ∧ v = .slice A' (clL d n l k).length c' ∧ k ≤ n ∧ Own2 .i64 .i64 114 w' w.heap.size v (clL d n l k) ∧ Below w.heap.size w w') (fun _ i _ => n - (intOf i).toNat)
  case atStart => exact ⟨0, _, _, rfl, by rw [clL_zero]; rfl, by omega, by rw [clL_zero]; exact Own2.lit0 (Nat.le_refl _), balloc (Below.refl _ _) _⟩
  case round =>
    obtain ⟨k, A1, c1, rfl, rfl, hk, hown, hb⟩ := hrel
    have HO := Lib.hid hown
    clear hown
    have f1 := (HF.out.below hb).2.1
    by_cases hlt : k < n
    · have hle : decide ((k : Int) < (n : Int)) = true := decide_eq_true (by omega)
      go_wp2
      go_loopw [5, 7] (fun v i w' => ∃ (t : Nat) (A' : Option Addr) (c' : Nat), i = .int .i64 (t : Int) ∧ v = .slice A' (clU d n l k t).length c' ∧ t ≤ l.length ∧ Own2 .i64 .i64 114 w' w.heap.size v (clU d n l k t) ∧ Below w.heap.size w w') (fun _ i _ => l.length - (intOf i).toNat)
      case atStart => exact ⟨0, A1, c1, rfl, by rw [clU_zero], by omega, by rw [clU_zero]; exact HO.out, hb⟩
      case round =>
        clear f1
        obtain ⟨t, A2, c2, rfl, rfl, ht, hown, hb2⟩ := hrel
        have HO2 := Lib.hid hown
        clear hown
        have f2 := (HF.out.below hb2).2.2
        by_cases hlt2 : t < l.length
        · have hs := clU_succ d n l k t
          rcases hq : (pinB d k t && clB d n l k t) with _ | _
          · rw [hq] at hs
            simp only [Bool.false_eq_true, if_false, List.append_nil] at hs
            have HQ := Lib.hid hq
            have HS := Lib.hid hs
            clear hs hq
            go_wp2_with fail
            refine (c_l02Clash bf bd n A c l d k t _ (h.below hb2) (HF.out.below hb2) (HD.out.below hb2) hr hn2 hn96 hlt hlt2 hl hw).mono ?_
            rintro z w1 ⟨rfl, b1⟩
            rw [HQ.out]
            go_wp2
            go_roundw
            case rel => exact ⟨t + 1, A2, c2, by go_num, by rw [HS.out], by omega, by rw [HS.out]; exact HO2.out.below b1, bstep hb2 b1⟩
            case measure => simp [intOf]; omega
          · rw [hq] at hs
            simp only [if_true] at hs
            have HQ := Lib.hid hq
            have HS := Lib.hid hs
            clear hs hq
            have hlen2 := clU_len d n l (k := k) (t := t) (by omega) (by omega) hl
            go_wp2_with fail
            refine (c_l02Clash bf bd n A c l d k t _ (h.below hb2) (HF.out.below hb2) (HD.out.below hb2) hr hn2 hn96 hlt hlt2 hl hw).mono ?_
            rintro z w1 ⟨rfl, b1⟩
            rw [HQ.out]
            have hown2 := (HO2.out.below b1).alloc (.cells #[.int .i64 (k : Int), .int .i64 (t : Int)] 114)
            have B3 := balloc (bstep hb2 b1) (.cells #[.int .i64 (k : Int), .int .i64 (t : Int)] 114)
            have hbs := B3.size
            have z1 := cell_new w1 #[.int .i64 (k : Int), .int .i64 (t : Int)] 114 (i := 0) rfl
            have z2 := cell_new w1 #[.int .i64 (k : Int), .int .i64 (t : Int)] 114 (i := 1) rfl
            go_wp2_with (at_builtin; refine append_pair rfl (.tmp 32) (.tmp 36) 42 rfl 114 .i64 .i64 16 Tryz.underlying42 info_A2 (by decide) w.heap.size _ _ rfl hown2 _ _ ((k : Int), (t : Int)) rfl z1 z2 hlen2 hbs ?_; intro A3 c3 w3 ho3 hg3)
            have B4 := bgrown B3 hg3 (fun j hj => hown2.low hj)
            go_roundw
            case rel => exact ⟨t + 1, A3, c3, by go_num, by rw [HS.out, List.length_append]; rfl, by omega, by rw [HS.out]; rw [List.length_append] at ho3; exact ho3, B4⟩
            case measure => simp [intOf]; omega
        · obtain rfl : t = l.length := by omega
          have HE := Lib.hid (clU_end d n l k)
          go_wp2
          go_roundw
          case rel => exact ⟨k + 1, A2, c2, by go_num, by rw [HE.out], by omega, by rw [← HE.out]; exact HO2.out, hb2⟩
          case measure => simp [intOf]; omega
    · obtain rfl : k = n := by omega
      go_wp2
      go_ret
      exact ⟨A1, c1, rfl, HO.out, hb⟩

end Go.Proofs.YtnakdlfjjeligaaGreat
