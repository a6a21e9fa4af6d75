/-
  The walks of the test whether a drum is one of a frame's.
-/
import Derived.Test.YtnakdlfjjeligaaGreatWalkDC
import Derived.Test.YtnakdlfjjeligaaGreatWalkDF
import Derived.Test.YtnakdlfjjeligaaGreatData
namespace Go.Proofs.YtnakdlfjjeligaaGreat
open Go.RowKit
set_option linter.unusedVariables false
set_option linter.unusedSimpArgs false
set_option maxRecDepth 4000

theorem c_l02Drum (bf bd : Nat) (s : Int) (A : Option Addr) (c : Nat) (l : List (Int × Int)) (d : List Int) (w : World) (hf : FrameAt w bf s A c l) (hd : DrumAt w bd d) (hs : W16 s) (hn : l.length ≤ 1073741824) :
    Calls Tryz.prog 70 #[.pointer (some ⟨bf, 0, none⟩), .pointer (some ⟨bd, 0, none⟩)] w fun e w' => e = .returned (.bool (okD l.length s d)) ∧ Below w.heap.size w w' := by
  have hu2 := Tryz.underlying27
  have ws := wrap16 hs
  have hd96 := hd.2.1
  go_enter Tryz.func70, Tryz.ntmps70
  go_wp2
  go_loopw [5] (fun i w' => ∃ k : Nat, i = .int .i64 k ∧ k ≤ 96 ∧ (∀ i (hi : i < d.length), i < k → okP l.length s i d[i] = true) ∧ Below w.heap.size w w') (fun i _ => 96 - (intOf i).toNat)
  case atStart => exact ⟨0, rfl, by omega, fun _ _ h => absurd h (by omega), Below.refl _ _⟩
  case round =>
    obtain ⟨k, rfl, hk, hz, hb⟩ := hrel
    have HZ := Lib.hid hz; clear hz
    by_cases hlt : k < 96
    · have hlt1 : k < d.length := by omega
      have x1 : ∀ x : After wr, _ := fun x => ((hd.below hb).below x.below).2.2 k hlt1
      have x2 : ∀ x : After wr, _ := fun x => ((hf.below hb).below x.below).2.1
      have x3 : ∀ x : After wr, _ := fun x => ((hf.below hb).below x.below).2.2
      have h1 : (0 : Int) ≤ (k : Int) := by omega
      have h2 : (k : Int) < 96 := by omega
      rcases e1 : (d[k] / 2 ^ min l.length 32 != 0) with _ | _
      · rcases e2 : decide (s ≤ (k : Int)) with _ | _
        · have HS := Lib.hid (okP_3 e1 e2)
          go_wp2
          refine region_after (by kernel_rfl) (by kernel_rfl) ?_
          repeat (go_big_quiet_step (((fail))))
          refine wpQuiet_nil ?_
          rintro _ ⟨x, rfl⟩
          go_wp2
          go_roundw
          case rel => exact ⟨k + 1, by go_num, by omega, fun i hi hik => by
            by_cases e : i = k
            · subst e; exact HS.out
            · exact HZ.out i hi (by omega), bstep hb x.below⟩
          case measure => simp [intOf]; omega
        · rcases e3 : (d[k] != 0) with _ | _
          · have HS := Lib.hid (okP_4 (s := s) (k := k) e1 e3)
            go_wp2
            refine region_after (by kernel_rfl) (by kernel_rfl) ?_
            repeat (go_big_quiet_step (((fail))))
            refine wpQuiet_nil ?_
            rintro _ ⟨x, rfl⟩
            go_wp2
            go_roundw
            case rel => exact ⟨k + 1, by go_num, by omega, fun i hi hik => by
              by_cases e : i = k
              · subst e; exact HS.out
              · exact HZ.out i hi (by omega), bstep hb x.below⟩
            case measure => simp [intOf]; omega
          · have HS := Lib.hid (okP_2 (n := l.length) e2 e3)
            go_wp2
            refine region_after (by kernel_rfl) (by kernel_rfl) ?_
            repeat (go_big_quiet_step (((fail))))
            refine wpQuiet_nil ?_
            rintro _ ⟨x, rfl⟩
            go_wp2
            go_ret
            exact ⟨ret_bool (okD_bad hlt1 HS.out).symm, bstep hb x.below⟩
      · have E1 := Lib.hid e1
        go_wp2
        refine region_after (by kernel_rfl) (by kernel_rfl) ?_
        repeat (go_big_quiet_step (((fail))))
        refine wpQuiet_nil ?_
        rintro _ ⟨x, rfl⟩
        go_wp2
        go_ret
        exact ⟨ret_bool (okD_bad hlt1 (okP_1 E1.out)).symm, bstep hb x.below⟩
    · obtain rfl : k = 96 := by omega
      go_wp2
      go_ret
      exact ⟨ret_bool (okD_all (fun i hi => HZ.out i hi (by omega))).symm, hb⟩

theorem c_isDrum (s : Int) (A : Option Addr) (c : Nat) (l : List (Int × Int)) (d : List Int) (w : World) (hd : d.length = 96) (hs : W16 s) (hn : l.length ≤ 1073741824) :
    Calls Tryz.prog 68 #[.agg #[.int .i16 s, .slice A l.length c], .agg (drumV d)] w fun e w' => e = .returned (.bool (okD l.length s d)) ∧ Below w.heap.size w w' := by
  have hu2 := Tryz.underlying27
  have ws := wrap16 hs
  have v0 : Var ((w.alloc (.cells #[.int .i16 s, .slice A l.length c] 27)).alloc (.cells (drumV d) 31)) w.heap.size #[.int .i16 s, .slice A l.length c] 27 := (Var.new w _ _).old _
  have v1 : Var ((w.alloc (.cells #[.int .i16 s, .slice A l.length c] 27)).alloc (.cells (drumV d) 31)) (w.heap.size + 1) (drumV d) 31 := by simpa using Var.new (w.alloc (.cells #[.int .i16 s, .slice A l.length c] 27)) (drumV d) 31
  have V0 := Lib.hid v0
  have V1 := Lib.hid v1
  clear v0 v1
  go_enter Tryz.func68, Tryz.ntmps68
  go_wp2_with (refine wpList_loadD (by rfl) rfl V1.out rfl Tryz.underlying31 size_Drum hd ?_)
  go_loopw [8] (fun i w' => ∃ k : Nat, i = .int .i64 k ∧ k ≤ 96 ∧ (∀ i (hi : i < d.length), i < k → okP l.length s i d[i] = true) ∧ w' = ((w.alloc (.cells #[.int .i16 s, .slice A l.length c] 27)).alloc (.cells (drumV d) 31))) (fun i _ => 96 - (intOf i).toNat)
  case atStart => exact ⟨0, rfl, by omega, fun _ _ h => absurd h (by omega), rfl⟩
  case round =>
    obtain ⟨k, rfl, hk, hz, rfl⟩ := hrel
    have HZ := Lib.hid hz; clear hz
    by_cases hlt : k < 96
    · have hlt1 : k < d.length := by omega
      have x1 := run_index_drum Tryz.underlying31 Tryz.underlying29 size_u32 hd hlt1
      have x2 := V0.out.cell (i := 0) rfl
      have x3 := V0.out.cell (i := 1) rfl
      have h1 : (0 : Int) ≤ (k : Int) := by omega
      have h2 : (k : Int) < 96 := by omega
      rcases e1 : (d[k] / 2 ^ min l.length 32 != 0) with _ | _
      · rcases e2 : decide (s ≤ (k : Int)) with _ | _
        · have HS := Lib.hid (okP_3 e1 e2)
          go_wp2
          go_roundw
          case rel => exact ⟨k + 1, by go_num, by omega, fun i hi hik => by
            by_cases e : i = k
            · subst e; exact HS.out
            · exact HZ.out i hi (by omega), (by first | rfl | trivial)⟩
          case measure => simp [intOf]; omega
        · rcases e3 : (d[k] != 0) with _ | _
          · have HS := Lib.hid (okP_4 (s := s) (k := k) e1 e3)
            go_wp2
            go_roundw
            case rel => exact ⟨k + 1, by go_num, by omega, fun i hi hik => by
              by_cases e : i = k
              · subst e; exact HS.out
              · exact HZ.out i hi (by omega), (by first | rfl | trivial)⟩
            case measure => simp [intOf]; omega
          · have HS := Lib.hid (okP_2 (n := l.length) e2 e3)
            go_wp2
            go_ret
            exact ⟨ret_bool (okD_bad hlt1 HS.out).symm, balloc (balloc (Below.refl _ _) _) _⟩
      · have E1 := Lib.hid e1
        go_wp2
        go_ret
        exact ⟨ret_bool (okD_bad hlt1 (okP_1 E1.out)).symm, balloc (balloc (Below.refl _ _) _) _⟩
    · obtain rfl : k = 96 := by omega
      go_wp2
      go_ret
      exact ⟨ret_bool (okD_all (fun i hi => HZ.out i hi (by omega))).symm, balloc (balloc (Below.refl _ _) _) _⟩

end Go.Proofs.YtnakdlfjjeligaaGreat
