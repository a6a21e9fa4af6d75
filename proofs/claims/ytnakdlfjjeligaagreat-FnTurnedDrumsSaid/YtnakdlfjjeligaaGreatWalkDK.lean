/-
  The walks of counting pins.
-/
import Derived.Test.YtnakdlfjjeligaaGreatWalkDH
import Derived.Test.YtnakdlfjjeligaaGreatData
import Derived.Deep.RegionHeld
namespace Go.Proofs.YtnakdlfjjeligaaGreat
open Go.RowKit
set_option linter.unusedVariables false
set_option linter.unusedSimpArgs false
set_option maxRecDepth 4000


theorem c_OnesCount32 (x : Int) (w : World) (hx : 0 ≤ x ∧ x ≤ 4294967295) :
    Calls Tryz.prog 99 #[.int .u32 x] w fun e w' => e = .returned (.int .i64 (popI x)) ∧ Below w.heap.size w w' := by
  obtain ⟨n, rfl⟩ := Int.eq_ofNat_of_zero_le hx.1
  have hn : n < 2 ^ 32 := by omega
  have hp : popI ((n : Nat) : Int) = (popF 32 n : Int) := rfl
  rw [hp, popI_bytes n hn]
  clear hp
  have hst := Tryz.underlying9
  have a1 : bits .and .u32 ((n : Int) / 65536) 255 = (n : Int) / 65536 % 256 := by
    have := bits_mask .u32 32 (by decide) wraps_u32 8 (by decide) ((n : Int) / 65536) (by omega) (by omega)
    simpa using this
  have a2 : bits .and .u32 ((n : Int) / 256) 255 = (n : Int) / 256 % 256 := by
    have := bits_mask .u32 32 (by decide) wraps_u32 8 (by decide) ((n : Int) / 256) (by omega) (by omega)
    simpa using this
  have a3 : bits .and .u32 (n : Int) 255 = (n : Int) % 256 := by
    have := bits_mask .u32 32 (by decide) wraps_u32 8 (by decide) (n : Int) (by omega) (by omega)
    simpa using this
  have b1 : (0 : Int) ≤ (n : Int) / 16777216 := by omega
  have b2 : (n : Int) / 16777216 ≤ 255 := by omega
  have b3 : (0 : Int) ≤ (n : Int) / 65536 % 256 := by omega
  have b4 : (n : Int) / 65536 % 256 ≤ 255 := by omega
  have b5 : (0 : Int) ≤ (n : Int) / 256 % 256 := by omega
  have b6 : (n : Int) / 256 % 256 ≤ 255 := by omega
  have b7 : (0 : Int) ≤ (n : Int) % 256 := by omega
  have b8 : (n : Int) % 256 ≤ 255 := by omega
  have p1 : Lib.pop8 ((n : Int) / 16777216) = (popF 8 (n / 16777216) : Int) := pop8_eq (n / 16777216) (by omega)
  have p2 : Lib.pop8 ((n : Int) / 65536 % 256) = (popF 8 (n / 65536 % 256) : Int) := pop8_eq (n / 65536 % 256) (by omega)
  have p3 : Lib.pop8 ((n : Int) / 256 % 256) = (popF 8 (n / 256 % 256) : Int) := pop8_eq (n / 256 % 256) (by omega)
  have p4 : Lib.pop8 ((n : Int) % 256) = (popF 8 (n % 256) : Int) := pop8_eq (n % 256) (by omega)
  show Calls _ _ _ _ fun e w' => e = .returned (.int .i64 ((popF 8 (n / 16777216) + popF 8 (n / 65536 % 256) + popF 8 (n / 256 % 256) + popF 8 (n % 256) : Nat) : Int)) ∧ _
  obtain ⟨q1, e1⟩ : ∃ q, q = popF 8 (n / 16777216) := ⟨_, rfl⟩
  obtain ⟨q2, e2⟩ : ∃ q, q = popF 8 (n / 65536 % 256) := ⟨_, rfl⟩
  obtain ⟨q3, e3⟩ : ∃ q, q = popF 8 (n / 256 % 256) := ⟨_, rfl⟩
  obtain ⟨q4, e4⟩ : ∃ q, q = popF 8 (n % 256) := ⟨_, rfl⟩
  rw [← e1] at p1 ⊢
  rw [← e2] at p2 ⊢
  rw [← e3] at p3 ⊢
  rw [← e4] at p4 ⊢
  have l1 : q1 ≤ 8 := e1 ▸ popF_le 8 _
  have l2 : q2 ≤ 8 := e2 ▸ popF_le 8 _
  have l3 : q3 ≤ 8 := e3 ▸ popF_le 8 _
  have l4 : q4 ≤ 8 := e4 ▸ popF_le 8 _
  clear e1 e2 e3 e4 hx hn
  have s1 : IntKind.u8.wrap ((q1 : Int) + (q2 : Int)) = ((q1 + q2 : Nat) : Int) := IntWalk.u8_in _ (by omega)
  have s2 : IntKind.u8.wrap (((q1 + q2 : Nat) : Int) + (q3 : Int)) = ((q1 + q2 + q3 : Nat) : Int) := IntWalk.u8_in _ (by omega)
  have s3 : IntKind.u8.wrap (((q1 + q2 + q3 : Nat) : Int) + (q4 : Int)) = ((q1 + q2 + q3 + q4 : Nat) : Int) := IntWalk.u8_in _ (by omega)
  have HL := Lib.hid (And.intro (And.intro l1 l2) (And.intro l3 l4))
  clear l1 l2 l3 l4
  go_enter Tryz.func99, Tryz.ntmps99
  go_wp2
  refine region_after (by kernel_rfl) (by kernel_rfl) ?_
  repeat (go_big_quiet_step (((fail))))
  refine wpQuiet_nil ?_
  rintro _ ⟨x, rfl⟩
  go_wp2
  go_ret
  exact ⟨ret_int (by have := HL.out; omega), x.below⟩

theorem c_countBits (x : Int) (w : World) (hx : 0 ≤ x ∧ x ≤ 4294967295) :
    Calls Tryz.prog 87 #[.int .u32 x] w fun e w' => e = .returned (.int .i64 (popI x)) ∧ Below w.heap.size w w' := by
  go_enter Tryz.func87, Tryz.ntmps87
  go_wp2_with (go_at_call 99; refine (c_OnesCount32 x _ hx).mono ?_; rintro e w' ⟨rfl, hb⟩)
  go_ret
  exact ⟨rfl, hb⟩

theorem c_count (d : List Int) (w : World) (hd : d.length = 96) (hr : Wd d) :
    Calls Tryz.prog 62 #[.agg (drumV d)] w fun e w' => e = .returned (.int .i64 (popL d)) ∧ Below w.heap.size w w' := by
  have V1 := Lib.hid (Var.new w (drumV d) 31)
  go_enter Tryz.func62, Tryz.ntmps62
  go_wp2_with (refine wpList_loadD (by rfl) rfl V1.out rfl Tryz.underlying31 size_Drum hd ?_)
  go_loopw [3, 7] (fun q i w' => ∃ k : Nat, i = .int .i64 k ∧ k ≤ 96 ∧ q = .int .i64 (popL (d.take k)) ∧ Below w.heap.size w w') (fun _ i _ => 96 - (intOf i).toNat)
  case atStart => exact ⟨0, rfl, by omega, by simp [popL], balloc (Below.refl _ _) _⟩
  case round =>
    obtain ⟨k, rfl, hk, rfl, hb⟩ := hrel
    by_cases hlt : k < 96
    · have hlt1 : k < d.length := by omega
      have x1 := run_index_drum Tryz.underlying31 Tryz.underlying29 size_u32 hd hlt1
      have h1 : (0 : Int) ≤ (k : Int) := by omega
      have h2 : (k : Int) < 96 := by omega
      have hb1 := popL_bd d k (by omega)
      have hb2 := popI_bd d[k]
      have hw1 : IntKind.i64.wrap (popL (d.take k) + popI d[k]) = popL (d.take k) + popI d[k] := IntWalk.i64_in _ (by omega)
      clear hb1 hb2
      go_wp2_with (go_at_call 87; refine (c_countBits _ _ (hr.get hlt1)).mono ?_; rintro e w1 ⟨rfl, hb1⟩)
      go_roundw
      case rel => exact ⟨k + 1, by go_num, by omega, by rw [popL_snoc d k hlt1], bstep hb hb1⟩
      case measure => simp [intOf]; omega
    · obtain rfl : k = 96 := by omega
      have HT := Lib.hid (show d.take 96 = d from List.take_of_length_le (by omega))
      go_wp2
      go_ret
      exact ⟨ret_int (by rw [HT.out]), hb⟩

end Go.Proofs.YtnakdlfjjeligaaGreat
