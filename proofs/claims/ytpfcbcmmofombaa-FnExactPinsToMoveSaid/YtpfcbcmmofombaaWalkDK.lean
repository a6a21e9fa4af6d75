/-
  The walks of counting pins.
-/
import Derived.Test.YtpfcbcmmofombaaWalkDH
import Derived.Test.YtpfcbcmmofombaaPureG
import Derived.Deep.RegionHeld
namespace Go.Proofs.Ytpfcbcmmofombaa
open Go.RowKit
set_option linter.unusedVariables false
set_option linter.unusedSimpArgs false
set_option maxRecDepth 4000

theorem c_l02Count (x : Int) (w : World) (hx : 0 ≤ x ∧ x ≤ 4294967295) :
    Calls Try.prog 62 #[.int .u32 x] w fun e w' => e = .returned (.int .i64 (popI x)) ∧ w = w' := by
  obtain ⟨n, rfl⟩ := Int.eq_ofNat_of_zero_le hx.1
  have hn : n < 2 ^ 32 := by omega
  have hp : popI ((n : Nat) : Int) = (popF 32 n : Int) := rfl
  rw [hp]
  clear hp hx
  go_enter Try.func62, Try.ntmps62
  go_wp2
  go_loop [0, 3] (fun q r => ∃ m c f : Nat, q = .int .u32 (m : Int) ∧ r = .int .i64 (c : Int) ∧ f ≤ 32 ∧ c + popF f m = popF 32 n ∧ m < 2 ^ f) (fun q _ => (intOf q).toNat)
  case atStart => exact ⟨n, 0, 32, rfl, rfl, by omega, by omega, hn⟩
  case round =>
    obtain ⟨m, c, f, rfl, rfl, hf, hc, hm⟩ := hrel
    have HC := Lib.hid hc
    have hle := popF_le 32 n
    have hcb : c ≤ 32 := by omega
    clear hc hle
    have hm32 : m < 4294967296 := Nat.lt_of_lt_of_le hm (Nat.pow_le_pow_right (by decide) hf)
    by_cases h0 : 0 < m
    · have HM := Lib.hid hm
      clear hm
      have h1 : (0 : Int) < (m : Int) := by omega
      have h2 : ((m : Int)).tmod 2 = ((m % 2 : Nat) : Int) := by rw [Int.tmod_eq_emod_of_nonneg (by omega)]; rfl
      have h3 : ((m : Int)).tdiv 2 = ((m / 2 : Nat) : Int) := by rw [Int.tdiv_eq_ediv_of_nonneg (by omega)]; rfl
      have h4 : IntKind.i64.wrap ((m % 2 : Nat) : Int) = ((m % 2 : Nat) : Int) := IntWalk.i64_in _ (by omega)
      have h5 : IntKind.i64.wrap ((c : Int) + ((m % 2 : Nat) : Int)) = ((c + m % 2 : Nat) : Int) := IntWalk.i64_in _ (by omega)
      have h6 : IntKind.u32.wrap ((m / 2 : Nat) : Int) = ((m / 2 : Nat) : Int) := IntWalk.u32_in _ (by omega)
      have h7 : IntKind.u32.wrap ((m % 2 : Nat) : Int) = ((m % 2 : Nat) : Int) := IntWalk.u32_in _ (by omega)
      go_wp2
      obtain ⟨f', rfl⟩ : ∃ f', f = f' + 1 := by
        cases f with
        | zero => have := HM.out; simp at this; omega
        | succ f' => exact ⟨f', rfl⟩
      have hq : m / 2 < 2 ^ f' := by
        have := HM.out
        rw [Nat.pow_succ, Nat.mul_comm] at this
        exact Nat.div_lt_of_lt_mul this
      have hc2 := HC.out
      rw [show popF (f' + 1) m = m % 2 + popF f' (m / 2) from rfl] at hc2
      refine ⟨⟨m / 2, c + m % 2, f', by simp, by simp, by omega, by omega, hq⟩, ?_⟩
      simp [intOf]
      omega
    · obtain rfl : m = 0 := by omega
      go_wp2
      go_ret
      exact ⟨ret_int (by have := HC.out; rw [popF_zero] at this; omega), rfl⟩

theorem c_OnesCount32 (x : Int) (w : World) (hx : 0 ≤ x ∧ x ≤ 4294967295) :
    Calls Try.prog 92 #[.int .u32 x] w fun e w' => e = .returned (.int .i64 (popI x)) ∧ Below w.heap.size w w' := by
  obtain ⟨n, rfl⟩ := Int.eq_ofNat_of_zero_le hx.1
  have hn : n < 2 ^ 32 := by omega
  have hp : popI ((n : Nat) : Int) = (popF 32 n : Int) := rfl
  rw [hp, popI_bytes n hn]
  clear hp
  have hst := Try.underlying9
  have a1 : bits .and .u32 ((n : Int) / 65536) 255 = (n : Int) / 65536 % 256 := by
    have := bits_mask .u32 32 (by decide) wraps_u32 8 (by decide) ((n : Int) / 65536) (by omega) (by omega)
    simpa using this
  have a2 : bits .and .u32 ((n : Int) / 256) 255 = (n : Int) / 256 % 256 := by
    have := bits_mask .u32 32 (by decide) wraps_u32 8 (by decide) ((n : Int) / 256) (by omega) (by omega)
    simpa using this
  have a3 : bits .and .u32 (n : Int) 255 = (n : Int) % 256 := by
    have := bits_mask .u32 32 (by decide) wraps_u32 8 (by decide) (n : Int) (by omega) (by omega)
    simpa using this
  have b1 : (0 : Int) ≤ (n : Int) / 16777216 := by omega
  have b2 : (n : Int) / 16777216 ≤ 255 := by omega
  have b3 : (0 : Int) ≤ (n : Int) / 65536 % 256 := by omega
  have b4 : (n : Int) / 65536 % 256 ≤ 255 := by omega
  have b5 : (0 : Int) ≤ (n : Int) / 256 % 256 := by omega
  have b6 : (n : Int) / 256 % 256 ≤ 255 := by omega
  have b7 : (0 : Int) ≤ (n : Int) % 256 := by omega
  have b8 : (n : Int) % 256 ≤ 255 := by omega
  have p1 : Lib.pop8 ((n : Int) / 16777216) = (popF 8 (n / 16777216) : Int) := pop8_eq (n / 16777216) (by omega)
  have p2 : Lib.pop8 ((n : Int) / 65536 % 256) = (popF 8 (n / 65536 % 256) : Int) := pop8_eq (n / 65536 % 256) (by omega)
  have p3 : Lib.pop8 ((n : Int) / 256 % 256) = (popF 8 (n / 256 % 256) : Int) := pop8_eq (n / 256 % 256) (by omega)
  have p4 : Lib.pop8 ((n : Int) % 256) = (popF 8 (n % 256) : Int) := pop8_eq (n % 256) (by omega)
  show Calls _ _ _ _ fun e w' => e = .returned (.int .i64 ((popF 8 (n / 16777216) + popF 8 (n / 65536 % 256) + popF 8 (n / 256 % 256) + popF 8 (n % 256) : Nat) : Int)) ∧ _
  obtain ⟨q1, e1⟩ : ∃ q, q = popF 8 (n / 16777216) := ⟨_, rfl⟩
  obtain ⟨q2, e2⟩ : ∃ q, q = popF 8 (n / 65536 % 256) := ⟨_, rfl⟩
  obtain ⟨q3, e3⟩ : ∃ q, q = popF 8 (n / 256 % 256) := ⟨_, rfl⟩
  obtain ⟨q4, e4⟩ : ∃ q, q = popF 8 (n % 256) := ⟨_, rfl⟩
  rw [← e1] at p1 ⊢
  rw [← e2] at p2 ⊢
  rw [← e3] at p3 ⊢
  rw [← e4] at p4 ⊢
  have l1 : q1 ≤ 8 := e1 ▸ popF_le 8 _
  have l2 : q2 ≤ 8 := e2 ▸ popF_le 8 _
  have l3 : q3 ≤ 8 := e3 ▸ popF_le 8 _
  have l4 : q4 ≤ 8 := e4 ▸ popF_le 8 _
  clear e1 e2 e3 e4 hx hn
  have s1 : IntKind.u8.wrap ((q1 : Int) + (q2 : Int)) = ((q1 + q2 : Nat) : Int) := IntWalk.u8_in _ (by omega)
  have s2 : IntKind.u8.wrap (((q1 + q2 : Nat) : Int) + (q3 : Int)) = ((q1 + q2 + q3 : Nat) : Int) := IntWalk.u8_in _ (by omega)
  have s3 : IntKind.u8.wrap (((q1 + q2 + q3 : Nat) : Int) + (q4 : Int)) = ((q1 + q2 + q3 + q4 : Nat) : Int) := IntWalk.u8_in _ (by omega)
  have HL := Lib.hid (And.intro (And.intro l1 l2) (And.intro l3 l4))
  clear l1 l2 l3 l4
  go_enter Try.func92, Try.ntmps92
  go_wp2
  refine region_after (by kernel_rfl) (by kernel_rfl) ?_
  repeat (go_big_quiet_step (((fail))))
  refine wpQuiet_nil ?_
  rintro _ ⟨x, rfl⟩
  go_wp2
  go_ret
  exact ⟨ret_int (by have := HL.out; omega), x.below⟩

theorem c_countBits (x : Int) (w : World) (hx : 0 ≤ x ∧ x ≤ 4294967295) :
    Calls Try.prog 83 #[.int .u32 x] w fun e w' => e = .returned (.int .i64 (popI x)) ∧ Below w.heap.size w w' := by
  go_enter Try.func83, Try.ntmps83
  go_wp2_with (go_at_call 92; refine (c_OnesCount32 x _ hx).mono ?_; rintro e w' ⟨rfl, hb⟩)
  go_ret
  exact ⟨rfl, hb⟩

theorem c_count (d : List Int) (w : World) (hd : d.length = 96) (hr : Wd d) :
    Calls Try.prog 63 #[.agg (drumV d)] w fun e w' => e = .returned (.int .i64 (popL d)) ∧ Below w.heap.size w w' := by
  have V1 := Lib.hid (Var.new w (drumV d) 40)
  go_enter Try.func63, Try.ntmps63
  go_wp2_with (refine wpList_loadD (by rfl) rfl V1.out rfl Try.underlying40 size_Drum hd ?_)
  go_loopw [3, 7] (fun q i w' => ∃ k : Nat, i = .int .i64 k ∧ k ≤ 96 ∧ q = .int .i64 (popL (d.take k)) ∧ Below w.heap.size w w') (fun _ i _ => 96 - (intOf i).toNat)
  case atStart => exact ⟨0, rfl, by omega, by simp [popL], balloc (Below.refl _ _) _⟩
  case round =>
    obtain ⟨k, rfl, hk, rfl, hb⟩ := hrel
    by_cases hlt : k < 96
    · have hlt1 : k < d.length := by omega
      have x1 := run_index_drum Try.underlying40 Try.underlying37 size_u32 hd hlt1
      have h1 : (0 : Int) ≤ (k : Int) := by omega
      have h2 : (k : Int) < 96 := by omega
      have hb1 := popL_bd d k (by omega)
      have hb2 := popI_bd d[k]
      have hw1 : IntKind.i64.wrap (popL (d.take k) + popI d[k]) = popL (d.take k) + popI d[k] := IntWalk.i64_in _ (by omega)
      clear hb1 hb2
      go_wp2_with (go_at_call 83; refine (c_countBits _ _ (hr.get hlt1)).mono ?_; rintro e w1 ⟨rfl, hb1⟩)
      go_roundw
      case rel => exact ⟨k + 1, by go_num, by omega, by rw [popL_snoc d k hlt1], bstep hb hb1⟩
      case measure => simp [intOf]; omega
    · obtain rfl : k = 96 := by omega
      have HT := Lib.hid (show d.take 96 = d from List.take_of_length_le (by omega))
      go_wp2
      go_ret
      exact ⟨ret_int (by rw [HT.out]), hb⟩

end Go.Proofs.Ytpfcbcmmofombaa
