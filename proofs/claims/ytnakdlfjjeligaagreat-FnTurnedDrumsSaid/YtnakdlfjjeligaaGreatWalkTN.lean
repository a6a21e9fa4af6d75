/-
  The walk of pins, which calls a function for each pin that is played.
-/
import Derived.Test.YtnakdlfjjeligaaGreatWalkDI
namespace Go.Proofs.YtnakdlfjjeligaaGreat
open Go.RowKit
set_option linter.unusedVariables false
set_option linter.unusedSimpArgs false
set_option maxRecDepth 4000

/-- What is known, I, is handed on from pin to pin. -/
theorem c_pins_played (p0 : Nat) (p1 : Nat) (p2 : Nat) (p3 : Nat) (n : Nat) (A : Option Addr) (c : Nat) (l : List (Int × Int)) (d : List Int) (w : World) (hd : d.length = 96) (hr : Wd d) (hn96 : n ≤ 96) (hl : l.length ≤ 32) (I : Nat → Nat → World → Prop)
    (h0 : I 0 0 ((w.alloc (.cells #[.int .i16 (n : Int), .slice A l.length c] 27)).alloc (.cells (drumV d) 31)))
    (hI : ∀ k t w', I k t w' → Var w' w.heap.size #[.int .i16 (n : Int), .slice A l.length c] 27 ∧ Var w' (w.heap.size + 1) (drumV d) 31)
    (hrow : ∀ k w', I k l.length w' → I (k + 1) 0 w') (hno : ∀ k t w', t < l.length → pinB d k t = false → I k t w' → I k (t + 1) w')
    (hyes : ∀ k t w', k < n → t < l.length → pinB d k t = true → I k t w' → Calls Tryz.prog 73 #[.int .i64 (k : Int), .int .i64 (t : Int), .pointer (some ⟨p0, 0, none⟩), .pointer (some ⟨p1, 0, none⟩), .pointer (some ⟨p2, 0, none⟩), .pointer (some ⟨p3, 0, none⟩)] w' fun z w'' => z = .returned (.tuple #[]) ∧ I k (t + 1) w'') :
    Calls Tryz.prog 72 #[.agg #[.int .i16 (n : Int), .slice A l.length c], .agg (drumV d), .func (.func 73) #[] #[.pointer (some ⟨p0, 0, none⟩), .pointer (some ⟨p1, 0, none⟩), .pointer (some ⟨p2, 0, none⟩), .pointer (some ⟨p3, 0, none⟩)]] w fun z w' => z = .returned (.tuple #[]) ∧ I n 0 w' := by
  have H0 := Lib.hid h0
  have HI := Lib.hid hI
  have HR := Lib.hid hrow
  have HN := Lib.hid hno
  have HY := Lib.hid hyes
  clear h0 hI hrow hno hyes
  go_enter Tryz.func72, Tryz.ntmps72
  go_wp2
  go_loopw [11] (fun i w' => ∃ k : Nat, i = .int .i64 (k : Int) ∧ k ≤ n ∧ I k 0 w') (fun i _ => n - (intOf i).toNat)
  case atStart => exact ⟨0, rfl, by omega, H0.out⟩
  case round =>
    obtain ⟨k, rfl, hk, hi⟩ := hrel
    have HK := Lib.hid hi
    clear hi
    by_cases hlt : k < n
    · have hle : decide ((k : Int) < (n : Int)) = true := decide_eq_true (by omega)
      have hle2 : decide (k < n) = true := decide_eq_true (by omega)
      have f2 := (HI.out k 0 wr HK.out).1.cell (i := 1) rfl
      go_wp2_with (go_at_call 80; refine (c_size _ _ _ _).mono ?_; rintro e w' ⟨rfl, rfl⟩)
      clear f2
      go_loopw [17] (fun i w' => ∃ t : Nat, i = .int .i64 (t : Int) ∧ t ≤ l.length ∧ I k t w') (fun i _ => l.length - (intOf i).toNat)
      case atStart => exact ⟨0, rfl, by omega, HK.out⟩
      case round =>
        obtain ⟨t, rfl, ht, hi⟩ := hrel
        have HK2 := Lib.hid hi
        clear hi
        by_cases hlt2 : t < l.length
        · rcases hp : pinB d k t with _ | _
          · have HP := Lib.hid hp
            clear hp
            go_wp2_with fail
            refine (c_has (w.heap.size + 1) k t d _ ((HI.out k t _ HK2.out).2.drum hd) hr (by omega) (by omega)).mono ?_
            rintro z w1 ⟨rfl, rfl⟩
            rw [HP.out]
            go_wp2
            go_roundw
            case rel => exact ⟨t + 1, by go_num, by omega, HN.out k t _ hlt2 HP.out HK2.out⟩
            case measure => simp [intOf]; omega
          · have HP := Lib.hid hp
            clear hp
            go_wp2_with fail
            refine (c_has (w.heap.size + 1) k t d _ ((HI.out k t _ HK2.out).2.drum hd) hr (by omega) (by omega)).mono ?_
            rintro z w1 ⟨rfl, rfl⟩
            rw [HP.out]
            go_wp2_with fail
            refine (HY.out k t _ hlt hlt2 HP.out HK2.out).mono ?_
            rintro z w2 ⟨rfl, hi2⟩
            go_wp2
            go_roundw
            case rel => exact ⟨t + 1, by go_num, by omega, hi2⟩
            case measure => simp [intOf]; omega
        · obtain rfl : t = l.length := by omega
          go_wp2
          go_roundw
          case rel => exact ⟨k + 1, by go_num, by omega, HR.out k _ HK2.out⟩
          case measure => simp [intOf]; omega
    · obtain rfl : k = n := by omega
      go_wp2
      go_end0
      exact ⟨rfl, HK.out⟩


end Go.Proofs.YtnakdlfjjeligaaGreat
