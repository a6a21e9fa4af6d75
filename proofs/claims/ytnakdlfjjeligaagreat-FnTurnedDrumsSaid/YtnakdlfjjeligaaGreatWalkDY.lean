/-
  The walks of free places, in the reference and in the program: FreePlaces.
-/
import Derived.Test.YtnakdlfjjeligaaGreatWalkDR
import Derived.Test.YtnakdlfjjeligaaGreatWalkDJ
import Derived.Test.YtnakdlfjjeligaaGreatWalkDX
namespace Go.Proofs.YtnakdlfjjeligaaGreat
open Go.RowKit
set_option linter.unusedVariables false
set_option linter.unusedSimpArgs false
set_option maxRecDepth 4000

set_option maxHeartbeats 800000 in
theorem c_l02Free (bf bd n : Nat) (A : Option Addr) (c : Nat) (l : List (Int × Int)) (d : List Int) (k t : Nat) (w : World) (h : At2 .i8 .i8 w A l) (hf : FrameAt w bf (n : Int) A c l) (hd : DrumAt w bd d) (hr : Wd d) (hn2 : 2 ≤ n) (hn96 : n ≤ 96) (hk : k < n) (ht : t < l.length) (hl : l.length ≤ 32) (hrd : 1 ≤ l[t].2 ∧ l[t].2 ≤ (n : Int)) :
    Calls Tryz.prog 58 #[.pointer (some ⟨bf, 0, none⟩), .pointer (some ⟨bd, 0, none⟩), .int .i64 (k : Int), .int .i64 (t : Int)] w fun z w' => z = .returned (.bool (frB d n l k t)) ∧ w = w' := by
  rcases hp : pinB d k t with _ | _
  · obtain ⟨r, hrr⟩ := Int.eq_ofNat_of_zero_le (show 0 ≤ l[t].2 by omega)
    have HF := Lib.hid (frB_iff (l := l) (n := n) hp (r := r) (by rw [rdy_at ht]; exact hrr) (by omega))
    have HP := Lib.hid hp
    clear hp
    obtain ⟨b, off, rfl, hbl, hc⟩ := h.get (by omega)
    have f1 := hf.2.1
    have f2 := hf.2.2
    have f3 := (hc t ht).2
    have hr1 : 1 ≤ r := by omega
    have hrn : r ≤ n := by omega
    rw [hrr] at f3
    have i1 : (0 : Int) ≤ (t : Int) := by omega
    have i2 : (t : Int) < (l.length : Int) := by omega
    have hn0 : ((n : Int) == 0) = false := by simp; omega
    clear hc hrd hrr
    go_enter Tryz.func58, Tryz.ntmps58
    go_wp2_with fail
    refine (c_l02Pin bd k t d _ hd hr (by omega) (by omega)).mono ?_
    rintro z w1 ⟨rfl, rfl⟩
    rw [HP.out]
    go_wp2
    clear f2 f3
    go_loopw [11] (fun i w' => ∃ j : Nat, i = .int .i64 (j : Int) ∧ 1 ≤ j ∧ j ≤ r ∧ (∀ x, 1 ≤ x → x < j → fwP d n k t x = false ∧ bwP d n k t x = false) ∧ w' = w) (fun i _ => r - (intOf i).toNat)
    case atStart => exact ⟨1, rfl, by omega, by omega, fun x h1 h2 => absurd h2 (by omega), rfl⟩
    case round =>
      obtain ⟨j, rfl, hj1, hj, hz, rfl⟩ := hrel
      have HZ := Lib.hid hz; clear hz
      by_cases hlt : j < r
      · obtain ⟨q, hq⟩ : ∃ q : Nat, (k + j) % n = q := ⟨_, rfl⟩
        obtain ⟨q2, hq2⟩ : ∃ q : Nat, (k + n - j) % n = q := ⟨_, rfl⟩
        have hqn : q < n := by rw [← hq]; exact Nat.mod_lt _ (by omega)
        have hqn2 : q2 < n := by rw [← hq2]; exact Nat.mod_lt _ (by omega)
        have hw1 : IntKind.i64.wrap ((k : Int) + (j : Int)) = (k : Int) + (j : Int) := IntWalk.i64_in _ (by omega)
        have hw2 : ((k : Int) + (j : Int)).tmod (n : Int) = (q : Int) := by
          rw [Int.tmod_eq_emod_of_nonneg (by omega), ← hq]; push_cast; rfl
        have hw3 : IntKind.i64.wrap ((k : Int) + (n : Int)) = (k : Int) + (n : Int) := IntWalk.i64_in _ (by omega)
        have hw4 : IntKind.i64.wrap ((k : Int) + (n : Int) - (j : Int)) = (k : Int) + (n : Int) - (j : Int) := IntWalk.i64_in _ (by omega)
        have hw5 : ((k : Int) + (n : Int) - (j : Int)).tmod (n : Int) = (q2 : Int) := by
          rw [Int.tmod_eq_emod_of_nonneg (by omega), ← hq2, show (k : Int) + (n : Int) - (j : Int) = ((k + n - j : Nat) : Int) by omega]; push_cast; rfl
        have HQ := Lib.hid (show fwP d n k t j = pinB d q t by unfold fwP; rw [hq])
        have HQ2 := Lib.hid (show bwP d n k t j = pinB d q2 t by unfold bwP; rw [hq2])
        clear hq hq2
        rcases hp : pinB d q t with _ | _
        · have HP1 := Lib.hid hp
          clear hp
          rcases hp : pinB d q2 t with _ | _
          · have HP2 := Lib.hid hp
            clear hp
            go_wp2_with fail
            refine (c_l02Pin bd q t d _ hd hr (by omega) (by omega)).mono ?_
            rintro z w1 ⟨rfl, rfl⟩
            rw [HP1.out]
            go_wp2_with fail
            refine (c_l02Pin bd q2 t d _ hd hr (by omega) (by omega)).mono ?_
            rintro z w1 ⟨rfl, rfl⟩
            rw [HP2.out]
            go_wp2
            go_roundw
            case rel => exact ⟨j + 1, by go_num, by omega, by omega, fun x h1 h2 => by
              by_cases e : x = j
              · subst e; exact ⟨by rw [HQ.out, HP1.out], by rw [HQ2.out, HP2.out]⟩
              · exact HZ.out x h1 (by omega), by first | trivial | rfl⟩
            case measure => simp [intOf]; omega
          · have HP2 := Lib.hid hp
            clear hp
            go_wp2_with fail
            refine (c_l02Pin bd q t d _ hd hr (by omega) (by omega)).mono ?_
            rintro z w1 ⟨rfl, rfl⟩
            rw [HP1.out]
            go_wp2_with fail
            refine (c_l02Pin bd q2 t d _ hd hr (by omega) (by omega)).mono ?_
            rintro z w1 ⟨rfl, rfl⟩
            rw [HP2.out]
            go_wp2
            go_ret
            refine ⟨ret_bool ?_, rfl⟩
            cases hfr : frB d n l k t with
            | false => rfl
            | true => have := (HF.out.1 hfr j hj1 hlt).2; rw [HQ2.out, HP2.out] at this; cases this
        · have HP1 := Lib.hid hp
          clear hp
          go_wp2_with fail
          refine (c_l02Pin bd q t d _ hd hr (by omega) (by omega)).mono ?_
          rintro z w1 ⟨rfl, rfl⟩
          rw [HP1.out]
          go_wp2
          go_ret
          refine ⟨ret_bool ?_, rfl⟩
          cases hfr : frB d n l k t with
          | false => rfl
          | true => have := (HF.out.1 hfr j hj1 hlt).1; rw [HQ.out, HP1.out] at this; cases this
      · obtain rfl : j = r := by omega
        go_wp2
        go_ret
        exact ⟨ret_bool (HF.out.2 HZ.out).symm, rfl⟩
  · have HP := Lib.hid hp
    clear hp
    go_enter Tryz.func58, Tryz.ntmps58
    go_wp2_with fail
    refine (c_l02Pin bd k t d _ hd hr (by omega) (by omega)).mono ?_
    rintro z w1 ⟨rfl, rfl⟩
    rw [HP.out]
    go_wp2
    go_ret
    exact ⟨ret_bool (by unfold frB; rw [HP.out]; rfl), rfl⟩

set_option maxHeartbeats 800000 in
theorem c_isFree (bd n : Nat) (A : Option Addr) (c : Nat) (l : List (Int × Int)) (d : List Int) (k t : Nat) (w : World) (h : At2 .i8 .i8 w A l) (hd : DrumAt w bd d) (hr : Wd d) (hn2 : 2 ≤ n) (hn96 : n ≤ 96) (hk : k < n) (ht : t < l.length) (hl : l.length ≤ 32) (hw : Whs l) :
    Calls Tryz.prog 86 #[.agg #[.int .i16 (n : Int), .slice A l.length c], .pointer (some ⟨bd, 0, none⟩), .int .i64 (k : Int), .int .i64 (t : Int)] w fun z w' => z = .returned (.bool (frB d n l k t)) ∧ Below w.heap.size w w' := by
  have hu2 := Tryz.underlying27
  obtain ⟨b, off, rfl, hbl, hc⟩ := h.get (by omega)
  have f3 := (World.cell?_alloc_lt w (.cells #[.int .i16 (n : Int), .slice (some ⟨b, off, none⟩) l.length c] 27) ⟨b, off + t * 2 + 1, none⟩ hbl).trans (hc t ht).2
  have HD := Lib.hid (hd.alloc (.cells #[.int .i16 (n : Int), .slice (some ⟨b, off, none⟩) l.length c] 27))
  have V0 := Lib.hid (Var.new w #[.int .i16 (n : Int), .slice (some ⟨b, off, none⟩) l.length c] 27)
  have HR := Lib.hid (rdy_at ht)
  obtain ⟨_, _, m1, m2⟩ := hw.get ht
  have m3 : IntKind.i64.wrap l[t].2 = l[t].2 := IntWalk.i64_in _ (by omega)
  have i1 : (0 : Int) ≤ (t : Int) := by omega
  have i2 : (t : Int) < (l.length : Int) := by omega
  have B := balloc (Below.refl _ w) (.cells #[.int .i16 (n : Int), .slice (some ⟨b, off, none⟩) l.length c] 27)
  clear hc hd
  rcases hp : pinB d k t with _ | _
  · have HP := Lib.hid hp
    clear hp
    rcases hg : decide (l[t].2 ≤ ((fwN d n k t : Nat) : Int)) with _ | _
    · have HG := Lib.hid (show frB d n l k t = false by unfold frB; rw [HP.out, HR.out, hg]; rfl)
      go_enter Tryz.func86, Tryz.ntmps86
      go_wp2_with fail
      refine (c_has bd k t d _ HD.out hr (by omega) (by omega)).mono ?_
      rintro z w1 ⟨rfl, rfl⟩
      rw [HP.out]
      go_wp2_with fail
      refine (c_behind_fw bd n (some ⟨b, off, none⟩) c l d k t _ HD.out hr hn2 hn96 hk (by omega)).mono ?_
      rintro z w2 ⟨rfl, b2⟩
      go_wp2
      go_ret
      exact ⟨ret_bool (by rw [HG.out]), bstep B b2⟩
    · have HG := Lib.hid (show frB d n l k t = decide (l[t].2 ≤ ((bwN d n k t : Nat) : Int)) by unfold frB; rw [HP.out, HR.out, hg]; simp)
      go_enter Tryz.func86, Tryz.ntmps86
      go_wp2_with fail
      refine (c_has bd k t d _ HD.out hr (by omega) (by omega)).mono ?_
      rintro z w1 ⟨rfl, rfl⟩
      rw [HP.out]
      go_wp2_with fail
      refine (c_behind_fw bd n (some ⟨b, off, none⟩) c l d k t _ HD.out hr hn2 hn96 hk (by omega)).mono ?_
      rintro z w2 ⟨rfl, b2⟩
      have f1 := (V0.out.below b2).cell (i := 0) rfl
      have f2 := (V0.out.below b2).cell (i := 1) rfl
      go_wp2_with fail
      refine (c_behind_bw bd n (some ⟨b, off, none⟩) c l d k t _ (HD.out.below b2) hr hn2 hn96 hk (by omega)).mono ?_
      rintro z w3 ⟨rfl, b3⟩
      go_wp2
      go_ret
      exact ⟨ret_bool (by rw [HG.out]), bstep (bstep B b2) b3⟩
  · have HP := Lib.hid hp
    clear hp
    go_enter Tryz.func86, Tryz.ntmps86
    go_wp2_with fail
    refine (c_has bd k t d _ HD.out hr (by omega) (by omega)).mono ?_
    rintro z w1 ⟨rfl, rfl⟩
    rw [HP.out]
    go_wp2
    go_ret
    exact ⟨ret_bool (by unfold frB; rw [HP.out]; rfl), B⟩

end Go.Proofs.YtnakdlfjjeligaaGreat
