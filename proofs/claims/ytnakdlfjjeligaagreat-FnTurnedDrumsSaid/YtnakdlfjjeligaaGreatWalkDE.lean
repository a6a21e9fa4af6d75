/-
  The walks of the bells of a frame and of the number of hammers on a pitch, in the reference and in the program.
-/
import Derived.Test.YtnakdlfjjeligaaGreatWalkDC
namespace Go.Proofs.YtnakdlfjjeligaaGreat
open Go.RowKit
set_option linter.unusedVariables false
set_option linter.unusedSimpArgs false
set_option maxRecDepth 4000


theorem c_implBellsOf (s : Int) (A : Option Addr) (c : Nat) (l : List (Int × Int)) (w : World) (h : At2 .i8 .i8 w A l) (hs : W16 s) (hl : Whs l) (hn : l.length ≤ 1073741824) :
    Calls Tryz.prog 20 #[.agg #[.int .i16 s, .slice A l.length c]] w fun e w' => e = .returned (.tuple #[.int .u64 (rBellsOf s l), .int .i64 (cF s l)]) ∧ Below w.heap.size w w' := by
  have hu := Tryz.underlying56
  have hu2 := Tryz.underlying27
  unfold rBellsOf cF
  rcases hx : okF s l with _ | _
  · go_enter Tryz.func20, Tryz.ntmps20
    go_wp2_with fail
    refine (c_ValidFrame s A c l _ (h.alloc _) hs hl hn).mono ?_
    rintro e w1 ⟨rfl, b1⟩
    rw [hx]
    go_wp2
    go_ret2
    exact ⟨rfl, bstep (balloc (Below.refl _ _) _) b1⟩
  · have hg := fun i (hi : i < l.length) => okF_get hx hi
    have HG := Lib.hid hg
    clear hg
    go_enter Tryz.func20, Tryz.ntmps20
    go_wp2_with fail
    refine (c_ValidFrame s A c l _ (h.alloc _) hs hl hn).mono ?_
    rintro e w1 ⟨rfl, b1⟩
    rw [hx]
    have f2 := ((Var.new w #[.int .i16 s, .slice A l.length c] 27).below b1).cell (i := 1) rfl
    have B1 := bstep (balloc (Below.refl _ w) _) b1
    clear b1 hs hl
    go_wp2
    go_loopw [4, 13] (fun q i w' => ∃ k : Nat, i = .int .i64 k ∧ k ≤ l.length ∧ q = .int .u64 (bellsL (l.take k)) ∧ Below w1.heap.size w1 w') (fun _ i _ => l.length - (intOf i).toNat)
    case atStart => exact ⟨0, rfl, by omega, by simp [bellsL], Below.refl _ _⟩
    case round =>
      obtain ⟨k, rfl, hk, rfl, hb⟩ := hrel
      by_cases hlt : k < l.length
      · obtain ⟨b, off, rfl, hbl, hc⟩ := (h.below (bstep B1 hb)).get (by omega)
        have x1 := (hc k hlt).1
        have x2 := (hc k hlt).2
        clear hc
        obtain ⟨⟨n1, n2⟩, n3, n4, n5⟩ := HG.out k hlt
        go_wp2
        go_roundw
        case rel => exact ⟨k + 1, by go_num, by omega, by rw [bellsL_snoc l k hlt], balloc hb _⟩
        case measure => simp [intOf]; omega
      · obtain rfl : k = l.length := by omega
        go_wp2
        go_ret2
        exact ⟨rfl, bstep B1 hb⟩


theorem c_hammersFor (s : Int) (A : Option Addr) (c : Nat) (l : List (Int × Int)) (p : Int) (w : World) (h : At2 .i8 .i8 w A l) (hx : okF s l = true) (hn : l.length ≤ 1073741824) :
    Calls Tryz.prog 54 #[.agg #[.int .i16 s, .slice A l.length c], .int .i64 p] w fun e w' => e = .returned (.tuple #[.int .i64 (numH l p : Int), .int .i64 (leastW l p)]) ∧ Below w.heap.size w w' := by
  have hu := Tryz.underlying56
  have hg := fun i (hi : i < l.length) => okF_get hx hi
  have HG := Lib.hid hg
  clear hg hx
  go_enter Tryz.func54, Tryz.ntmps54
  go_wp2
  go_loopw [6, 7, 13] (fun q r i w' => ∃ k : Nat, i = .int .i64 k ∧ k ≤ l.length ∧ q = .int .i64 (numH (l.take k) p : Int) ∧ r = .int .i64 (leastW (l.take k) p) ∧ Below w.heap.size w w') (fun _ _ i _ => l.length - (intOf i).toNat)
  case atStart => exact ⟨0, rfl, by omega, by simp [numH], by simp [leastW], balloc (Below.refl _ _) _⟩
  case round =>
    obtain ⟨k, rfl, hk, rfl, rfl, hb⟩ := hrel
    by_cases hlt : k < l.length
    · obtain ⟨b, off, rfl, hbl, hc⟩ := (h.below hb).get (by omega)
      have x1 := (hc k hlt).1
      have x2 := (hc k hlt).2
      clear hc
      obtain ⟨⟨n1, n2⟩, n3, n4, n5⟩ := HG.out k hlt
      have hnm := numH_le (l.take k) p
      have hnm2 : (l.take k).length = k := by simp; omega
      have hw1 : IntKind.i64.wrap ((numH (l.take k) p : Int) + 1) = (numH (l.take k) p : Int) + 1 := IntWalk.i64_in _ (by omega)
      have hw2 := wrap8 (a := l[k].1) ⟨by omega, by omega⟩
      have hw3 := wrap8 (a := l[k].2) ⟨by omega, by omega⟩
      clear hnm hnm2
      have hsn := numH_snoc l p k hlt
      have HS := Lib.hid hsn
      clear hsn
      rcases he : (l[k].1 == p) with _ | _
      · have HE := Lib.hid he
        have HL := Lib.hid (leastW_no l p k hlt (by simpa using he))
        go_wp2
        go_roundw
        case rel => exact ⟨k + 1, by go_num, by omega, by rw [HS.out, if_neg (by simpa using HE.out)]; simp, by rw [HL.out], balloc hb _⟩
        case measure => simp [intOf]; omega
      · have HE := Lib.hid he
        have HL := Lib.hid (leastW_yes l p k hlt (by simpa using he))
        rcases hz : ((numH (l.take k) p : Int) == 0) with _ | _
        · have HZ := Lib.hid (show ¬ numH (l.take k) p = 0 by intro e; rw [e] at hz; simp at hz)
          rcases hlw : decide (l[k].2 < leastW (l.take k) p) with _ | _
          · have HW := Lib.hid (of_decide_eq_false hlw)
            go_wp2
            go_roundw
            case rel => exact ⟨k + 1, by go_num, by omega, by rw [HS.out, if_pos (by simpa using HE.out)]; simp, by rw [HL.out, if_neg (fun e => e.elim HZ.out HW.out)], balloc hb _⟩
            case measure => simp [intOf]; omega
          · have HW := Lib.hid (of_decide_eq_true hlw)
            go_wp2
            go_roundw
            case rel => exact ⟨k + 1, by go_num, by omega, by rw [HS.out, if_pos (by simpa using HE.out)]; simp, by rw [HL.out, if_pos (.inr HW.out)], balloc hb _⟩
            case measure => simp [intOf]; omega
        · have HZ := Lib.hid (show numH (l.take k) p = 0 by simpa using hz)
          go_wp2
          go_roundw
          case rel => exact ⟨k + 1, by go_num, by omega, by rw [HS.out, if_pos (by simpa using HE.out)]; simp, by rw [HL.out, if_pos (.inl HZ.out)], balloc hb _⟩
          case measure => simp [intOf]; omega
    · obtain rfl : k = l.length := by omega
      go_wp2
      go_ret2
      have HT := Lib.hid (List.take_length (l := l))
      exact ⟨by simp [HT.out], hb⟩

theorem c_implHammersFor (s : Int) (A : Option Addr) (c : Nat) (l : List (Int × Int)) (p : Int) (w : World) (h : At2 .i8 .i8 w A l) (hs : W16 s) (hl : Whs l) (hn : l.length ≤ 1073741824) (hb : -9223372036854775808 ≤ p ∧ p ≤ 9223372036854775807) :
    Calls Tryz.prog 22 #[.agg #[.int .i16 s, .slice A l.length c], .int .i64 p] w fun e w' => e = .returned (.tuple #[.int .i64 (rHammersFor s l p), .int .i64 (cHammersFor s l p)]) ∧ Below w.heap.size w w' := by
  have hu2 := Tryz.underlying27
  unfold rHammersFor cHammersFor
  rcases hx : okF s l with _ | _
  · go_enter Tryz.func22, Tryz.ntmps22
    go_wp2_with fail
    refine (c_ValidFrame s A c l _ (h.alloc _) hs hl hn).mono ?_
    rintro e w1 ⟨rfl, b1⟩
    rw [hx]
    go_wp2
    go_ret2
    exact ⟨rfl, bstep (balloc (Below.refl _ _) _) b1⟩
  rcases hp : inB p 0 47 with _ | _
  · go_enter Tryz.func22, Tryz.ntmps22
    go_wp2_with fail
    refine (c_ValidFrame s A c l _ (h.alloc _) hs hl hn).mono ?_
    rintro e w1 ⟨rfl, b1⟩
    rw [hx]
    go_wp2_with (go_at_call 53; refine (c_isPitch _ _).mono ?_; rintro e w' ⟨rfl, rfl⟩)
    go_ret2
    exact ⟨rfl, bstep (balloc (Below.refl _ _) _) b1⟩
  · go_enter Tryz.func22, Tryz.ntmps22
    go_wp2_with fail
    refine (c_ValidFrame s A c l _ (h.alloc _) hs hl hn).mono ?_
    rintro e w1 ⟨rfl, b1⟩
    rw [hx]
    have H1 := Lib.hid ((Var.new w #[.int .i16 s, .slice A l.length c] 27).below b1)
    have B1 := bstep (balloc (Below.refl _ w) _) b1
    have f1 := H1.out.cell (i := 0) rfl
    have f2 := H1.out.cell (i := 1) rfl
    go_wp2_with (go_at_call 53; refine (c_isPitch _ _).mono ?_; rintro e w' ⟨rfl, rfl⟩)
    refine (c_hammersFor s A c l p _ (h.below B1) hx hn).mono ?_
    rintro e w2 ⟨rfl, b2⟩
    go_wp2
    go_ret2
    exact ⟨rfl, bstep B1 b2⟩

end Go.Proofs.YtnakdlfjjeligaaGreat
