/-
  The walks of FrameText, in the reference and in the program.
-/
import Derived.Test.YtjcbailckchnoaaGreatDoorWalkPN
import Derived.Test.YtjcbailckchnoaaGreatDoorWalkDB
import Derived.Test.YtjcbailckchnoaaGreatDoorWalkDC
import Derived.Test.YtjcbailckchnoaaGreatDoorData
namespace Go.Proofs.YtjcbailckchnoaaGreatDoor
open Go.RowKit
set_option linter.unusedVariables false
set_option linter.unusedSimpArgs false
set_option maxRecDepth 4000

/-- A hammer as a text. -/
def hamT (p : Int × Int) : List UInt8 := (([32] ++ nameP p.1.toNat) ++ [47]) ++ Lib.decDigits p.2.toNat
theorem hamT_len {p : Int × Int} (h1 : p.1 ≤ 47) (h2 : p.2 ≤ 96) : (hamT p).length ≤ 105 := by
  unfold hamT
  have a1 := dec_len p.2.toNat
  have a2 := nameP_len (n := p.1.toNat) (by omega)
  simp only [List.length_append, List.length_cons, List.length_nil]; omega
/-- The text of a frame with its first k hammers. -/
def fj (s : Int) (l : List (Int × Int)) (k : Nat) : List UInt8 := Lib.decDigits s.toNat ++ ((l.take k).map hamT).flatten
theorem fj_zero (s : Int) (l : List (Int × Int)) : fj s l 0 = Lib.decDigits s.toNat := by simp [fj]
theorem fj_succ (s : Int) {l : List (Int × Int)} {k : Nat} (h : k < l.length) : fj s l (k + 1) = fj s l k ++ hamT l[k] := by
  unfold fj
  rw [List.take_add_one, List.getElem?_eq_getElem h, Option.toList_some, List.map_append, List.map_cons, List.map_nil, List.flatten_append, List.append_assoc]
  simp
theorem fj_len {s : Int} {l : List (Int × Int)} (hs : s ≤ 96) (hl : ∀ i (h : i < l.length), l[i].1 ≤ 47 ∧ l[i].2 ≤ 96) : ∀ k, k ≤ l.length → (fj s l k).length ≤ 100 + 105 * k
  | 0, _ => by rw [fj_zero]; have := dec_len s.toNat; omega
  | k + 1, h => by
    have ih := fj_len hs hl k (by omega)
    have a := hamT_len (hl k (by omega)).1 (hl k (by omega)).2
    rw [fj_succ s (by omega), List.length_append]
    omega
/-- The text of a frame, empty where it is not valid. -/
def rFT (s : Int) (l : List (Int × Int)) : List UInt8 := if okF s l then fj s l l.length else []



set_option maxHeartbeats 1600000 in
theorem c_FrameTextOk (s : Int) (A : Option Addr) (c : Nat) (l : List (Int × Int)) (w : World) (h : At2 .i8 .i8 w A l) (hs : W16 s) (hl : Whs l) (hn : l.length ≤ 1073741824) (hok : okF s l = true) :
    Calls Tryz.prog 8 #[.agg #[.int .i16 s, .slice A l.length c]] w fun e w' => e = .returned (txt (fj s l l.length)) ∧ Below w.heap.size w w' := by
  have hst := Tryz.underlying9
  have hu := Tryz.underlying76
  have hu2 := Tryz.underlying27
  obtain ⟨⟨s1, s2⟩, ⟨n1', n2'⟩, _⟩ := okF_iff.1 hok
  obtain ⟨n, rfl⟩ := Int.eq_ofNat_of_zero_le (show 0 ≤ s by omega)
  have hn96 : n ≤ 96 := by omega
  have hlen : l.length ≤ 24 := by omega
  have hnt := fun i (hi : i < l.length) => okF_get hok hi
  have hTL := fj_len (s := (n : Int)) (l := l) (by omega) (fun i hi => ⟨(hnt i hi).1.2, by have := (hnt i hi).2.2.1; omega⟩)
  have HN := Lib.hid hnt
  have HTL := Lib.hid hTL
  have HOK := Lib.hid hok
  have HZ := Lib.hid (show fj (n : Int) l 0 = Lib.decDigits n by rw [fj_zero, Int.toNat_natCast])
  have wwn : IntKind.i64.wrap (n : Int) = (n : Int) := IntWalk.i64_in _ (by omega)
  clear hnt hTL hok s1 s2 n1' n2'
  have V0 := Lib.hid (FrameAt.box (w := w) (s := (n : Int)) (A := A) (c := c) (hs := l) 27)
  have B := balloc (Below.refl _ w) (.cells #[.int .i16 (n : Int), .slice A l.length c] 27)
  go_enter Tryz.func8, Tryz.ntmps8
  go_wp2_with fail
  refine (c_ValidFrame (n : Int) A c l _ (h.below B) hs hl hn).mono ?_
  rintro e w1 ⟨rfl, b1⟩
  rw [HOK.out]
  have F1 := Lib.hid (V0.out.below b1)
  have B1 := bstep B b1
  have f1 := F1.out.2.1
  go_wp2_with fail
  refine (c_decimal n _ (by omega)).mono ?_
  rintro e w2 ⟨rfl, b2⟩
  have F2 := Lib.hid (F1.out.below b2)
  have B2 := bstep B1 b2
  have H2 := Lib.hid (h.below B2)
  clear f1
  have f2 := F2.out.2.2
  go_wp2_with fail
  clear f2
  go_loopw [3, 16] (fun v i w' => ∃ k : Nat, i = .int .i64 (k : Int) ∧ v = txt (fj (n : Int) l k) ∧ k ≤ l.length ∧ Below w2.heap.size w2 w') (fun _ i _ => l.length - (intOf i).toNat)
  case atStart => exact ⟨0, rfl, by rw [HZ.out], by omega, Below.refl _ _⟩
  case round =>
    obtain ⟨k, rfl, rfl, hk, hb⟩ := hrel
    by_cases hlt : k < l.length
    · have hd1 : decide ((k : Int) < (l.length : Int)) = true := decide_eq_true (by omega)
      obtain ⟨b, off, hAe, hbl, hc⟩ := (H2.out.below hb).get (by omega)
      obtain ⟨n1, hn1⟩ := Int.eq_ofNat_of_zero_le (HN.out k hlt).1.1
      obtain ⟨n2, hn2⟩ := Int.eq_ofNat_of_zero_le (show 0 ≤ l[k].2 by have := (HN.out k hlt).2.1; omega)
      have hb1 : n1 ≤ 47 := by have := (HN.out k hlt).1.2; omega
      have hb2 : n2 ≤ 20 := by have := (HN.out k hlt).2.2.1; omega
      have HS := Lib.hid (show fj (n : Int) l (k + 1) = fj (n : Int) l k ++ ((([32] ++ nameP n1) ++ [47]) ++ Lib.decDigits n2) by rw [fj_succ _ hlt]; unfold hamT; rw [hn1, hn2, Int.toNat_natCast, Int.toNat_natCast])
      have hl1 : (nameP n1).length ≤ 8388608 := Nat.le_trans (nameP_len hb1) (by decide)
      have hl2 : ([32] ++ nameP n1).length ≤ 8388608 := by have := nameP_len hb1; simp; omega
      have hl3 : (([32] ++ nameP n1) ++ [47]).length ≤ 8388608 := by have := nameP_len hb1; simp; omega
      have hl4 : (Lib.decDigits n2).length ≤ 8388608 := Nat.le_trans (dec_len n2) (by omega)
      have hl5 : ((([32] ++ nameP n1) ++ [47]) ++ Lib.decDigits n2).length ≤ 8388608 := by have := nameP_len hb1; have := dec_len n2; simp; omega
      have hl6 : (fj (n : Int) l k).length ≤ 8388608 := Nat.le_trans (HTL.out k hk) (by omega)
      have HRN := Lib.hid (show rName (n1 : Int) = nameP n1 by unfold rName inB; rw [if_pos (by simp; omega), Int.toNat_natCast])
      have K1 := (hc k hlt).1
      have K2 := (hc k hlt).2
      rw [hn1] at K1
      rw [hn2] at K2
      clear hc hn1 hn2
      subst hAe
      have i3 : (0 : Int) ≤ (k : Int) := by omega
      have i2 : (k : Int) < (l.length : Int) := by omega
      have hkw : IntKind.i64.wrap ((k : Int) + 1) = ((k + 1 : Nat) : Int) := by rw [IntWalk.i64_in _ (by omega)]; rfl
      have ww1 : IntKind.i64.wrap (n1 : Int) = (n1 : Int) := IntWalk.i64_in _ (by omega)
      have ww2 : IntKind.i64.wrap (n2 : Int) = (n2 : Int) := IntWalk.i64_in _ (by omega)
      have vn := Var.new wr #[.int .i8 (n1 : Int), .int .i8 (n2 : Int)] 76
      have hbn := balloc (Below.refl _ wr) (.cells #[.int .i8 (n1 : Int), .int .i8 (n2 : Int)] 76)
      go_upto_region 7 with fail
      obtain ⟨wn, hwn⟩ : ∃ x, x = wr.alloc (.cells #[.int .i8 (n1 : Int), .int .i8 (n2 : Int)] 76) := ⟨_, rfl⟩
      obtain ⟨g5, hg5⟩ : ∃ x, x = wr.heap.size := ⟨_, rfl⟩
      rw [← hwn, ← hg5] at vn
      rw [← hwn] at hbn
      rw [← hwn, ← hg5]
      have VN := Lib.hid vn
      clear hwn hg5 vn K1 K2
      refine wp_region_held_drew (S := (Below wn.heap.size wn)) (by kernel_rfl) (bdrew (Below.refl _ _)) (fun hHeld => ?_)
      obtain ⟨u, hu⟩ : ∃ x, wn.drew = x := ⟨_, rfl⟩
      rw [hu] at hHeld ⊢
      clear hu
      obtain ⟨FJ, hFJ⟩ : ∃ x, fj (n : Int) l k = x := ⟨_, rfl⟩
      rw [hFJ] at HS hl6 ⊢
      clear hFJ
      refine takeL (i := 0) (v := txt FJ) rfl (by kernel_rfl) (by kernel_rfl) (by kernel_rfl) (fun _ _ _ h => h) (Or.inl ⟨by rfl, by intro w' hS; clear hS; go_simp⟩) hHeld ?_
      simp only [Act.put, List.setIfInBounds_toArray, List.set_cons_zero, List.set_cons_succ]
      refine takeL (i := 1) (v := .pointer (some ⟨g5, 0, none⟩)) rfl (by kernel_rfl) (by kernel_rfl) (by kernel_rfl) (fun _ _ _ h => h) (Or.inl ⟨by rfl, by intro w' hS; clear hS; go_simp⟩) hHeld ?_
      simp only [Act.put, List.setIfInBounds_toArray, List.set_cons_zero, List.set_cons_succ]
      refine takeL (i := 2) (v := .int .i8 (n1 : Int)) rfl (by kernel_rfl) (by kernel_rfl) (by kernel_rfl) (fun _ _ _ h => h) (Or.inl ⟨by rfl, by intro w' hS; have y1 := (VN.out.below hS).cell (i := 0) rfl; clear hS; go_simp⟩) hHeld ?_
      simp only [Act.put, List.setIfInBounds_toArray, List.set_cons_zero, List.set_cons_succ]
      refine takeL (i := 3) (v := .int .i64 (n1 : Int)) rfl (by kernel_rfl) (by kernel_rfl) (by kernel_rfl) (fun _ _ _ h => h) (Or.inl ⟨by rfl, by intro w' hS; clear hS; go_simp⟩) hHeld ?_
      simp only [Act.put, List.setIfInBounds_toArray, List.set_cons_zero, List.set_cons_succ]
      refine takeL (i := 7) (v := .pointer (some ⟨g5, 1, none⟩)) rfl (by kernel_rfl) (by kernel_rfl) (by kernel_rfl) (fun _ _ _ h => h) (Or.inl ⟨by rfl, by intro w' hS; clear hS; go_simp⟩) hHeld ?_
      simp only [Act.put, List.setIfInBounds_toArray, List.set_cons_zero, List.set_cons_succ]
      refine takeL (i := 8) (v := .int .i8 (n2 : Int)) rfl (by kernel_rfl) (by kernel_rfl) (by kernel_rfl) (fun _ _ _ h => h) (Or.inl ⟨by rfl, by intro w' hS; have y1 := (VN.out.below hS).cell (i := 1) rfl; clear hS; go_simp⟩) hHeld ?_
      simp only [Act.put, List.setIfInBounds_toArray, List.set_cons_zero, List.set_cons_succ]
      refine takeL (i := 9) (v := .int .i64 (n2 : Int)) rfl (by kernel_rfl) (by kernel_rfl) (by kernel_rfl) (fun _ _ _ h => h) (Or.inl ⟨by rfl, by intro w' hS; clear hS; go_simp⟩) hHeld ?_
      simp only [Act.put, List.setIfInBounds_toArray, List.set_cons_zero, List.set_cons_succ]
      refine wpAnyH_ready (rs := [4]) (by kernel_rfl) (by simp) ?_
      refine readyL rfl (fun K hK => ?_) AllReadyH.nil
      go_simp
      refine (c_implPitchName (n1 : Int) _).mono ?_
      rintro e v ⟨rfl, hbk⟩
      rw [HRN.out]
      go_wp2_with fail
      refine hK.out _ _ (bstep hHeld hbk) (fun hHeld => ?_)
      clear hK K
      try simp only [Act.put, List.setIfInBounds_toArray, List.set_cons_zero, List.set_cons_succ]
      clear hbk
      refine takeL (i := 5) (v := txt ([32] ++ (nameP n1))) rfl (by kernel_rfl) (by kernel_rfl) (by kernel_rfl) (fun _ _ _ h => h) (yieldsIf_addS [32] (nameP n1) rfl rfl rfl rfl (by simp) hl1) hHeld ?_
      simp only [Act.put, List.setIfInBounds_toArray, List.set_cons_zero, List.set_cons_succ]
      refine takeL (i := 6) (v := txt (([32] ++ nameP n1) ++ [47])) rfl (by kernel_rfl) (by kernel_rfl) (by kernel_rfl) (fun _ _ _ h => h) (yieldsIf_addS ([32] ++ nameP n1) [47] rfl rfl rfl rfl hl2 (by simp)) hHeld ?_
      simp only [Act.put, List.setIfInBounds_toArray, List.set_cons_zero, List.set_cons_succ]
      refine wpAnyH_ready (rs := [10]) (by kernel_rfl) (by simp) ?_
      refine readyL rfl (fun K hK => ?_) AllReadyH.nil
      go_simp
      refine (c_decimal n2 _ (by omega)).mono ?_
      rintro e v ⟨rfl, hbk⟩
      go_wp2_with fail
      refine hK.out _ _ (bstep hHeld hbk) (fun hHeld => ?_)
      clear hK K
      try simp only [Act.put, List.setIfInBounds_toArray, List.set_cons_zero, List.set_cons_succ]
      clear hbk
      refine takeL (i := 11) (v := txt ((([32] ++ nameP n1) ++ [47]) ++ (Lib.decDigits n2))) rfl (by kernel_rfl) (by kernel_rfl) (by kernel_rfl) (fun _ _ _ h => h) (yieldsIf_addS (([32] ++ nameP n1) ++ [47]) (Lib.decDigits n2) rfl rfl rfl rfl hl3 hl4) hHeld ?_
      simp only [Act.put, List.setIfInBounds_toArray, List.set_cons_zero, List.set_cons_succ]
      refine takeL (i := 12) (v := txt (FJ ++ ((([32] ++ nameP n1) ++ [47]) ++ Lib.decDigits n2))) rfl (by kernel_rfl) (by kernel_rfl) (by kernel_rfl) (fun _ _ _ h => h) (yieldsIf_addS FJ ((([32] ++ nameP n1) ++ [47]) ++ Lib.decDigits n2) rfl rfl rfl rfl hl6 hl5) hHeld ?_
      simp only [Act.put, List.setIfInBounds_toArray, List.set_cons_zero, List.set_cons_succ]
      refine wpAnyH_ready (rs := [13]) (by kernel_rfl) (by simp) ?_
      refine readyL rfl (fun K hK => ?_) AllReadyH.nil
      go_simp
      refine hK.out _ _ (hHeld) (fun hHeld => ?_)
      clear hK K
      try simp only [Act.put, List.setIfInBounds_toArray, List.set_cons_zero, List.set_cons_succ]
      refine wpAnyH_done (by kernel_rfl) ?_ _
      have HH := Lib.hid hHeld
      clear hHeld
      go_wp2_with fail
      go_roundw
      case rel => exact ⟨k + 1, by go_num, by rw [HS.out]; simp, by omega, bstep (bstep hb hbn) HH.out⟩
      case measure => simp [intOf] <;> omega
    · obtain rfl : k = l.length := by omega
      go_wp2_with fail
      go_ret
      exact ⟨rfl, bstep B2 hb⟩

theorem c_implFrameText (s : Int) (A : Option Addr) (c : Nat) (l : List (Int × Int)) (w : World) (h : At2 .i8 .i8 w A l) (hs : W16 s) (hl : Whs l) (hn : l.length ≤ 1073741824) :
    Calls Tryz.prog 8 #[.agg #[.int .i16 s, .slice A l.length c]] w fun e w' => e = .returned (txt (rFT s l)) ∧ Below w.heap.size w w' := by
  rcases hok : okF s l with _ | _
  · have HF := Lib.hid (show rFT s l = [] by unfold rFT; rw [hok]; rfl)
    have HOK := Lib.hid hok
    have hu2 := Tryz.underlying27
    have B := balloc (Below.refl _ w) (.cells #[.int .i16 s, .slice A l.length c] 27)
    clear hok
    go_enter Tryz.func8, Tryz.ntmps8
    go_wp2_with fail
    refine (c_ValidFrame s A c l _ (h.below B) hs hl hn).mono ?_
    rintro e w1 ⟨rfl, b1⟩
    rw [HOK.out]
    go_wp2
    go_ret
    exact ⟨by rw [HF.out]; rfl, bstep B b1⟩
  · have hF : rFT s l = fj s l l.length := by unfold rFT; rw [hok]; rfl
    rw [hF]
    exact c_FrameTextOk s A c l w h hs hl hn hok

end Go.Proofs.YtjcbailckchnoaaGreatDoor
