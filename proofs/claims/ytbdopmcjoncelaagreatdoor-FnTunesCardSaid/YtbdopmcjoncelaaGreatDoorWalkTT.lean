/-
  The walks of TuneText, in the reference and in the program.
-/
import Derived.Test.YtbdopmcjoncelaaGreatDoorWalkPN
import Derived.Test.YtbdopmcjoncelaaGreatDoorWalkB
import Derived.Test.YtbdopmcjoncelaaGreatDoorWalkC
import Derived.Test.YtbdopmcjoncelaaGreatDoorData
import Derived.Lib.Join
import Derived.Lib.AppendIntMem
namespace Go.Proofs.YtbdopmcjoncelaaGreatDoor
open Go.RowKit
set_option linter.unusedVariables false
set_option linter.unusedSimpArgs false
set_option maxRecDepth 4000

/-- A note as a text. -/
def noteT (p : Int × Int) : List UInt8 := (Lib.decDigits p.1.toNat ++ [58]) ++ nameP p.2.toNat
theorem noteT_len {p : Int × Int} (h1 : p.1 ≤ 199) (h2 : p.2 ≤ 47) : (noteT p).length ≤ 207 := by
  unfold noteT
  have a1 := dec_len p.1.toNat
  have a2 := nameP_len (n := p.2.toNat) (by omega)
  simp only [List.length_append, List.length_cons, List.length_nil]; omega
theorem join_snoc (xs : List (List UInt8)) (y sep : List UInt8) (h : xs ≠ []) : Lib.join (xs ++ [y]) sep = Lib.join xs sep ++ sep ++ y := by
  cases xs with
  | nil => exact absurd rfl h
  | cons x r =>
    rw [List.cons_append, Lib.join_cons, Lib.join_cons]
    unfold Lib.joinTail
    simp [List.append_assoc]
/-- The text of the first k notes. -/
def tj (l : List (Int × Int)) (k : Nat) : List UInt8 := Lib.join ((l.take k).map noteT) [32]
/-- .. and the space behind it. -/
def tp (l : List (Int × Int)) (k : Nat) : List UInt8 := if k = 0 then [] else tj l k ++ [32]
theorem tj_zero (l : List (Int × Int)) : tj l 0 = [] := rfl
theorem tj_succ {l : List (Int × Int)} {k : Nat} (h : k < l.length) : tj l (k + 1) = tp l k ++ noteT l[k] := by
  unfold tj tp
  rw [List.take_add_one, List.getElem?_eq_getElem h, Option.toList_some, List.map_append, List.map_cons, List.map_nil]
  by_cases hk : k = 0
  · subst hk; rw [if_pos rfl, List.take_zero, List.map_nil, List.nil_append, Lib.join_one]; rfl
  · rw [if_neg hk, join_snoc _ _ _ (by
      intro e
      have := congrArg List.length e
      rw [List.length_map, List.length_take, List.length_nil] at this
      omega)]
    rfl
theorem tj_len {l : List (Int × Int)} (hl : ∀ i (h : i < l.length), l[i].1 ≤ 199 ∧ l[i].2 ≤ 47) : ∀ k, k ≤ l.length → (tj l k).length ≤ 208 * k
  | 0, _ => by rw [tj_zero]; simp
  | k + 1, h => by
    have ih := tj_len hl k (by omega)
    have a := noteT_len (hl k (by omega)).1 (hl k (by omega)).2
    rw [tj_succ (by omega), List.length_append]
    unfold tp
    split <;> simp <;> omega
/-- The text of a tune, empty where it is not valid. -/
noncomputable def rTT (l : List (Int × Int)) : List UInt8 := if okT l then tj l l.length else []

theorem c_decimalT (n : Nat) (w : World) (hn : n ≤ 1000000) (ht : Lib.TabIs Tryz.prog w "internal/strconv.uint64pow10" .u64 Lib.pow10Tab) :
    Calls Tryz.prog 33 #[.int .i64 (n : Int)] w fun e w' => e = .returned (txt (Lib.decDigits n)) ∧ Below w.heap.size w w' := by
  have hi : Lib.itoa (n : Int) = Lib.decDigits n := by unfold Lib.itoa; rw [if_neg (by omega), Int.toNat_natCast]
  go_enter Tryz.func33, Tryz.ntmps33
  go_wp2_with fail
  refine (Tryz.strconv_FormatInt_10 (n : Int) (by omega) (by omega) _ ht).mono ?_
  rintro e w' ⟨rfl, k, os, rfl⟩
  have hb := Lib.below_grow w.heap.size w (Nat.le_refl _) k os
  obtain ⟨w2, hw2⟩ : ∃ x, Sort.grow (w.drewN k) os = x := ⟨_, rfl⟩
  rw [hw2] at hb ⊢
  rw [hi]
  clear hw2
  go_wp2
  go_ret
  exact ⟨rfl, hb⟩



theorem info_strT : (Tryz.prog.info? 9).map (fun i => (i.zero, i.size, i.bytes)) = some (some (txt []), 1, 16) := by kernel_rfl
set_option maxHeartbeats 1600000 in
theorem c_TuneTextOk (A : Option Addr) (c : Nat) (l : List (Int × Int)) (w : World) (h : At2 .i16 .i8 w A l) (hw : Wf l) (hn : l.length ≤ 1073741824) (hok : okT l = true) (ht : Lib.TabBelow Tryz.prog w.heap.size w "internal/strconv.uint64pow10" .u64 Lib.pow10Tab) :
    Calls Tryz.prog 7 #[.slice A l.length c] w fun e w' => e = .returned (txt (tj l l.length)) ∧ Below w.heap.size w w' := by
  have hst := Tryz.underlying9
  have hu := Tryz.underlying40
  have hlen := okT_len hok
  have hnt := fun i (hi : i < l.length) => okT_note hok hi
  have hTL := tj_len (l := l) (fun i hi => ⟨(hnt i hi).2.1, (hnt i hi).2.2.2⟩) l.length (Nat.le_refl _)
  have HN := Lib.hid hnt
  have HTL := Lib.hid hTL
  have HTB := Lib.hid ht
  have HOK := Lib.hid hok
  clear hnt hTL ht hok
  go_enter Tryz.func7, Tryz.ntmps7
  go_wp2_with fail
  refine (c_ValidTune A c l _ h hw hn).mono ?_
  rintro e w1 ⟨rfl, b1⟩
  rw [HOK.out]
  have H1 := Lib.hid (h.below b1)
  have HT1 := Lib.hid (HTB.out.on b1)
  go_wp2
  go_loopw [3, 12] (fun v i w' => ∃ (k : Nat) (A' : Option Addr) (c' : Nat), i = .int .i64 (k : Int) ∧ v = .slice A' k c' ∧ k ≤ l.length ∧ OwnS 9 w' w1.heap.size v ((l.take k).map noteT) ∧ Below w1.heap.size w1 w') (fun _ i _ => l.length - (intOf i).toNat)
  case atStart => exact ⟨0, _, _, rfl, rfl, by omega, OwnS.lit0 (Nat.le_refl _), balloc (Below.refl _ _) _⟩
  case round =>
    obtain ⟨k, A1, c1, rfl, rfl, hk, hown, hb⟩ := hrel
    have HO := Lib.hid hown
    clear hown
    by_cases hlt : k < l.length
    · have hd1 : decide ((k : Int) < (l.length : Int)) = true := decide_eq_true (by omega)
      obtain ⟨b, off, hAe, hbl, hc⟩ := (H1.out.below hb).get (by omega)
      obtain ⟨n1, hn1⟩ := Int.eq_ofNat_of_zero_le (HN.out k hlt).1
      obtain ⟨n2, hn2⟩ := Int.eq_ofNat_of_zero_le (HN.out k hlt).2.2.1
      have hb1 : n1 ≤ 199 := by have := (HN.out k hlt).2.1; omega
      have hb2 : n2 ≤ 47 := by have := (HN.out k hlt).2.2.2; omega
      obtain ⟨NT, hNT⟩ : ∃ x, (Lib.decDigits n1 ++ [58]) ++ nameP n2 = x := ⟨_, rfl⟩
      have HNT := Lib.hid hNT
      have HS := Lib.hid (show (l.take (k + 1)).map noteT = (l.take k).map noteT ++ [NT] by
        rw [List.take_add_one, List.getElem?_eq_getElem hlt, Option.toList_some, List.map_append, List.map_cons, List.map_nil, ← hNT]; unfold noteT; rw [hn1, hn2, Int.toNat_natCast, Int.toNat_natCast])
      have hl1 : (Lib.decDigits n1).length ≤ 8388608 := Nat.le_trans (dec_len n1) (by omega)
      have hl2 : (nameP n2).length ≤ 8388608 := Nat.le_trans (nameP_len hb2) (by decide)
      have hl5 : (Lib.decDigits n1 ++ [58]).length ≤ 8388608 := by have := dec_len n1; simp; omega
      have hlen2 : ((l.take k).map noteT).length ≤ 1073741824 := by simp; omega
      have HLn := Lib.hid (show ((l.take k).map noteT ++ [NT]).length = k + 1 by simp; omega)
      have HRN := Lib.hid (show rName (n2 : Int) = nameP n2 by unfold rName inB; rw [if_pos (by simp; omega), Int.toNat_natCast])
      have K1 := (hc k hlt).1
      have K2 := (hc k hlt).2
      rw [hn1] at K1
      rw [hn2] at K2
      clear hc hn1 hn2 hNT
      subst hAe
      have i3 : (0 : Int) ≤ (k : Int) := by omega
      have i2 : (k : Int) < (l.length : Int) := by omega
      have hkw : IntKind.i64.wrap ((k : Int) + 1) = ((k + 1 : Nat) : Int) := by rw [IntWalk.i64_in _ (by omega)]; rfl
      have ww1 : IntKind.i64.wrap (n1 : Int) = (n1 : Int) := IntWalk.i64_in _ (by omega)
      have ww2 : IntKind.i64.wrap (n2 : Int) = (n2 : Int) := IntWalk.i64_in _ (by omega)
      have vn := Var.new wr #[.int .i16 (n1 : Int), .int .i8 (n2 : Int)] 40
      have hbn := balloc (Below.refl _ wr) (.cells #[.int .i16 (n1 : Int), .int .i8 (n2 : Int)] 40)
      go_upto_region 7 with fail
      obtain ⟨wn, hwn⟩ : ∃ x, x = wr.alloc (.cells #[.int .i16 (n1 : Int), .int .i8 (n2 : Int)] 40) := ⟨_, rfl⟩
      obtain ⟨g5, hg5⟩ : ∃ x, x = wr.heap.size := ⟨_, rfl⟩
      rw [← hwn, ← hg5] at vn
      rw [← hwn] at hbn
      rw [← hwn, ← hg5]
      have VN := Lib.hid vn
      have HOn := Lib.hid (HO.out.below hbn)
      have BNs := bstep hb hbn
      have BN := bstep b1 BNs
      clear hwn hg5 vn
      refine wp_region_held_drew (S := fun w' => Var w' g5 #[.int .i16 (n1 : Int), .int .i8 (n2 : Int)] 40 ∧ Below w1.heap.size w1 w') (by kernel_rfl) ⟨VN.out.drew, bdrew BNs⟩ (fun hHeld => ?_)
      have ho0 := HOn.out.below (bdrew (Below.refl _ _))
      obtain ⟨u, hu⟩ : ∃ x, wn.drew = x := ⟨_, rfl⟩
      rw [hu] at hHeld ho0 ⊢
      clear hu
      refine takeL (i := 0) (v := .slice A1 k c1) rfl (by kernel_rfl) (by kernel_rfl) (by kernel_rfl) (fun _ _ _ h => h) (Or.inl ⟨by rfl, by intro w' hS; clear hS; go_simp⟩) hHeld ?_
      simp only [Act.put, List.setIfInBounds_toArray, List.set_cons_zero, List.set_cons_succ]
      refine takeL (i := 1) (v := .pointer (some ⟨g5, 0, none⟩)) rfl (by kernel_rfl) (by kernel_rfl) (by kernel_rfl) (fun _ _ _ h => h) (Or.inl ⟨by rfl, by intro w' hS; clear hS; go_simp⟩) hHeld ?_
      simp only [Act.put, List.setIfInBounds_toArray, List.set_cons_zero, List.set_cons_succ]
      refine takeL (i := 2) (v := .int .i16 (n1 : Int)) rfl (by kernel_rfl) (by kernel_rfl) (by kernel_rfl) (fun _ _ _ h => h) (Or.inl ⟨by rfl, by intro w' hS; have y1 := hS.1.cell (i := 0) rfl; clear hS; go_simp⟩) hHeld ?_
      simp only [Act.put, List.setIfInBounds_toArray, List.set_cons_zero, List.set_cons_succ]
      refine takeL (i := 3) (v := .int .i64 (n1 : Int)) rfl (by kernel_rfl) (by kernel_rfl) (by kernel_rfl) (fun _ _ _ h => h) (Or.inl ⟨by rfl, by intro w' hS; clear hS; go_simp⟩) hHeld ?_
      simp only [Act.put, List.setIfInBounds_toArray, List.set_cons_zero, List.set_cons_succ]
      refine takeL (i := 6) (v := .pointer (some ⟨g5, 1, none⟩)) rfl (by kernel_rfl) (by kernel_rfl) (by kernel_rfl) (fun _ _ _ h => h) (Or.inl ⟨by rfl, by intro w' hS; clear hS; go_simp⟩) hHeld ?_
      simp only [Act.put, List.setIfInBounds_toArray, List.set_cons_zero, List.set_cons_succ]
      refine takeL (i := 7) (v := .int .i8 (n2 : Int)) rfl (by kernel_rfl) (by kernel_rfl) (by kernel_rfl) (fun _ _ _ h => h) (Or.inl ⟨by rfl, by intro w' hS; have y2 := hS.1.cell (i := 1) rfl; clear hS; go_simp⟩) hHeld ?_
      simp only [Act.put, List.setIfInBounds_toArray, List.set_cons_zero, List.set_cons_succ]
      refine takeL (i := 8) (v := .int .i64 (n2 : Int)) rfl (by kernel_rfl) (by kernel_rfl) (by kernel_rfl) (fun _ _ _ h => h) (Or.inl ⟨by rfl, by intro w' hS; clear hS; go_simp⟩) hHeld ?_
      simp only [Act.put, List.setIfInBounds_toArray, List.set_cons_zero, List.set_cons_succ]
      refine wpAnyH_ready (rs := [4]) (by kernel_rfl) (by simp) ?_
      refine readyL rfl (fun K hK => ?_) AllReadyH.nil
      go_simp
      refine (c_decimalT n1 _ (by omega) (HT1.out.on (hHeld.2.mono b1.size)).here).mono ?_
      rintro e v ⟨rfl, hbk⟩
      go_wp2_with fail
      have ho1 := ho0.below hbk
      refine hK.out _ _ (⟨hHeld.1.below hbk, bstep hHeld.2 hbk⟩) (fun hHeld => ?_)
      clear hK K
      try simp only [Act.put, List.setIfInBounds_toArray, List.set_cons_zero, List.set_cons_succ]
      clear hbk ho0
      refine takeL (i := 5) (v := txt (Lib.decDigits n1 ++ [58])) rfl (by kernel_rfl) (by kernel_rfl) (by kernel_rfl) (fun _ _ _ h => h) (yieldsIf_addS (Lib.decDigits n1) [58] rfl rfl rfl rfl hl1 (by simp)) hHeld ?_
      simp only [Act.put, List.setIfInBounds_toArray, List.set_cons_zero, List.set_cons_succ]
      refine wpAnyH_ready (rs := [9]) (by kernel_rfl) (by simp) ?_
      refine readyL rfl (fun K hK => ?_) AllReadyH.nil
      go_simp
      refine (c_implPitchName (n2 : Int) _).mono ?_
      rintro e v2 ⟨rfl, hbk⟩
      rw [HRN.out]
      go_wp2_with fail
      have ho2 := ho1.below hbk
      refine hK.out _ _ (⟨hHeld.1.below hbk, bstep hHeld.2 hbk⟩) (fun hHeld => ?_)
      clear hK K
      try simp only [Act.put, List.setIfInBounds_toArray, List.set_cons_zero, List.set_cons_succ]
      clear hbk ho1
      refine takeL (i := 10) (v := txt ((Lib.decDigits n1 ++ [58]) ++ (nameP n2))) rfl (by kernel_rfl) (by kernel_rfl) (by kernel_rfl) (fun _ _ _ h => h) (yieldsIf_addS (Lib.decDigits n1 ++ [58]) (nameP n2) rfl rfl rfl rfl hl5 hl2) hHeld ?_
      simp only [Act.put, List.setIfInBounds_toArray, List.set_cons_zero, List.set_cons_succ]
      rw [HNT.out]
      refine wpAnyH_ready (rs := [11]) (by kernel_rfl) (by simp) ?_
      refine readyL rfl (fun K hK => ?_) AllReadyH.nil
      go_simp
      have z1 := cell_new v2 #[txt NT] 9 (i := 0) rfl
      have hown2 := ho2.alloc (.cells #[txt NT] 9)
      obtain ⟨g, hg⟩ : ∃ g : Nat, g = v2.heap.size := ⟨_, rfl⟩
      rw [← hg] at z1 ⊢
      refine hK.out _ _ (⟨hHeld.1.old (.cells #[txt NT] 9), balloc hHeld.2 (.cells #[txt NT] 9)⟩) (fun hHeld => ?_)
      clear hK K
      try simp only [Act.put, List.setIfInBounds_toArray, List.set_cons_zero, List.set_cons_succ]
      obtain ⟨v3, hv3⟩ : ∃ x, x = v2.alloc (.cells #[txt NT] 9) := ⟨_, rfl⟩
      rw [← hv3] at hHeld z1 hown2 ⊢
      clear hv3 hg ho2
      refine wpAnyH_ready (rs := [12]) (by kernel_rfl) (by simp) ?_
      refine readyL rfl (fun K hK => ?_) AllReadyH.nil
      rw [if_pos (by rfl)]
      refine wp_append_txt (.tmp 16) (.tmp 27) 47 rfl 9 16 Tryz.underlying47 info_strT (by decide) w1.heap.size _ _ rfl hown2 _ _ NT rfl z1 hlen2 hHeld.2.size ?_
      intro A3 c3 w3 ho3 hg3
      refine hK.out _ _ (⟨hHeld.1.grownH hg3 (own_ne_var hown2 hHeld.1 (by decide)), bgrown hHeld.2 hg3 (fun j hj => hown2.low hj)⟩) (fun hHeld => ?_)
      clear hK K
      try simp only [Act.put, List.setIfInBounds_toArray, List.set_cons_zero, List.set_cons_succ]
      clear hown2 hg3 z1
      refine wpAnyH_ready (rs := [13]) (by kernel_rfl) (by simp) ?_
      refine readyL rfl (fun K hK => ?_) AllReadyH.nil
      go_simp
      refine hK.out _ _ (hHeld) (fun hHeld => ?_)
      clear hK K
      try simp only [Act.put, List.setIfInBounds_toArray, List.set_cons_zero, List.set_cons_succ]
      refine wpAnyH_done (by kernel_rfl) ?_ _
      rw [HLn.out] at ho3
      have HQ := Lib.hid (And.intro ho3 hHeld.2)
      clear ho3 hHeld
      go_wp2_with fail
      go_roundw
      case rel => exact ⟨k + 1, A3, c3, by go_num, rfl, by omega, by rw [HS.out]; exact HQ.out.1, HQ.out.2⟩
      case measure => simp [intOf] <;> omega
    · obtain rfl : k = l.length := by omega
      rw [List.take_length] at HO
      have hsep : (ByteArray.mk #[32]).data.toList = [32] := rfl
      have hxs : ((l.map noteT).map fun t => (⟨t.toArray⟩ : ByteArray)).map (·.data.toList) = l.map noteT := by
        rw [List.map_map]
        conv => rhs; rw [← List.map_id (l.map noteT)]
        rfl
      have hJ : Lib.join (((l.map noteT).map fun t => (⟨t.toArray⟩ : ByteArray)).map (·.data.toList)) (ByteArray.mk #[32]).data.toList = tj l l.length := by
        rw [hxs, hsep]; unfold tj; rw [List.take_length]
      have HJ := Lib.hid hJ
      have hxl : ((l.map noteT).map fun t => (⟨t.toArray⟩ : ByteArray)).length = l.length := by simp
      have HXL := Lib.hid hxl
      clear hsep hxs hJ hxl
      go_wp2_with fail
      by_cases h0 : l.length = 0
      · rw [h0]
        refine (Tryz.strings_Join_none A1 c1 _ _).mono ?_
        rintro e w2 ⟨rfl, rfl⟩
        have HZ := Lib.hid (show tj l l.length = [] by rw [h0]; rfl)
        clear h0
        go_wp2
        go_ret
        exact ⟨by rw [HZ.out]; rfl, bstep b1 hb⟩
      · obtain ⟨g, rfl⟩ := HO.out.form (by omega)
        obtain ⟨A', c', he, hcap, _⟩ := HO.out.reads
        simp only [Value.slice.injEq] at he
        obtain ⟨ha1, ha2, rfl⟩ := he
        clear ha1 ha2
        have hj := Tryz.strings_Join g 0 c1 ((l.map noteT).map fun t => (⟨t.toArray⟩ : ByteArray)) ⟨#[32]⟩ wr (fun j x hx => by
          rw [List.getElem?_map] at hx
          cases hq : (l.map noteT)[j]? with
          | none => rw [hq] at hx; cases hx
          | some y =>
            rw [hq] at hx
            obtain ⟨hjl, rfl⟩ := List.getElem?_eq_some_iff.1 hq
            have := (HO.out.cell j hjl).1
            simp only [Option.map_some, Option.some.injEq] at hx
            rw [← hx, Nat.zero_add]
            exact this) (HO.out.high (j := g) rfl) (by rw [HXL.out]; omega) (by rw [HXL.out]; simpa using hcap) (by rw [HJ.out]; have := HTL.out; omega)
        rw [HXL.out, HJ.out] at hj
        refine hj.mono ?_
        rintro e w2 ⟨rfl, b2⟩
        clear hj
        go_wp2
        go_ret
        exact ⟨rfl, bstep b1 (bstep hb b2)⟩

theorem c_implTuneText (A : Option Addr) (c : Nat) (l : List (Int × Int)) (w : World) (h : At2 .i16 .i8 w A l) (hw : Wf l) (hn : l.length ≤ 1073741824) (ht : Lib.TabBelow Tryz.prog w.heap.size w "internal/strconv.uint64pow10" .u64 Lib.pow10Tab) :
    Calls Tryz.prog 7 #[.slice A l.length c] w fun e w' => e = .returned (txt (rTT l)) ∧ Below w.heap.size w w' := by
  rcases hok : okT l with _ | _
  · have HF := Lib.hid (show rTT l = [] by unfold rTT; rw [hok]; rfl)
    have HOK := Lib.hid hok
    clear hok
    go_enter Tryz.func7, Tryz.ntmps7
    go_wp2_with fail
    refine (c_ValidTune A c l _ h hw hn).mono ?_
    rintro e w1 ⟨rfl, b1⟩
    rw [HOK.out]
    go_wp2
    go_ret
    exact ⟨by rw [HF.out]; rfl, b1⟩
  · have hF : rTT l = tj l l.length := by unfold rTT; rw [hok]; rfl
    rw [hF]
    exact c_TuneTextOk A c l w h hw hn hok ht

end Go.Proofs.YtbdopmcjoncelaaGreatDoor
