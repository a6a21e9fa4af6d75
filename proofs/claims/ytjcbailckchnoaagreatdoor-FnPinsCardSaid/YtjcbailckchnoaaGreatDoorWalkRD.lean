/-
  The walks of the readers' own functions, in the reference and in the program: cut at a letter, numerals, names of pitches.
-/
import Derived.Test.YtjcbailckchnoaaGreatDoorWalkPN
import Derived.Test.YtjcbailckchnoaaGreatDoorPureV
import Derived.Test.YtjcbailckchnoaaGreatDoorDataS
import Derived.Test.YtjcbailckchnoaaGreatDoorShelfD
namespace Go.Proofs.YtjcbailckchnoaaGreatDoor
open Go.RowKit
set_option linter.unusedVariables false
set_option linter.unusedSimpArgs false
set_option maxRecDepth 4000

theorem info_strR : (Tryz.prog.info? 9).map (fun i => (i.zero, i.size, i.bytes)) = some (some (txt []), 1, 16) := by kernel_rfl
/-- The pitch of a name. -/
def pit (t : List UInt8) : Option Nat := (List.range 48).find? fun i => nameP i == t
theorem pit_some {t : List UInt8} {k : Nat} (h1 : k < 48) (h2 : nameP k = t) (h3 : ∀ i, i < k → nameP i ≠ t) : pit t = some k :=
  List.find?_range_eq_some.2 ⟨by simpa using h2, by simpa using h1, fun j hj => by simpa using h3 j hj⟩
theorem pit_none {t : List UInt8} (h3 : ∀ i, i < 48 → nameP i ≠ t) : pit t = none :=
  List.find?_range_eq_none.2 fun j hj => by simpa using h3 j hj
theorem pit_inv {t : List UInt8} {k : Nat} (h : pit t = some k) : k < 48 ∧ nameP k = t := by
  obtain ⟨h1, h2, _⟩ := List.find?_range_eq_some.1 h
  exact ⟨by simpa using h2, by simpa using h1⟩
def pitI (t : List UInt8) : Int := match pit t with
  | some k => (k : Int)
  | none => -1
def numZ (o : Option Nat) : Int := match o with
  | some k => (k : Int)
  | none => 0


theorem c_Split (s : List UInt8) (c : UInt8) (w : World) (hs : s.length ≤ 1048576) (ht : Tabs w) :
    Calls Tryz.prog 29 #[txt s, txt [c]] w fun e w' => ∃ A', e = .returned (.slice A' (spl c s).length (spl c s).length) ∧ AtS w' A' (spl c s) ∧ Below w.heap.size w w' := by
  obtain ⟨m, hm⟩ := ht.len
  have h := Tryz.strings_Split ⟨s.toArray⟩ ⟨[c].toArray⟩ m w (by simp [ByteArray.size]; omega) hm (by simp [ByteArray.size])
  have hl : Lib.countB ⟨s.toArray⟩ ⟨[c].toArray⟩ + 1 = (spl c s).length := (count_spl c s).symm
  have hc : (Lib.splitB ⟨[c].toArray⟩ 0 (Lib.countB ⟨s.toArray⟩ ⟨[c].toArray⟩) ⟨s.toArray⟩).map Value.string = (spl c s).map txt := by
    have h1 := Lib.splitB_data ⟨[c].toArray⟩ 0 (Lib.countB ⟨s.toArray⟩ ⟨[c].toArray⟩) ⟨s.toArray⟩
    have h2 : Lib.splitK (ByteArray.mk [c].toArray).data.toList 0 (Lib.countB ⟨s.toArray⟩ ⟨[c].toArray⟩) (ByteArray.mk s.toArray).data.toList = spl c s := split_spl c s
    rw [h2] at h1
    rw [← h1, List.map_map]
    refine List.map_congr_left fun x _ => ?_
    cases x; simp [txt]
  rw [hl, hc] at h
  refine h.mono ?_
  rintro e w' ⟨rfl, rfl⟩
  exact ⟨_, rfl, by have := Row.lit (w := w) ((spl c s).map txt).toArray 9; simpa [AtS] using this, balloc (Below.refl _ _) _⟩
theorem c_Cut (s : List UInt8) (c : UInt8) (w : World) (hs : s.length ≤ 1048576) (ht : Tabs w) :
    Calls Tryz.prog 31 #[txt s, txt [c]] w fun e w' => e = .returned (.tuple #[txt (Lib.cut s [c]).1, txt (Lib.cut s [c]).2.1, .bool (Lib.cut s [c]).2.2]) ∧ Below w.heap.size w w' := by
  obtain ⟨m, hm⟩ := ht.len
  refine (Tryz.strings_Cut ⟨s.toArray⟩ ⟨[c].toArray⟩ m w (by simp [ByteArray.size]; omega) hm).mono ?_
  rintro e w' ⟨rfl, n, rfl⟩
  exact ⟨rfl, rfl, rfl, rfl, Nat.le_refl _, fun _ _ => rfl⟩

theorem c_decimalZ (v : Int) (w : World) (h0 : -9223372036854775808 ≤ v) (h1 : v ≤ 9223372036854775807) (ht : Lib.TabIs Tryz.prog w "internal/strconv.uint64pow10" .u64 Lib.pow10Tab) :
    Calls Tryz.prog 33 #[.int .i64 v] w fun e w' => e = .returned (txt (Lib.itoa v)) ∧ Below w.heap.size w w' := by
  go_enter Tryz.func33, Tryz.ntmps33
  go_wp2_with fail
  refine (Tryz.strconv_FormatInt_10 v h0 h1 _ ht).mono ?_
  rintro e w' ⟨rfl, k, os, rfl⟩
  have hb := Lib.below_grow w.heap.size w (Nat.le_refl _) k os
  obtain ⟨w2, hw2⟩ : ∃ x, Sort.grow (w.drewN k) os = x := ⟨_, rfl⟩
  rw [hw2] at hb ⊢
  clear hw2
  go_wp2
  go_ret
  exact ⟨rfl, hb⟩
/-- What the program's number answers. -/
def numA (m : Nat) (t : List UInt8) : Value := .tuple #[.int .i64 (numZ (numI m t)), .bool (numI m t).isSome]
theorem numA_none {m : Nat} {t : List UInt8} (h : numI m t = none) : numA m t = .tuple #[.int .i64 0, .bool false] := by unfold numA; rw [h]; rfl
theorem numA_some {m n : Nat} {t : List UInt8} (h : numI m t = some n) : numA m t = .tuple #[.int .i64 (n : Int), .bool true] := by unfold numA; rw [h]; rfl

set_option maxHeartbeats 800000 in
theorem c_number (t : List UInt8) (m : Nat) (w : World) (hm : m < 1000) (hl : t.length ≤ 1048576) (ht : Tabs w) :
    Calls Tryz.prog 30 #[txt t, .int .i64 (m : Int)] w fun e w' => e = .returned (numA m t) ∧ Below w.heap.size w w' := by
  have hst := Tryz.underlying9
  have HTB := Lib.hid ht.tabsB
  have hsz : (⟨t.toArray⟩ : ByteArray).size = t.length := by simp [ByteArray.size]
  cases hp : Lib.parseIntB 64 t with
  | ok v =>
    have hpa := Lib.parseIntB_64 t
    rw [hp] at hpa
    have hbd := Lib.atoiAll_bounds hpa.symm
    have hpc := Tryz.strconv_ParseInt_10_at64_ok ⟨t.toArray⟩ (by rw [hsz]; omega) v hp w
    have hbel : ∀ w', (w' = w ∨ ∃ q, w' = Lib.bytesWorld w 5 q) → Below w.heap.size w w' := by
      rintro w' (rfl | ⟨q, rfl⟩)
      · exact Below.refl _ _
      · exact Lib.bytesWorld_below _ _ _
    have HBEL := Lib.hid hbel
    have HPC := Lib.hid hpc
    have HP := Lib.hid hp
    clear hp hpa hpc hbel ht
    by_cases he : Lib.itoa v = t
    · by_cases hr : 0 ≤ v ∧ v ≤ (m : Int)
      · obtain ⟨n, rfl⟩ := Int.eq_ofNat_of_zero_le hr.1
        have hdec : t = Lib.decDigits n := by rw [← he]; unfold Lib.itoa; rw [if_neg (by omega), Int.toNat_natCast]
        have HF := Lib.hid (numA_some ((numI_iff hm t n).2 ⟨hdec, by omega⟩))
        have hin : inB (n : Int) 0 (m : Int) = true := by unfold inB; simp; omega
        have HE := Lib.hid he
        clear hdec he hr
        go_enter Tryz.func30, Tryz.ntmps30
        go_wp2_with fail
        refine HPC.out.mono ?_
        rintro e w1 ⟨rfl, hw1⟩
        have b1 := HBEL.out _ hw1
        clear hw1
        go_wp2_with fail
        refine (c_decimalZ (n : Int) _ hbd.1 hbd.2 (HTB.out.on b1).here.pow).mono ?_
        rintro e w2 ⟨rfl, b2⟩
        rw [HE.out]
        go_wp2_with fail
        refine (c_within _ _ _ _).mono ?_
        rintro e w' ⟨rfl, rfl⟩
        rw [hin]
        go_wp2
        go_ret2
        exact ⟨by rw [HF.out]; rfl, bstep b1 b2⟩
      · have hno : numI m t = none := by
          cases hq : numI m t with
          | none => rfl
          | some n =>
            exfalso
            obtain ⟨h1, h2⟩ := (numI_iff hm t n).1 hq
            have h3 : Lib.parseIntB 64 t = .ok (n : Int) := by rw [h1]; exact parse_dec (by omega)
            rw [HP.out] at h3
            simp only [Lib.NumEnd.ok.injEq] at h3
            exact hr (by omega)
        have HF := Lib.hid (numA_none hno)
        have hin : inB v 0 (m : Int) = false := by
          unfold inB
          rcases Int.lt_or_le v 0 with h | h
          · simp; omega
          · simp; omega
        have HE := Lib.hid he
        clear he hr hno
        go_enter Tryz.func30, Tryz.ntmps30
        go_wp2_with fail
        refine HPC.out.mono ?_
        rintro e w1 ⟨rfl, hw1⟩
        have b1 := HBEL.out _ hw1
        clear hw1
        go_wp2_with fail
        refine (c_decimalZ v _ hbd.1 hbd.2 (HTB.out.on b1).here.pow).mono ?_
        rintro e w2 ⟨rfl, b2⟩
        rw [HE.out]
        go_wp2_with fail
        refine (c_within _ _ _ _).mono ?_
        rintro e w' ⟨rfl, rfl⟩
        rw [hin]
        go_wp2
        go_ret2
        exact ⟨by rw [HF.out]; rfl, bstep b1 b2⟩
    · have hno : numI m t = none := by
        cases hq : numI m t with
        | none => rfl
        | some n =>
          exfalso
          obtain ⟨h1, h2⟩ := (numI_iff hm t n).1 hq
          have h3 : Lib.parseIntB 64 t = .ok (n : Int) := by rw [h1]; exact parse_dec (by omega)
          rw [HP.out] at h3
          simp only [Lib.NumEnd.ok.injEq] at h3
          subst h3
          exact he (by unfold Lib.itoa; rw [if_neg (by omega), Int.toNat_natCast]; exact h1.symm)
      have HF := Lib.hid (numA_none hno)
      obtain ⟨I, hI⟩ : ∃ x, Lib.itoa v = x := ⟨_, rfl⟩
      rw [hI] at he
      have HI := Lib.hid hI
      have hne1 : (I == t) = false := by simpa using he
      have hne2 : (I = t) = False := eq_false he
      clear he hno hI
      go_enter Tryz.func30, Tryz.ntmps30
      go_wp2_with fail
      refine HPC.out.mono ?_
      rintro e w1 ⟨rfl, hw1⟩
      have b1 := HBEL.out _ hw1
      clear hw1
      go_wp2_with fail
      refine (c_decimalZ v _ hbd.1 hbd.2 (HTB.out.on b1).here.pow).mono ?_
      rintro e w2 ⟨rfl, b2⟩
      rw [HI.out]
      go_wp2
      go_ret2
      exact ⟨by rw [HF.out]; rfl, bstep b1 b2⟩
  | range =>
    have hno : numI m t = none := by
      cases hq : numI m t with
      | none => rfl
      | some n =>
        exfalso
        obtain ⟨h1, h2⟩ := (numI_iff hm t n).1 hq
        have h3 : Lib.parseIntB 64 t = .ok (n : Int) := by rw [h1]; exact parse_dec (by omega)
        rw [hp] at h3; cases h3
    have HF := Lib.hid (numA_none hno)
    obtain ⟨tp, p, hv⟩ := ht.rng
    have hpc := Tryz.strconv_ParseInt_10_at64_range ⟨t.toArray⟩ (by rw [hsz]; omega) hp _ w hv (.inr ⟨_, _, rfl⟩)
    have HPC := Lib.hid hpc
    clear hp hpc hno hv ht
    go_enter Tryz.func30, Tryz.ntmps30
    go_wp2_with fail
    refine HPC.out.mono ?_
    rintro e w1 ⟨N, rfl, _, _, b1⟩
    go_wp2
    go_ret2
    exact ⟨by rw [HF.out]; rfl, b1⟩

  | _ =>
    have hno : numI m t = none := by
      cases hq : numI m t with
      | none => rfl
      | some n =>
        exfalso
        obtain ⟨h1, h2⟩ := (numI_iff hm t n).1 hq
        have h3 : Lib.parseIntB 64 t = .ok (n : Int) := by rw [h1]; exact parse_dec (by omega)
        rw [hp] at h3; cases h3
    have HF := Lib.hid (numA_none hno)
    obtain ⟨tp, p, hv⟩ := ht.syn
    have hpc := Tryz.strconv_ParseInt_10_at64_syntax ⟨t.toArray⟩ (by rw [hsz]; omega) (hp.trans (by rfl)) _ w hv (.inr ⟨_, _, rfl⟩)
    have HPC := Lib.hid hpc
    clear hp hpc hno hv ht
    go_enter Tryz.func30, Tryz.ntmps30
    go_wp2_with fail
    refine HPC.out.mono ?_
    rintro e w1 ⟨N, rfl, _, _, b1⟩
    go_wp2
    go_ret2
    exact ⟨by rw [HF.out]; rfl, b1⟩
theorem c_readPitch (t : List UInt8) (w : World) :
    Calls Tryz.prog 32 #[txt t] w fun e w' => e = .returned (.tuple #[.int .i64 (numZ (pit t)), .bool (pit t).isSome]) ∧ Below w.heap.size w w' := by
  have hst := Tryz.underlying9
  go_enter Tryz.func32, Tryz.ntmps32
  go_wp2
  go_loopw [5] (fun i w' => ∃ k : Nat, i = .int .i64 (k : Int) ∧ k ≤ 48 ∧ RowKit.Hid (∀ i, i < k → nameP i ≠ t) ∧ Below w.heap.size w w') (fun i _ => 48 - (intOf i).toNat)
  case atStart => exact ⟨0, rfl, by omega, Lib.hid (fun i hi => absurd hi (by omega)), Below.refl _ _⟩
  case round =>
    obtain ⟨k, rfl, hk, HZ, hb⟩ := hrel
    by_cases hlt : k < 48
    · have hd1 : decide ((k : Int) < 48) = true := decide_eq_true (by omega)
      have hkw : IntKind.i64.wrap ((k : Int) + 1) = ((k + 1 : Nat) : Int) := by rw [IntWalk.i64_in _ (by omega)]; rfl
      have HRN := Lib.hid (show rName (k : Int) = nameP k by unfold rName inB; rw [if_pos (by simp; omega), Int.toNat_natCast])
      obtain ⟨N, hN⟩ : ∃ x, nameP k = x := ⟨_, rfl⟩
      have HN := Lib.hid hN
      by_cases he : N = t
      · have HF := Lib.hid (pit_some hlt (hN.trans he) HZ.out)
        have he1 : (N == t) = true := by simpa using he
        clear hN
        go_wp2_with fail
        refine (c_implPitchName (k : Int) _).mono ?_
        rintro e w1 ⟨rfl, b1⟩
        rw [HRN.out, HN.out]
        go_wp2
        go_ret2
        exact ⟨by rw [HF.out]; rfl, bstep hb b1⟩
      · have HZ2 := Lib.hid (show ∀ i, i < k + 1 → nameP i ≠ t from fun i hi => by
          by_cases e : i = k
          · subst e; rw [HN.out]; exact he
          · exact HZ.out i (by omega))
        have he1 : (N == t) = false := by simpa using he
        have he2 : (N = t) = False := eq_false he
        clear hN he
        go_wp2_with fail
        refine (c_implPitchName (k : Int) _).mono ?_
        rintro e w1 ⟨rfl, b1⟩
        rw [HRN.out, HN.out]
        go_wp2
        go_roundw
        case rel => exact ⟨k + 1, by go_num, by omega, HZ2, bstep hb b1⟩
        case measure => simp [intOf] <;> omega
    · obtain rfl : k = 48 := by omega
      have HF := Lib.hid (pit_none HZ.out)
      go_wp2
      go_ret2
      exact ⟨by rw [HF.out]; rfl, hb⟩

end Go.Proofs.YtjcbailckchnoaaGreatDoor
