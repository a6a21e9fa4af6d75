/-
  slices.Grow of nothing and slices.Concat of two tunes.
-/
import Derived.Test.YtbdopmcjoncelaaGreatDoorWalkD
import Derived.Test.YtbdopmcjoncelaaGreatDoorWalkC
import Derived.Test.YtbdopmcjoncelaaGreatDoorData
namespace Go.Proofs.YtbdopmcjoncelaaGreatDoor
open Go.RowKit
set_option linter.unusedVariables false
set_option linter.unusedSimpArgs false
set_option maxRecDepth 4000

@[irreducible] def catK (l m : List (Int × Int)) : Nat → List (Int × Int)
  | 0 => []
  | 1 => l
  | _ => l ++ m
theorem catK_0 (l m : List (Int × Int)) : catK l m 0 = [] := by unfold catK; rfl
theorem catK_2 (l m : List (Int × Int)) : catK l m 2 = l ++ m := by unfold catK; rfl
theorem catK_bd (l m : List (Int × Int)) (k : Nat) : (catK l m k).length ≤ l.length + m.length := by
  match k with
  | 0 => unfold catK; simp
  | 1 => unfold catK; simp
  | k + 2 => unfold catK; simp
theorem catK_next {l m : List (Int × Int)} {A B : Option Addr} {c d : Nat} {w : World} (h : At2 .i16 .i8 w A l) (h2 : At2 .i16 .i8 w B m) {k : Nat} (hk : k < 2) :
    ∃ X cx x, (#[Value.slice A l.length c, .slice B m.length d] : Array Value)[k]? = some (.slice X x.length cx) ∧ At2 .i16 .i8 w X x ∧ catK l m (k + 1) = catK l m k ++ x := by
  match k, hk with
  | 0, _ => exact ⟨A, c, l, rfl, h, by unfold catK; rfl⟩
  | 1, _ => exact ⟨B, d, m, rfl, h2, by unfold catK; rfl⟩
theorem zeroCells_two (n : Nat) : (Builtin.zeroCells (Value.agg #[.int .i16 0, .int .i8 0]).cells n).size = n * 2 := by
  unfold Builtin.zeroCells; simp [Value.cells]
/-- Block b lies outside of an owned row of another kind of cells. -/
theorem Var.apart2 {w w' : World} {b : Nat} {A B : Option Addr} {n1 n2 c1 c2 : Nat} {t e : TypeId} {base : Nat} {v : Value} {l : List (Int × Int)} (h : Var w b #[.slice A n1 c1, .slice B n2 c2] t) (hg : w.grownBy w' v.ownBlock) (ho : Own2 .i16 .i8 e w base v l) (hlt : b < base) : Var w' b #[.slice A n1 c1, .slice B n2 c2] t :=
  (hg.block b h.lt (fun e => by have := ho.low e.symm; omega)).trans h
theorem c_GrowNil (n : Nat) (w : World) (hn : n ≤ 1073741824) :
    Calls Tryz.prog 80 #[.slice none 0 0, .int .i64 (n : Int)] w fun e w' => ∃ A' c', e = .returned (.slice A' 0 c') ∧ Own2 .i16 .i8 40 w' w.heap.size (.slice A' 0 c') [] ∧ Below w.heap.size w w' := by
  by_cases h0 : n = 0
  · subst h0
    go_enter Tryz.func80, Tryz.ntmps80
    go_wp2
    go_ret
    exact ⟨none, 0, rfl, World.ownsRow_nil _ _ _ _, Below.refl _ _⟩
  · obtain ⟨i, hi, hz0, hz1, hz2⟩ := info_parts info_Note
    have hb : n * i.bytes ≤ 281474976710656 := by rw [hz2]; omega
    have hrz := fun ty => Lib.run_append_nil_zeros (P := Tryz.prog) w 25 3 ty 40 i _ .i64 .i64 Tryz.underlying25 Tryz.underlying3 hi hz0 n (by omega) (by omega) (by omega) hb
    have hG1 := grownCap_ge w n 0 40
    have hG2 := grownCap_le_maxLen w n 0 40 (by unfold maxLen; omega)
    obtain ⟨G, hG⟩ : ∃ G, grownCap w n 0 40 = G := ⟨_, rfl⟩
    rw [hG] at hrz hG1 hG2
    obtain ⟨Z, hZ⟩ : ∃ Z, Builtin.zeroCells (Value.agg #[.int .i16 0, .int .i8 0]).cells n ++ Builtin.zeroCells (Value.agg #[.int .i16 0, .int .i8 0]).cells (G - n) = Z := ⟨_, rfl⟩
    rw [hZ] at hrz
    have hZs : Z.size = G * 2 := by rw [← hZ, Array.size_append, zeroCells_two, zeroCells_two]; omega
    have HO := Lib.hid (World.ownsRow_made (base := w.heap.size) (e := 40) (size := 2) w.drew Z G (Nat.le_refl _) hG2 hZs)
    have hG3 := hG2
    unfold maxLen at hG3
    have HB := Lib.hid (balloc (bdrew (Below.refl _ w)) (.cells Z 40))
    clear hG hZ hZs hG2
    go_enter Tryz.func80, Tryz.ntmps80
    go_wp2_with (at_builtin; refine Lib.wpList_append_run _ rfl _ _ _ _ rfl _ _ rfl rfl _ _ (hrz _) ?_)
    go_ret
    exact ⟨some ⟨w.heap.size, 0, none⟩, G, rfl, HO.out, HB.out⟩

set_option maxHeartbeats 400000 in
/-- Two tunes, one behind the other, in the block that the call lays for them. -/
theorem c_Concat2 (A B : Option Addr) (c d : Nat) (l m : List (Int × Int)) (t : TypeId) (w : World) (h : At2 .i16 .i8 w A l) (h2 : At2 .i16 .i8 w B m) (hn : l.length + m.length ≤ 1073741824) :
    Calls Tryz.prog 55 #[.slice (some ⟨w.heap.size, 0, none⟩) 2 2] (w.alloc (.cells #[.slice A l.length c, .slice B m.length d] t)) fun e w' => ∃ A' c', e = .returned (.slice A' (l ++ m).length c') ∧ Own2 .i16 .i8 40 w' w.heap.size (.slice A' (l ++ m).length c') (l ++ m) ∧ Below w.heap.size w w' := by
  have V := Lib.hid (Var.new w #[.slice A l.length c, .slice B m.length d] t)
  have B0 := balloc (Below.refl _ w) (.cells #[.slice A l.length c, .slice B m.length d] t)
  obtain ⟨w0, hw0⟩ : ∃ u, w.alloc (.cells #[.slice A l.length c, .slice B m.length d] t) = u := ⟨_, rfl⟩
  obtain ⟨b0, hb0⟩ : ∃ u, w.heap.size = u := ⟨_, rfl⟩
  rw [hw0] at V B0 ⊢
  rw [hb0] at V ⊢
  have HB0 := Lib.hid hb0
  clear hw0 hb0
  go_enter Tryz.func55, Tryz.ntmps55
  go_wp2
  go_loopw [3, 11] (fun s i w' => ∃ k : Nat, i = .int .i64 (k : Int) ∧ s = .int .i64 ((catK l m k).length : Int) ∧ k ≤ 2 ∧ Below w0.heap.size w0 w') (fun _ i _ => 2 - (intOf i).toNat)
  case atStart => exact ⟨0, rfl, by rw [catK_0]; rfl, by omega, Below.refl _ _⟩
  case round =>
    obtain ⟨k, rfl, rfl, hk, hb⟩ := hrel
    by_cases hlt : k < 2
    · obtain ⟨X, cx, x, hcx, hx, hcat⟩ := catK_next (c := c) (d := d) ((h.below B0).below hb) ((h2.below B0).below hb) hlt
      have hcell := (V.out.below hb).cell hcx
      have hl1 := catK_bd l m (k + 1)
      have hl2 : (catK l m (k + 1)).length = (catK l m k).length + x.length := by rw [hcat, List.length_append]
      have HL := Lib.hid hl2
      have hw1 : IntKind.i64.wrap (((catK l m k).length : Int) + (x.length : Int)) = ((catK l m k).length : Int) + (x.length : Int) := IntWalk.i64_in _ (by omega)
      have hd1 : decide (((catK l m k).length : Int) + (x.length : Int) < 0) = false := decide_eq_false (by omega)
      have hd2 : decide ((k : Int) < 2) = true := decide_eq_true (by omega)
      clear hcx hcat hl1 hl2
      go_wp2
      go_roundw
      case rel => exact ⟨k + 1, by go_num, by rw [HL.out]; go_num, by omega, hb⟩
      case measure => simp [intOf]; omega
    · obtain rfl : k = 2 := by omega
      have hlc : (catK l m 2).length = l.length + m.length := by rw [catK_2, List.length_append]
      have HA := h.below (bstep B0 hb)
      have HA2 := h2.below (bstep B0 hb)
      have V2 := Lib.hid (V.out.below hb)
      have B1 := bstep B0 hb
      obtain ⟨n2, hn2⟩ : ∃ n, (catK l m 2).length = n := ⟨_, rfl⟩
      rw [hn2] at hlc ⊢
      have hnb : n2 ≤ 1073741824 := by omega
      clear hn2 hlc
      go_wp2_with fail
      refine (c_GrowNil n2 _ hnb).mono ?_
      rintro e w1 ⟨A1, c1, rfl, o1, b1⟩
      have O1 := Lib.hid (o1.base_le (base' := b0 + 1) (by have := (V2.out).lt; omega))
      have V3 := Lib.hid (V2.out.below b1)
      have B2 := bstep B1 b1
      have HA3 := Lib.hid (HA.below b1)
      have HA4 := Lib.hid (HA2.below b1)
      clear o1 HA HA2 V2
      go_wp2
      go_loopw [6, 27] (fun s i w' => ∃ (k : Nat) (A' : Option Addr) (c' : Nat), i = .int .i64 (k : Int) ∧ s = .slice A' (catK l m k).length c' ∧ k ≤ 2 ∧ Own2 .i16 .i8 40 w' (b0 + 1) s (catK l m k) ∧ Below w.heap.size w w' ∧ Var w' b0 #[.slice A l.length c, .slice B m.length d] t) (fun _ i _ => 2 - (intOf i).toNat)
      case atStart => exact ⟨0, A1, c1, rfl, by rw [catK_0]; rfl, by omega, by rw [catK_0]; exact O1.out, B2, V3.out⟩
      case round =>
        obtain ⟨k, A2, c2, rfl, rfl, hk, hown, hb2, hv⟩ := hrel
        have HO := Lib.hid hown
        have HV := Lib.hid hv
        clear hown hv
        by_cases hlt : k < 2
        · obtain ⟨X, cx, x, hcx, hx, hcat⟩ := catK_next (c := c) (d := d) (h.below hb2) (h2.below hb2) hlt
          have hcell := HV.out.cell hcx
          have hl1 := catK_bd l m (k + 1)
          have HC := Lib.hid hcat
          have hlen2 : (catK l m k).length + x.length ≤ 1073741824 := by rw [hcat, List.length_append] at hl1; omega
          have hd2 : decide ((k : Int) < 2) = true := decide_eq_true (by omega)
          have hbs : b0 + 1 ≤ wr.heap.size := HV.out.lt
          have hown2 := HO.out
          clear hcx hcat hl1
          go_wp2_with (at_builtin; refine append_pairsU rfl (.tmp 31) (.tmp 32) 25 25 rfl 40 40 .i16 .i8 4 Tryz.underlying25 Tryz.underlying25 info_Note (by decide) (b0 + 1) _ _ rfl hown2 _ _ x rfl hx hlen2 hbs ?_; intro A3 c3 w3 ho3 hg3)
          have B4 := bgrown hb2 hg3 (fun j hj => by have := hown2.low hj; have := HB0.out; omega)
          have hv3 : Var w3 b0 #[.slice A l.length c, .slice B m.length d] t := HV.out.apart2 hg3 hown2 (by omega)
          go_roundw
          case rel => exact ⟨k + 1, A3, c3, by go_num, by rw [HC.out, List.length_append], by omega, by rw [HC.out]; rw [List.length_append] at ho3; exact ho3, B4, hv3⟩
          case measure => simp [intOf]; omega
        · obtain rfl : k = 2 := by omega
          have HO2 := HO.out
          rw [catK_2] at HO2 ⊢
          have HO3 := Lib.hid HO2
          clear HO2 HO
          go_wp2
          go_ret
          rw [← HB0.out]
          exact ⟨A2, c2, rfl, HO3.out.base_le (base' := w.heap.size) (by have := HB0.out; omega), hb2⟩

end Go.Proofs.YtbdopmcjoncelaaGreatDoor
