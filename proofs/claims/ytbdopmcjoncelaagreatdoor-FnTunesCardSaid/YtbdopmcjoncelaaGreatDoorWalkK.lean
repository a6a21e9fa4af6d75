/-
  The walk of the reference's moved notes.
-/
import Derived.Test.YtbdopmcjoncelaaGreatDoorWalkC
import Derived.Test.YtbdopmcjoncelaaGreatDoorWalkD
import Derived.Test.YtbdopmcjoncelaaGreatDoorPure
namespace Go.Proofs.YtbdopmcjoncelaaGreatDoor
open Go.RowKit
set_option linter.unusedVariables false
set_option linter.unusedSimpArgs false
set_option maxRecDepth 4000

set_option maxHeartbeats 800000 in
theorem c_l01Changed (A : Option Addr) (c : Nat) (l : List (Int × Int)) (s p : Int) (w : World) (h : At2 .i16 .i8 w A l) (hok : okT l = true) (hs : -1000000 ≤ s ∧ s ≤ 1000000) (hp : -1000000 ≤ p ∧ p ≤ 1000000) :
    Calls Tryz.prog 44 #[.slice A l.length c, .int .i64 s, .int .i64 p] w fun e w' => ∃ A' c', e = .returned (.tuple #[.slice A' (movR (addG s p) l).length c', .bool (movB (addG s p) l)]) ∧ Own2 .i16 .i8 40 w' w.heap.size (.slice A' (movR (addG s p) l).length c') (movR (addG s p) l) ∧ Below w.heap.size w w' := by
  have hu := Tryz.underlying40
  have hn := okT_len hok
  obtain ⟨s1, s2⟩ := hs
  obtain ⟨p1, p2⟩ := hp
  go_enter Tryz.func44, Tryz.ntmps44
  go_wp2
  go_loopw [8, 9] (fun v i w' => ∃ (k : Nat) (A' : Option Addr) (c' : Nat), i = .int .i64 (k : Int) ∧ v = .slice A' ((l.take k).map (addG s p)).length c' ∧ k ≤ l.length ∧ (∀ i (hi : i < l.length), i < k → okN (addG s p l[i]) = true) ∧ Own2 .i16 .i8 40 w' w.heap.size v ((l.take k).map (addG s p)) ∧ Below w.heap.size w w') (fun _ i _ => l.length - (intOf i).toNat)
  case atStart => exact ⟨0, _, _, rfl, rfl, by omega, fun _ _ h => absurd h (by omega), Own2.lit0 (Nat.le_refl _), balloc (Below.refl _ _) _⟩
  case round =>
    obtain ⟨k, A1, c1, rfl, rfl, hk, hz, hown, hb⟩ := hrel
    have HZ := Lib.hid hz
    have HO := Lib.hid hown
    clear hz hown
    by_cases hlt : k < l.length
    · obtain ⟨b, off, hAe, hbl, hc⟩ := (h.below hb).get (by omega)
      have y1 := (hc k hlt).1
      have y2 := (hc k hlt).2
      have HA := Lib.hid hAe
      subst hAe
      clear hc HA
      obtain ⟨n1, n2, n3, n4⟩ := okT_note hok hlt
      have hw1 : IntKind.i64.wrap (l[k].1 + s) = l[k].1 + s := IntWalk.i64_in _ (by omega)
      have hw2 : IntKind.i64.wrap (l[k].2 + p) = l[k].2 + p := IntWalk.i64_in _ (by omega)
      have hon : okN (addG s p l[k]) = (inB (l[k].1 + s) 0 199 && inB (l[k].2 + p) 0 47) := rfl
      rcases hx1 : inB (l[k].1 + s) 0 199 with _ | _
      · rw [hx1, Bool.false_and] at hon
        have HB := Lib.hid (movB_bad hlt hon)
        have HR := Lib.hid (show movR (addG s p) l = [] by unfold movR; rw [HB.out]; rfl)
        have HX1 := Lib.hid hx1
        clear hon hx1
        go_wp2_with fail
        refine (c_l00In _ _ _ _).mono ?_
        rintro e w' ⟨rfl, rfl⟩
        rw [HX1.out]
        go_wp2
        go_ret2
        rw [HR.out, HB.out]
        have hsz := hb.size
        exact ⟨_, _, rfl, Own2.lit0 hsz, balloc hb _⟩
      · rcases hx2 : inB (l[k].2 + p) 0 47 with _ | _
        · rw [hx2, Bool.and_false] at hon
          have HB := Lib.hid (movB_bad hlt hon)
          have HR := Lib.hid (show movR (addG s p) l = [] by unfold movR; rw [HB.out]; rfl)
          have HX1 := Lib.hid hx1
          have HX2 := Lib.hid hx2
          clear hon hx1 hx2
          go_wp2_with fail
          refine (c_l00In _ _ _ _).mono ?_
          rintro e w' ⟨rfl, rfl⟩
          rw [HX1.out]
          go_wp2_with fail
          refine (c_l00In _ _ _ _).mono ?_
          rintro e w' ⟨rfl, rfl⟩
          rw [HX2.out]
          go_wp2
          go_ret2
          rw [HR.out, HB.out]
          have hsz := hb.size
          exact ⟨_, _, rfl, Own2.lit0 hsz, balloc hb _⟩
        · rw [hx1, hx2] at hon
          have HON := Lib.hid hon
          have HX1 := Lib.hid hx1
          have HX2 := Lib.hid hx2
          have hb1 := inB_iff.1 hx1
          have hb2 := inB_iff.1 hx2
          have hw3 : IntKind.i16.wrap (l[k].1 + s) = l[k].1 + s := IntWalk.i16_in _ (by omega)
          have hw4 : IntKind.i8.wrap (l[k].2 + p) = l[k].2 + p := IntWalk.i8_in _ (by omega)
          have HT := Lib.hid (show (l.take (k + 1)).map (addG s p) = (l.take k).map (addG s p) ++ [(l[k].1 + s, l[k].2 + p)] by rw [List.take_succ_eq_append_getElem hlt, List.map_append]; rfl)
          have hlen2 : ((l.take k).map (addG s p)).length ≤ 1073741824 := by rw [List.length_map, List.length_take]; omega
          have hown2 := HO.out.alloc (.cells #[.int .i16 (l[k].1 + s), .int .i8 (l[k].2 + p)] 40)
          have B3 := balloc hb (.cells #[.int .i16 (l[k].1 + s), .int .i8 (l[k].2 + p)] 40)
          have hbs := B3.size
          have z1 := cell_new wr #[.int .i16 (l[k].1 + s), .int .i8 (l[k].2 + p)] 40 (i := 0) rfl
          have z2 := cell_new wr #[.int .i16 (l[k].1 + s), .int .i8 (l[k].2 + p)] 40 (i := 1) rfl
          obtain ⟨L, hL⟩ : ∃ L, (l.take k).map (addG s p) = L := ⟨_, rfl⟩
          rw [hL] at HT hlen2 hown2 ⊢
          clear hon hx1 hx2 hb1 hb2 hL
          go_wp2_with fail
          refine (c_l00In _ _ _ _).mono ?_
          rintro e w' ⟨rfl, rfl⟩
          rw [HX1.out]
          go_wp2_with fail
          refine (c_l00In _ _ _ _).mono ?_
          rintro e w' ⟨rfl, rfl⟩
          rw [HX2.out]
          go_wp2_with (at_builtin; refine append_pair rfl (.tmp 44) (.tmp 50) 25 rfl 40 .i16 .i8 4 Tryz.underlying25 info_Note (by decide) w.heap.size _ _ rfl hown2 _ _ (l[k].1 + s, l[k].2 + p) rfl z1 z2 hlen2 hbs ?_; intro A3 c3 w3 ho3 hg3)
          have B4 := bgrown B3 hg3 (fun j hj => hown2.low hj)
          go_roundw
          case rel =>
            refine ⟨k + 1, A3, c3, by go_num, by rw [HT.out, List.length_append]; rfl, by omega, fun i hi hik => ?_, by rw [HT.out]; rw [List.length_append] at ho3; exact ho3, B4⟩
            by_cases e : i = k
            · subst e; exact HON.out
            · exact HZ.out i hi (by omega)
          case measure => simp [intOf]; omega
    · obtain rfl : k = l.length := by omega
      have HB := Lib.hid (movB_all (g := addG s p) (fun i hi => HZ.out i hi hi))
      have HR := Lib.hid (show movR (addG s p) l = (l.take l.length).map (addG s p) by unfold movR; rw [HB.out, List.take_length]; rfl)
      go_wp2
      go_ret2
      rw [HR.out, HB.out]
      exact ⟨A1, c1, rfl, HO.out, hb⟩

end Go.Proofs.YtbdopmcjoncelaaGreatDoor
