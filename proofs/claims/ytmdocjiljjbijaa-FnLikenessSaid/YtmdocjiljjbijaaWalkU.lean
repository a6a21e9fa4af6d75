/-
  The walks of moved notes of Backward, Inverted, JoinTunes and CanonOf.
-/
import Derived.Test.YtmdocjiljjbijaaWalkK
import Derived.Test.YtmdocjiljjbijaaWalkE
import Derived.Test.YtmdocjiljjbijaaDataF
import Derived.Test.YtmdocjiljjbijaaWalkT
import Derived.Test.YtmdocjiljjbijaaPureO
namespace Go.Proofs.Ytmdocjiljjbijaa
open Go.RowKit
set_option linter.unusedVariables false
set_option linter.unusedSimpArgs false
set_option maxRecDepth 4000



theorem c_cloJoin (b0 : Nat) (A0 : Option Addr) (c0 : Nat) (l0 : List (Int × Int)) (p : Int × Int) (w : World) (hc0 : w.cell? ⟨b0, 0, none⟩ = some (.slice A0 l0.length c0) ∧ At2 .i16 .i8 w A0 l0) (hb0 : (0 ≤ lengthL l0 ∧ lengthL l0 ≤ 200) ∧ Wf l0 ∧ l0.length ≤ 1073741824) (hp : 0 ≤ p.1 ∧ p.1 ≤ 199 ∧ 0 ≤ p.2 ∧ p.2 ≤ 47) :
    Calls Try.prog 52 #[.int .i64 p.1, .int .i64 p.2, .pointer (some ⟨b0, 0, none⟩)] w fun e w' => e = .returned (.tuple #[.int .i64 (p.1 + lengthL l0), .int .i64 p.2]) ∧ Below w.heap.size w w' := by
  obtain ⟨n1, n2, n3, n4⟩ := hp
  obtain ⟨⟨s1, s2⟩, hw0, hn0⟩ := hb0
  obtain ⟨hc1, h0⟩ := hc0
  have hw1 : IntKind.i64.wrap (p.1 + lengthL l0) = p.1 + lengthL l0 := IntWalk.i64_in _ (by omega)
  go_enter Try.func52, Try.ntmps52
  go_wp2_with fail
  refine (c_length A0 c0 l0 _ h0 hw0 hn0).mono ?_
  rintro e w' ⟨rfl, rfl⟩
  go_wp2
  go_ret2
  exact ⟨rfl, Below.refl _ _⟩

set_option maxHeartbeats 800000 in
theorem c_movedJoin (b0 : Nat) (A0 : Option Addr) (c0 : Nat) (l0 : List (Int × Int)) (A : Option Addr) (c : Nat) (l : List (Int × Int)) (w : World) (h : At2 .i16 .i8 w A l) (hok : okT l = true) (hc0 : w.cell? ⟨b0, 0, none⟩ = some (.slice A0 l0.length c0) ∧ At2 .i16 .i8 w A0 l0) (hb0 : (0 ≤ lengthL l0 ∧ lengthL l0 ≤ 200) ∧ Wf l0 ∧ l0.length ≤ 1073741824) :
    Calls Try.prog 46 #[.slice A l.length c, .func (.func 52) #[] #[.pointer (some ⟨b0, 0, none⟩)]] w fun e w' => ∃ A' c', e = .returned (.tuple #[.slice A' (movR (addG (lengthL l0) 0) l).length c', .bool (movB (addG (lengthL l0) 0) l)]) ∧ Own2 .i16 .i8 43 w' w.heap.size (.slice A' (movR (addG (lengthL l0) 0) l).length c') (movR (addG (lengthL l0) 0) l) ∧ Below w.heap.size w w' := by
  have hu := Try.underlying43
  have hn := okT_len hok
  have HC := Lib.hid hc0
  clear hc0
  go_enter Try.func46, Try.ntmps46
  go_wp2
  go_loopw [6, 14] (fun v i w' => ∃ (k : Nat) (A' : Option Addr) (c' : Nat), i = .int .i64 (k : Int) ∧ v = .slice A' ((l.take k).map (addG (lengthL l0) 0)).length c' ∧ k ≤ l.length ∧ (∀ i (hi : i < l.length), i < k → okN ((addG (lengthL l0) 0) l[i]) = true) ∧ Own2 .i16 .i8 43 w' w.heap.size v ((l.take k).map (addG (lengthL l0) 0)) ∧ Below w.heap.size w w') (fun _ i _ => l.length - (intOf i).toNat)
  case atStart => exact ⟨0, _, _, rfl, rfl, by omega, fun _ _ h => absurd h (by omega), Own2.lit0 (Nat.le_refl _), balloc (Below.refl _ _) _⟩
  case round =>
    obtain ⟨k, A1, c1, rfl, rfl, hk, hz, hown, hb⟩ := hrel
    have HZ := Lib.hid hz
    have HO := Lib.hid hown
    clear hz hown
    by_cases hlt : k < l.length
    · obtain ⟨b, off, hAe, hbl, hc⟩ := (h.below hb).get (by omega)
      have y1 := (hc k hlt).1
      have y2 := (hc k hlt).2
      subst hAe
      clear hc
      obtain ⟨n1, n2, n3, n4⟩ := okT_note hok hlt
      have hB := balloc hb (.cells #[.int .i16 l[k].1, .int .i8 l[k].2] 43)
      have hC := (⟨keepc HC.out.1 hB, HC.out.2.below hB⟩ : _ ∧ _)
      have HCC := Lib.hid hC
      have HN := Lib.hid (show 0 ≤ l[k].1 ∧ l[k].1 ≤ 199 ∧ 0 ≤ l[k].2 ∧ l[k].2 ≤ 47 from ⟨n1, n2, n3, n4⟩)
      have hon : okN ((addG (lengthL l0) 0) l[k]) = (inB (l[k].1 + lengthL l0) 0 199 && inB l[k].2 0 47) := by unfold addG okN; simp only [Int.add_zero]
      clear hC
      rcases hx1 : inB (l[k].1 + lengthL l0) 0 199 with _ | _
      · rw [hx1, Bool.false_and] at hon
        have HB := Lib.hid (movB_bad hlt hon)
        have HR := Lib.hid (show movR (addG (lengthL l0) 0) l = [] by unfold movR; rw [HB.out]; rfl)
        have HX1 := Lib.hid hx1
        clear hon hx1
        go_wp2_with fail
        refine (c_cloJoin b0 A0 c0 l0 l[k] _ HCC.out hb0 HN.out).mono ?_
        rintro e w1 ⟨rfl, bc⟩
        have hB1 := bstep hB bc
        go_wp2_with fail
        refine (c_within _ _ _ _).mono ?_
        rintro e w' ⟨rfl, rfl⟩
        rw [HX1.out]
        go_wp2
        go_ret2
        rw [HR.out, HB.out]
        exact ⟨none, 0, rfl, World.ownsRow_nil _ _ _ _, hB1⟩
      · rcases hx2 : inB l[k].2 0 47 with _ | _
        · rw [hx2, Bool.and_false] at hon
          have HB := Lib.hid (movB_bad hlt hon)
          have HR := Lib.hid (show movR (addG (lengthL l0) 0) l = [] by unfold movR; rw [HB.out]; rfl)
          have HX1 := Lib.hid hx1
          have HX2 := Lib.hid hx2
          clear hon hx1 hx2
          go_wp2_with fail
          refine (c_cloJoin b0 A0 c0 l0 l[k] _ HCC.out hb0 HN.out).mono ?_
          rintro e w1 ⟨rfl, bc⟩
          have hB1 := bstep hB bc
          go_wp2_with fail
          refine (c_within _ _ _ _).mono ?_
          rintro e w' ⟨rfl, rfl⟩
          rw [HX1.out]
          go_wp2_with fail
          refine (c_isPitch _ _).mono ?_
          rintro e w' ⟨rfl, rfl⟩
          rw [HX2.out]
          go_wp2
          go_ret2
          rw [HR.out, HB.out]
          exact ⟨none, 0, rfl, World.ownsRow_nil _ _ _ _, hB1⟩
        · rw [hx1, hx2] at hon
          have HON := Lib.hid hon
          have HX1 := Lib.hid hx1
          have HX2 := Lib.hid hx2
          have hb1 := inB_iff.1 hx1
          have hb2 := inB_iff.1 hx2
          have hw3 : IntKind.i16.wrap (l[k].1 + lengthL l0) = (l[k].1 + lengthL l0) := IntWalk.i16_in _ (by omega)
          have hw4 : IntKind.i8.wrap l[k].2 = l[k].2 := IntWalk.i8_in _ (by omega)
          have HT := Lib.hid (show (l.take (k + 1)).map (addG (lengthL l0) 0) = (l.take k).map (addG (lengthL l0) 0) ++ [((l[k].1 + lengthL l0), l[k].2)] by rw [List.take_succ_eq_append_getElem hlt, List.map_append]; unfold addG; simp only [List.map_cons, List.map_nil, Int.add_zero])
          have hlen2 : ((l.take k).map (addG (lengthL l0) 0)).length ≤ 1073741824 := by rw [List.length_map, List.length_take]; omega
          have hown1 := HO.out.alloc (.cells #[.int .i16 l[k].1, .int .i8 l[k].2] 43)
          obtain ⟨L, hL⟩ : ∃ L, (l.take k).map (addG (lengthL l0) 0) = L := ⟨_, rfl⟩
          rw [hL] at HT hlen2 hown1 ⊢
          clear hon hx1 hx2 hb1 hb2 hL
          go_wp2_with fail
          refine (c_cloJoin b0 A0 c0 l0 l[k] _ HCC.out hb0 HN.out).mono ?_
          rintro e w1 ⟨rfl, bc⟩
          have hown2 := (hown1.below bc).alloc (.cells #[.int .i16 (l[k].1 + lengthL l0), .int .i8 l[k].2] 43)
          have B3 := balloc (bstep hB bc) (.cells #[.int .i16 (l[k].1 + lengthL l0), .int .i8 l[k].2] 43)
          have hbs := B3.size
          have z1 : (w1.alloc (.cells #[.int .i16 (l[k].1 + lengthL l0), .int .i8 l[k].2] 43)).cell? ⟨w1.heap.size, 0, none⟩ = some (.int .i16 (l[k].1 + lengthL l0)) := cell_new w1 #[.int .i16 (l[k].1 + lengthL l0), .int .i8 l[k].2] 43 (i := 0) rfl
          have z2 : (w1.alloc (.cells #[.int .i16 (l[k].1 + lengthL l0), .int .i8 l[k].2] 43)).cell? ⟨w1.heap.size, 1, none⟩ = some (.int .i8 l[k].2) := cell_new w1 #[.int .i16 (l[k].1 + lengthL l0), .int .i8 l[k].2] 43 (i := 1) rfl
          go_wp2_with fail
          refine (c_within _ _ _ _).mono ?_
          rintro e w' ⟨rfl, rfl⟩
          rw [HX1.out]
          go_wp2_with fail
          refine (c_isPitch _ _).mono ?_
          rintro e w' ⟨rfl, rfl⟩
          rw [HX2.out]
          go_wp2_with (at_builtin; refine append_pair rfl (.tmp 37) (.tmp 43) 24 rfl 43 .i16 .i8 4 Try.underlying24 info_Note (by decide) w.heap.size _ _ rfl hown2 _ _ ((l[k].1 + lengthL l0), l[k].2) rfl z1 z2 hlen2 hbs ?_; intro A3 c3 w3 ho3 hg3)
          have B4 := bgrown B3 hg3 (fun j hj => hown2.low hj)
          go_roundw
          case rel =>
            refine ⟨k + 1, A3, c3, by go_num, by rw [HT.out, List.length_append]; rfl, by omega, fun i hi hik => ?_, by rw [HT.out]; rw [List.length_append] at ho3; exact ho3, B4⟩
            by_cases e : i = k
            · subst e; exact HON.out
            · exact HZ.out i hi (by omega)
          case measure => simp [intOf]; omega
    · obtain rfl : k = l.length := by omega
      have HB := Lib.hid (movB_all (g := (addG (lengthL l0) 0)) (fun i hi => HZ.out i hi hi))
      have HR := Lib.hid (show movR (addG (lengthL l0) 0) l = (l.take l.length).map (addG (lengthL l0) 0) by unfold movR; rw [HB.out, List.take_length]; rfl)
      go_wp2
      go_ret2
      rw [HR.out, HB.out]
      exact ⟨A1, c1, rfl, HO.out, hb⟩

theorem c_cloCan (b0 : Nat) (b1 : Nat) (b2 : Nat) (q : Int) (s : Int) (t : Int) (p : Int × Int) (w : World) (hc0 : w.cell? ⟨b0, 0, none⟩ = some (.int .i64 q) ∧ w.cell? ⟨b1, 0, none⟩ = some (.int .i64 s) ∧ w.cell? ⟨b2, 0, none⟩ = some (.int .i64 t)) (hb0 : -200 ≤ q ∧ q ≤ 200 ∧ -200 ≤ s ∧ s ≤ 200 ∧ -200 ≤ t ∧ t ≤ 200 ∧ (-100000 ≤ q * s ∧ q * s ≤ 100000) ∧ -100000 ≤ q * t ∧ q * t ≤ 100000) (hp : 0 ≤ p.1 ∧ p.1 ≤ 199 ∧ 0 ≤ p.2 ∧ p.2 ≤ 47) :
    Calls Try.prog 47 #[.int .i64 p.1, .int .i64 p.2, .pointer (some ⟨b0, 0, none⟩), .pointer (some ⟨b1, 0, none⟩), .pointer (some ⟨b2, 0, none⟩)] w fun e w' => e = .returned (.tuple #[.int .i64 (p.1 + q * s), .int .i64 (p.2 + q * t)]) ∧ Below w.heap.size w w' := by
  obtain ⟨n1, n2, n3, n4⟩ := hp
  obtain ⟨q1, q2, s1, s2, t1, t2, ⟨m1, m2⟩, m3, m4⟩ := hb0
  obtain ⟨hc1, hc2, hc3⟩ := hc0
  have hw1 : IntKind.i64.wrap (q * s) = q * s := IntWalk.i64_in _ (by omega)
  have hw2 : IntKind.i64.wrap (q * t) = q * t := IntWalk.i64_in _ (by omega)
  have hw3 : IntKind.i64.wrap (p.1 + q * s) = p.1 + q * s := IntWalk.i64_in _ (by omega)
  have hw4 : IntKind.i64.wrap (p.2 + q * t) = p.2 + q * t := IntWalk.i64_in _ (by omega)
  have x1 : ∀ x : After w, x.w.cell? ⟨b0, 0, none⟩ = some (.int .i64 q) := fun x => keepc hc1 x.below
  have x2 : ∀ x : After w, x.w.cell? ⟨b1, 0, none⟩ = some (.int .i64 s) := fun x => keepc hc2 x.below
  have x3 : ∀ x : After w, x.w.cell? ⟨b2, 0, none⟩ = some (.int .i64 t) := fun x => keepc hc3 x.below
  go_enter Try.func47, Try.ntmps47
  go_wp2
  refine region_after (by kernel_rfl) (by kernel_rfl) ?_
  repeat (go_big_quiet_step (fail))
  refine wpQuiet_nil ?_
  rintro _ ⟨x, rfl⟩
  go_wp2
  go_ret2
  exact ⟨rfl, x.below⟩

set_option maxHeartbeats 800000 in
theorem c_movedCan (b0 : Nat) (b1 : Nat) (b2 : Nat) (q : Int) (s : Int) (t : Int) (A : Option Addr) (c : Nat) (l : List (Int × Int)) (w : World) (h : At2 .i16 .i8 w A l) (hok : okT l = true) (hc0 : w.cell? ⟨b0, 0, none⟩ = some (.int .i64 q) ∧ w.cell? ⟨b1, 0, none⟩ = some (.int .i64 s) ∧ w.cell? ⟨b2, 0, none⟩ = some (.int .i64 t)) (hb0 : -200 ≤ q ∧ q ≤ 200 ∧ -200 ≤ s ∧ s ≤ 200 ∧ -200 ≤ t ∧ t ≤ 200 ∧ (-100000 ≤ q * s ∧ q * s ≤ 100000) ∧ -100000 ≤ q * t ∧ q * t ≤ 100000) :
    Calls Try.prog 46 #[.slice A l.length c, .func (.func 47) #[] #[.pointer (some ⟨b0, 0, none⟩), .pointer (some ⟨b1, 0, none⟩), .pointer (some ⟨b2, 0, none⟩)]] w fun e w' => ∃ A' c', e = .returned (.tuple #[.slice A' (movR (addG (q * s) (q * t)) l).length c', .bool (movB (addG (q * s) (q * t)) l)]) ∧ Own2 .i16 .i8 43 w' w.heap.size (.slice A' (movR (addG (q * s) (q * t)) l).length c') (movR (addG (q * s) (q * t)) l) ∧ Below w.heap.size w w' := by
  have hu := Try.underlying43
  have hn := okT_len hok
  have HC := Lib.hid hc0
  clear hc0
  go_enter Try.func46, Try.ntmps46
  go_wp2
  go_loopw [6, 14] (fun v i w' => ∃ (k : Nat) (A' : Option Addr) (c' : Nat), i = .int .i64 (k : Int) ∧ v = .slice A' ((l.take k).map (addG (q * s) (q * t))).length c' ∧ k ≤ l.length ∧ (∀ i (hi : i < l.length), i < k → okN ((addG (q * s) (q * t)) l[i]) = true) ∧ Own2 .i16 .i8 43 w' w.heap.size v ((l.take k).map (addG (q * s) (q * t))) ∧ Below w.heap.size w w') (fun _ i _ => l.length - (intOf i).toNat)
  case atStart => exact ⟨0, _, _, rfl, rfl, by omega, fun _ _ h => absurd h (by omega), Own2.lit0 (Nat.le_refl _), balloc (Below.refl _ _) _⟩
  case round =>
    obtain ⟨k, A1, c1, rfl, rfl, hk, hz, hown, hb⟩ := hrel
    have HZ := Lib.hid hz
    have HO := Lib.hid hown
    clear hz hown
    by_cases hlt : k < l.length
    · obtain ⟨b, off, hAe, hbl, hc⟩ := (h.below hb).get (by omega)
      have y1 := (hc k hlt).1
      have y2 := (hc k hlt).2
      subst hAe
      clear hc
      obtain ⟨n1, n2, n3, n4⟩ := okT_note hok hlt
      have hB := balloc hb (.cells #[.int .i16 l[k].1, .int .i8 l[k].2] 43)
      have hC := (⟨keepc HC.out.1 hB, keepc HC.out.2.1 hB, keepc HC.out.2.2 hB⟩ : _ ∧ _ ∧ _)
      have HCC := Lib.hid hC
      have HN := Lib.hid (show 0 ≤ l[k].1 ∧ l[k].1 ≤ 199 ∧ 0 ≤ l[k].2 ∧ l[k].2 ≤ 47 from ⟨n1, n2, n3, n4⟩)
      have hon : okN ((addG (q * s) (q * t)) l[k]) = (inB (l[k].1 + q * s) 0 199 && inB (l[k].2 + q * t) 0 47) := rfl
      clear hC
      rcases hx1 : inB (l[k].1 + q * s) 0 199 with _ | _
      · rw [hx1, Bool.false_and] at hon
        have HB := Lib.hid (movB_bad hlt hon)
        have HR := Lib.hid (show movR (addG (q * s) (q * t)) l = [] by unfold movR; rw [HB.out]; rfl)
        have HX1 := Lib.hid hx1
        clear hon hx1
        go_wp2_with fail
        refine (c_cloCan b0 b1 b2 q s t l[k] _ HCC.out hb0 HN.out).mono ?_
        rintro e w1 ⟨rfl, bc⟩
        have hB1 := bstep hB bc
        go_wp2_with fail
        refine (c_within _ _ _ _).mono ?_
        rintro e w' ⟨rfl, rfl⟩
        rw [HX1.out]
        go_wp2
        go_ret2
        rw [HR.out, HB.out]
        exact ⟨none, 0, rfl, World.ownsRow_nil _ _ _ _, hB1⟩
      · rcases hx2 : inB (l[k].2 + q * t) 0 47 with _ | _
        · rw [hx2, Bool.and_false] at hon
          have HB := Lib.hid (movB_bad hlt hon)
          have HR := Lib.hid (show movR (addG (q * s) (q * t)) l = [] by unfold movR; rw [HB.out]; rfl)
          have HX1 := Lib.hid hx1
          have HX2 := Lib.hid hx2
          clear hon hx1 hx2
          go_wp2_with fail
          refine (c_cloCan b0 b1 b2 q s t l[k] _ HCC.out hb0 HN.out).mono ?_
          rintro e w1 ⟨rfl, bc⟩
          have hB1 := bstep hB bc
          go_wp2_with fail
          refine (c_within _ _ _ _).mono ?_
          rintro e w' ⟨rfl, rfl⟩
          rw [HX1.out]
          go_wp2_with fail
          refine (c_isPitch _ _).mono ?_
          rintro e w' ⟨rfl, rfl⟩
          rw [HX2.out]
          go_wp2
          go_ret2
          rw [HR.out, HB.out]
          exact ⟨none, 0, rfl, World.ownsRow_nil _ _ _ _, hB1⟩
        · rw [hx1, hx2] at hon
          have HON := Lib.hid hon
          have HX1 := Lib.hid hx1
          have HX2 := Lib.hid hx2
          have hb1 := inB_iff.1 hx1
          have hb2 := inB_iff.1 hx2
          have hw3 : IntKind.i16.wrap (l[k].1 + q * s) = (l[k].1 + q * s) := IntWalk.i16_in _ (by omega)
          have hw4 : IntKind.i8.wrap (l[k].2 + q * t) = (l[k].2 + q * t) := IntWalk.i8_in _ (by omega)
          have HT := Lib.hid (show (l.take (k + 1)).map (addG (q * s) (q * t)) = (l.take k).map (addG (q * s) (q * t)) ++ [((l[k].1 + q * s), (l[k].2 + q * t))] by rw [List.take_succ_eq_append_getElem hlt, List.map_append]; rfl)
          have hlen2 : ((l.take k).map (addG (q * s) (q * t))).length ≤ 1073741824 := by rw [List.length_map, List.length_take]; omega
          have hown1 := HO.out.alloc (.cells #[.int .i16 l[k].1, .int .i8 l[k].2] 43)
          obtain ⟨L, hL⟩ : ∃ L, (l.take k).map (addG (q * s) (q * t)) = L := ⟨_, rfl⟩
          rw [hL] at HT hlen2 hown1 ⊢
          clear hon hx1 hx2 hb1 hb2 hL
          go_wp2_with fail
          refine (c_cloCan b0 b1 b2 q s t l[k] _ HCC.out hb0 HN.out).mono ?_
          rintro e w1 ⟨rfl, bc⟩
          have hown2 := (hown1.below bc).alloc (.cells #[.int .i16 (l[k].1 + q * s), .int .i8 (l[k].2 + q * t)] 43)
          have B3 := balloc (bstep hB bc) (.cells #[.int .i16 (l[k].1 + q * s), .int .i8 (l[k].2 + q * t)] 43)
          have hbs := B3.size
          have z1 : (w1.alloc (.cells #[.int .i16 (l[k].1 + q * s), .int .i8 (l[k].2 + q * t)] 43)).cell? ⟨w1.heap.size, 0, none⟩ = some (.int .i16 (l[k].1 + q * s)) := cell_new w1 #[.int .i16 (l[k].1 + q * s), .int .i8 (l[k].2 + q * t)] 43 (i := 0) rfl
          have z2 : (w1.alloc (.cells #[.int .i16 (l[k].1 + q * s), .int .i8 (l[k].2 + q * t)] 43)).cell? ⟨w1.heap.size, 1, none⟩ = some (.int .i8 (l[k].2 + q * t)) := cell_new w1 #[.int .i16 (l[k].1 + q * s), .int .i8 (l[k].2 + q * t)] 43 (i := 1) rfl
          go_wp2_with fail
          refine (c_within _ _ _ _).mono ?_
          rintro e w' ⟨rfl, rfl⟩
          rw [HX1.out]
          go_wp2_with fail
          refine (c_isPitch _ _).mono ?_
          rintro e w' ⟨rfl, rfl⟩
          rw [HX2.out]
          go_wp2_with (at_builtin; refine append_pair rfl (.tmp 37) (.tmp 43) 24 rfl 43 .i16 .i8 4 Try.underlying24 info_Note (by decide) w.heap.size _ _ rfl hown2 _ _ ((l[k].1 + q * s), (l[k].2 + q * t)) rfl z1 z2 hlen2 hbs ?_; intro A3 c3 w3 ho3 hg3)
          have B4 := bgrown B3 hg3 (fun j hj => hown2.low hj)
          go_roundw
          case rel =>
            refine ⟨k + 1, A3, c3, by go_num, by rw [HT.out, List.length_append]; rfl, by omega, fun i hi hik => ?_, by rw [HT.out]; rw [List.length_append] at ho3; exact ho3, B4⟩
            by_cases e : i = k
            · subst e; exact HON.out
            · exact HZ.out i hi (by omega)
          case measure => simp [intOf]; omega
    · obtain rfl : k = l.length := by omega
      have HB := Lib.hid (movB_all (g := (addG (q * s) (q * t))) (fun i hi => HZ.out i hi hi))
      have HR := Lib.hid (show movR (addG (q * s) (q * t)) l = (l.take l.length).map (addG (q * s) (q * t)) by unfold movR; rw [HB.out, List.take_length]; rfl)
      go_wp2
      go_ret2
      rw [HR.out, HB.out]
      exact ⟨A1, c1, rfl, HO.out, hb⟩

end Go.Proofs.Ytmdocjiljjbijaa
