/-
  The walks of moved and made notes; MoveTune and Transpose, in the reference and in the program.
-/
import Derived.Test.YtbdopmcjoncelaaGreatDoorWalkK
import Derived.Test.YtbdopmcjoncelaaGreatDoorWalkL
import Derived.Test.YtbdopmcjoncelaaGreatDoorData
import Derived.Lib.LazyBuf
namespace Go.Proofs.YtbdopmcjoncelaaGreatDoor
open Go.RowKit
set_option linter.unusedVariables false
set_option linter.unusedSimpArgs false
set_option maxRecDepth 4000

theorem c_CloneN (A : Option Addr) (c : Nat) (l : List (Int × Int)) (base : Nat) (w : World) (h : Own2 .i16 .i8 40 w base (.slice A l.length c) l) (hn : l.length ≤ 1073741824) :
    Calls Tryz.prog 77 #[.slice A l.length c] w fun e w' => ∃ A' c', e = .returned (.slice A' l.length c') ∧ Own2 .i16 .i8 40 w' w.heap.size (.slice A' l.length c') l ∧ Below w.heap.size w w' := by
  rcases h.2 with ⟨h1, h2⟩ | ⟨g, cap, cur, h1, _⟩
  · have hl : l = [] := List.length_eq_zero_iff.1 h2
    simp only [Value.slice.injEq] at h1
    obtain ⟨rfl, _, rfl⟩ := h1
    subst hl
    have hq : ∀ w, (Go.binOp .eql 24 (.slice none 0 0) (.slice none 0 0)).run Tryz.prog w = .ok (.bool true) w := fun w => Go.run_eql_slice_nil w _ _ none 0 0 Tryz.underlying24
    go_enter Tryz.func77, Tryz.ntmps77
    go_wp2
    go_ret
    exact ⟨none, 0, rfl, World.ownsRow_nil _ _ _ _, Below.refl _ _⟩
  · simp only [Value.slice.injEq] at h1
    obtain ⟨rfl, _, rfl⟩ := h1
    have hAt := h.at_.alloc (.cells #[] 40)
    have hown2 := Own2.lit0 (k1 := .i16) (k2 := .i8) (E := 40) (w := w) (base := w.heap.size) (Nat.le_refl _)
    have B3 := balloc (Below.refl _ w) (.cells #[] 40)
    have hbs := B3.size
    have hn2 : ([] : List (Int × Int)).length + l.length ≤ 1073741824 := by simpa using hn
    have hq : ∀ w, (Go.binOp .eql 24 (.slice (some ⟨g, 0, none⟩) l.length c) (.slice none 0 0)).run Tryz.prog w = .ok (.bool false) w := fun w => Go.run_eql_slice_nil w _ _ (some ⟨g, 0, none⟩) _ _ Tryz.underlying24
    clear h
    go_enter Tryz.func77, Tryz.ntmps77
    go_wp2_with (at_builtin; refine append_pairs rfl (.tmp 5) (.tmp 6) 24 rfl 40 .i16 .i8 4 Tryz.underlying24 info_Note (by decide) w.heap.size _ [] rfl hown2 _ _ l rfl hAt hn2 hbs ?_; intro A3 c3 w3 ho3 hg3)
    go_ret
    exact ⟨A3, c3, rfl, ho3, bgrown B3 hg3 (fun j hj => hown2.low hj)⟩

theorem c_made (A : Option Addr) (c : Nat) (l : List (Int × Int)) (base : Nat) (w : World) (h : Own2 .i16 .i8 40 w base (.slice A l.length c) l) (hok : okT l = true) :
    Calls Tryz.prog 54 #[.slice A l.length c] w fun e w' => ∃ A' c', e = .returned (.slice A' l.length c') ∧ Own2 .i16 .i8 40 w' w.heap.size (.slice A' l.length c') l ∧ Below w.heap.size w w' := by
  have hl := okT_len hok
  go_enter Tryz.func54, Tryz.ntmps54
  go_wp2_with fail
  refine (c_CloneN A c l base _ h (by omega)).mono ?_
  rintro e w1 ⟨A1, c1, rfl, o1, b1⟩
  go_wp2_with fail
  refine (c_SortRise A1 c1 l _ o1.at_ hok).mono ?_
  rintro e w2 ⟨rfl, b2⟩
  go_wp2_with fail
  refine (c_CompactRise A1 c1 l _ (o1.below b2).at_ hok).mono ?_
  rintro e w3 ⟨rfl, b3⟩
  have o3 := (o1.below b2).below b3
  clear o1
  go_wp2
  go_ret
  exact ⟨A1, c1, rfl, o3, bstep (bstep b1 b2) b3⟩

theorem c_cloMove (b0 : Nat) (s : Int) (p : Int × Int) (w : World) (hc0 : w.cell? ⟨b0, 0, none⟩ = some (.int .i64 s)) (hb0 : -200 ≤ s ∧ s ≤ 200) (hp : 0 ≤ p.1 ∧ p.1 ≤ 199 ∧ 0 ≤ p.2 ∧ p.2 ≤ 47) :
    Calls Tryz.prog 41 #[.int .i64 p.1, .int .i64 p.2, .pointer (some ⟨b0, 0, none⟩)] w fun e w' => e = .returned (.tuple #[.int .i64 (p.1 + s), .int .i64 p.2]) ∧ Below w.heap.size w w' := by
  obtain ⟨n1, n2, n3, n4⟩ := hp
  obtain ⟨s1, s2⟩ := hb0
  have hw1 : IntKind.i64.wrap (p.1 + s) = p.1 + s := IntWalk.i64_in _ (by omega)
  go_enter Tryz.func41, Tryz.ntmps41
  go_wp2
  go_ret2
  exact ⟨rfl, Below.refl _ _⟩

set_option maxHeartbeats 800000 in
theorem c_movedMove (b0 : Nat) (s : Int) (A : Option Addr) (c : Nat) (l : List (Int × Int)) (w : World) (h : At2 .i16 .i8 w A l) (hok : okT l = true) (hc0 : w.cell? ⟨b0, 0, none⟩ = some (.int .i64 s)) (hb0 : -200 ≤ s ∧ s ≤ 200) :
    Calls Tryz.prog 71 #[.slice A l.length c, .func (.func 41) #[] #[.pointer (some ⟨b0, 0, none⟩)]] w fun e w' => ∃ A' c', e = .returned (.tuple #[.slice A' (movR (addG s 0) l).length c', .bool (movB (addG s 0) l)]) ∧ Own2 .i16 .i8 40 w' w.heap.size (.slice A' (movR (addG s 0) l).length c') (movR (addG s 0) l) ∧ Below w.heap.size w w' := by
  have hu := Tryz.underlying40
  have hn := okT_len hok
  have HC := Lib.hid hc0
  clear hc0
  go_enter Tryz.func71, Tryz.ntmps71
  go_wp2
  go_loopw [6, 14] (fun v i w' => ∃ (k : Nat) (A' : Option Addr) (c' : Nat), i = .int .i64 (k : Int) ∧ v = .slice A' ((l.take k).map (addG s 0)).length c' ∧ k ≤ l.length ∧ (∀ i (hi : i < l.length), i < k → okN ((addG s 0) l[i]) = true) ∧ Own2 .i16 .i8 40 w' w.heap.size v ((l.take k).map (addG s 0)) ∧ Below w.heap.size w w') (fun _ i _ => l.length - (intOf i).toNat)
  case atStart => exact ⟨0, _, _, rfl, rfl, by omega, fun _ _ h => absurd h (by omega), Own2.lit0 (Nat.le_refl _), balloc (Below.refl _ _) _⟩
  case round =>
    obtain ⟨k, A1, c1, rfl, rfl, hk, hz, hown, hb⟩ := hrel
    have HZ := Lib.hid hz
    have HO := Lib.hid hown
    clear hz hown
    by_cases hlt : k < l.length
    · obtain ⟨b, off, hAe, hbl, hc⟩ := (h.below hb).get (by omega)
      have y1 := (hc k hlt).1
      have y2 := (hc k hlt).2
      subst hAe
      clear hc
      obtain ⟨n1, n2, n3, n4⟩ := okT_note hok hlt
      have hB := balloc hb (.cells #[.int .i16 l[k].1, .int .i8 l[k].2] 40)
      have hC := keepc HC.out hB
      have HCC := Lib.hid hC
      have HN := Lib.hid (show 0 ≤ l[k].1 ∧ l[k].1 ≤ 199 ∧ 0 ≤ l[k].2 ∧ l[k].2 ≤ 47 from ⟨n1, n2, n3, n4⟩)
      have hon : okN ((addG s 0) l[k]) = (inB (l[k].1 + s) 0 199 && inB l[k].2 0 47) := by unfold addG okN; simp only [Int.add_zero]
      clear hC
      rcases hx1 : inB (l[k].1 + s) 0 199 with _ | _
      · rw [hx1, Bool.false_and] at hon
        have HB := Lib.hid (movB_bad hlt hon)
        have HR := Lib.hid (show movR (addG s 0) l = [] by unfold movR; rw [HB.out]; rfl)
        have HX1 := Lib.hid hx1
        clear hon hx1
        go_wp2_with fail
        refine (c_cloMove b0 s l[k] _ HCC.out hb0 HN.out).mono ?_
        rintro e w1 ⟨rfl, bc⟩
        have hB1 := bstep hB bc
        go_wp2_with fail
        refine (c_within _ _ _ _).mono ?_
        rintro e w' ⟨rfl, rfl⟩
        rw [HX1.out]
        go_wp2
        go_ret2
        rw [HR.out, HB.out]
        exact ⟨none, 0, rfl, World.ownsRow_nil _ _ _ _, hB1⟩
      · rcases hx2 : inB l[k].2 0 47 with _ | _
        · rw [hx2, Bool.and_false] at hon
          have HB := Lib.hid (movB_bad hlt hon)
          have HR := Lib.hid (show movR (addG s 0) l = [] by unfold movR; rw [HB.out]; rfl)
          have HX1 := Lib.hid hx1
          have HX2 := Lib.hid hx2
          clear hon hx1 hx2
          go_wp2_with fail
          refine (c_cloMove b0 s l[k] _ HCC.out hb0 HN.out).mono ?_
          rintro e w1 ⟨rfl, bc⟩
          have hB1 := bstep hB bc
          go_wp2_with fail
          refine (c_within _ _ _ _).mono ?_
          rintro e w' ⟨rfl, rfl⟩
          rw [HX1.out]
          go_wp2_with fail
          refine (c_isPitch _ _).mono ?_
          rintro e w' ⟨rfl, rfl⟩
          rw [HX2.out]
          go_wp2
          go_ret2
          rw [HR.out, HB.out]
          exact ⟨none, 0, rfl, World.ownsRow_nil _ _ _ _, hB1⟩
        · rw [hx1, hx2] at hon
          have HON := Lib.hid hon
          have HX1 := Lib.hid hx1
          have HX2 := Lib.hid hx2
          have hb1 := inB_iff.1 hx1
          have hb2 := inB_iff.1 hx2
          have hw3 : IntKind.i16.wrap (l[k].1 + s) = (l[k].1 + s) := IntWalk.i16_in _ (by omega)
          have hw4 : IntKind.i8.wrap l[k].2 = l[k].2 := IntWalk.i8_in _ (by omega)
          have HT := Lib.hid (show (l.take (k + 1)).map (addG s 0) = (l.take k).map (addG s 0) ++ [((l[k].1 + s), l[k].2)] by rw [List.take_succ_eq_append_getElem hlt, List.map_append]; unfold addG; simp only [List.map_cons, List.map_nil, Int.add_zero])
          have hlen2 : ((l.take k).map (addG s 0)).length ≤ 1073741824 := by rw [List.length_map, List.length_take]; omega
          have hown1 := HO.out.alloc (.cells #[.int .i16 l[k].1, .int .i8 l[k].2] 40)
          obtain ⟨L, hL⟩ : ∃ L, (l.take k).map (addG s 0) = L := ⟨_, rfl⟩
          rw [hL] at HT hlen2 hown1 ⊢
          clear hon hx1 hx2 hb1 hb2 hL
          go_wp2_with fail
          refine (c_cloMove b0 s l[k] _ HCC.out hb0 HN.out).mono ?_
          rintro e w1 ⟨rfl, bc⟩
          have hown2 := (hown1.below bc).alloc (.cells #[.int .i16 (l[k].1 + s), .int .i8 l[k].2] 40)
          have B3 := balloc (bstep hB bc) (.cells #[.int .i16 (l[k].1 + s), .int .i8 l[k].2] 40)
          have hbs := B3.size
          have z1 : (w1.alloc (.cells #[.int .i16 (l[k].1 + s), .int .i8 l[k].2] 40)).cell? ⟨w1.heap.size, 0, none⟩ = some (.int .i16 (l[k].1 + s)) := cell_new w1 #[.int .i16 (l[k].1 + s), .int .i8 l[k].2] 40 (i := 0) rfl
          have z2 : (w1.alloc (.cells #[.int .i16 (l[k].1 + s), .int .i8 l[k].2] 40)).cell? ⟨w1.heap.size, 1, none⟩ = some (.int .i8 l[k].2) := cell_new w1 #[.int .i16 (l[k].1 + s), .int .i8 l[k].2] 40 (i := 1) rfl
          go_wp2_with fail
          refine (c_within _ _ _ _).mono ?_
          rintro e w' ⟨rfl, rfl⟩
          rw [HX1.out]
          go_wp2_with fail
          refine (c_isPitch _ _).mono ?_
          rintro e w' ⟨rfl, rfl⟩
          rw [HX2.out]
          go_wp2_with (at_builtin; refine append_pair rfl (.tmp 37) (.tmp 43) 24 rfl 40 .i16 .i8 4 Tryz.underlying24 info_Note (by decide) w.heap.size _ _ rfl hown2 _ _ ((l[k].1 + s), l[k].2) rfl z1 z2 hlen2 hbs ?_; intro A3 c3 w3 ho3 hg3)
          have B4 := bgrown B3 hg3 (fun j hj => hown2.low hj)
          go_roundw
          case rel =>
            refine ⟨k + 1, A3, c3, by go_num, by rw [HT.out, List.length_append]; rfl, by omega, fun i hi hik => ?_, by rw [HT.out]; rw [List.length_append] at ho3; exact ho3, B4⟩
            by_cases e : i = k
            · subst e; exact HON.out
            · exact HZ.out i hi (by omega)
          case measure => simp [intOf]; omega
    · obtain rfl : k = l.length := by omega
      have HB := Lib.hid (movB_all (g := (addG s 0)) (fun i hi => HZ.out i hi hi))
      have HR := Lib.hid (show movR (addG s 0) l = (l.take l.length).map (addG s 0) by unfold movR; rw [HB.out, List.take_length]; rfl)
      go_wp2
      go_ret2
      rw [HR.out, HB.out]
      exact ⟨A1, c1, rfl, HO.out, hb⟩

theorem c_changedMove (b0 : Nat) (s : Int) (A : Option Addr) (c : Nat) (l : List (Int × Int)) (w : World) (h : At2 .i16 .i8 w A l) (hok : okT l = true) (hc0 : w.cell? ⟨b0, 0, none⟩ = some (.int .i64 s)) (hb0 : -200 ≤ s ∧ s ≤ 200) :
    Calls Tryz.prog 40 #[.slice A l.length c, .func (.func 41) #[] #[.pointer (some ⟨b0, 0, none⟩)]] w fun e w' => ∃ A' c', e = .returned (.tuple #[.slice A' (movR (addG s 0) l).length c', .int .i64 (if movB (addG s 0) l then 0 else 4)]) ∧ Own2 .i16 .i8 40 w' w.heap.size (.slice A' (movR (addG s 0) l).length c') (movR (addG s 0) l) ∧ Below w.heap.size w w' := by
  rcases hB : movB (addG s 0) l with _ | _
  · have HR := Lib.hid (show movR (addG s 0) l = [] by unfold movR; rw [hB]; rfl)
    have HB := Lib.hid hB
    clear hB
    go_enter Tryz.func40, Tryz.ntmps40
    go_wp2_with fail
    refine (c_movedMove b0 s A c l _ h hok hc0 hb0).mono ?_
    rintro e w1 ⟨A1, c1, rfl, o1, b1⟩
    rw [HB.out]
    go_wp2
    go_ret2
    rw [HR.out]
    exact ⟨none, 0, rfl, World.ownsRow_nil _ _ _ _, b1⟩
  · have hR : movR (addG s 0) l = l.map (addG s 0) := by unfold movR; rw [hB]; rfl
    have HK := Lib.hid (show okT (movR (addG s 0) l) = true by rw [hR]; exact movR_ok hok hB (fun p q _ _ _ _ h => addG_mono _ _ h))
    have HB := Lib.hid hB
    clear hB hR
    go_enter Tryz.func40, Tryz.ntmps40
    go_wp2_with fail
    refine (c_movedMove b0 s A c l _ h hok hc0 hb0).mono ?_
    rintro e w1 ⟨A1, c1, rfl, o1, b1⟩
    rw [HB.out]
    obtain ⟨R, hRR⟩ : ∃ R, movR (addG s 0) l = R := ⟨_, rfl⟩
    rw [hRR] at o1 HK ⊢
    have O1 := Lib.hid o1
    have HRR := Lib.hid hRR
    clear o1 hRR
    go_wp2_with fail
    refine (c_made A1 c1 R _ _ O1.out HK.out).mono ?_
    rintro e w2 ⟨A2, c2, rfl, o2, b2⟩
    have O2 := Lib.hid o2
    clear o2
    go_wp2
    go_ret2
    rw [HRR.out]
    exact ⟨A2, c2, rfl, O2.out.base_le b1.size, bstep b1 b2⟩

theorem c_cloTrans (b0 : Nat) (s : Int) (p : Int × Int) (w : World) (hc0 : w.cell? ⟨b0, 0, none⟩ = some (.int .i64 s)) (hb0 : -200 ≤ s ∧ s ≤ 200) (hp : 0 ≤ p.1 ∧ p.1 ≤ 199 ∧ 0 ≤ p.2 ∧ p.2 ≤ 47) :
    Calls Tryz.prog 45 #[.int .i64 p.1, .int .i64 p.2, .pointer (some ⟨b0, 0, none⟩)] w fun e w' => e = .returned (.tuple #[.int .i64 p.1, .int .i64 (p.2 + s)]) ∧ Below w.heap.size w w' := by
  obtain ⟨n1, n2, n3, n4⟩ := hp
  obtain ⟨s1, s2⟩ := hb0
  have hw1 : IntKind.i64.wrap (p.2 + s) = p.2 + s := IntWalk.i64_in _ (by omega)
  have hx : ∀ x : After w, x.w.cell? ⟨b0, 0, none⟩ = some (.int .i64 s) := fun x => keepc hc0 x.below
  go_enter Tryz.func45, Tryz.ntmps45
  go_wp2
  refine region_after (by kernel_rfl) (by kernel_rfl) ?_
  repeat (go_big_quiet_step (fail))
  refine wpQuiet_nil ?_
  rintro _ ⟨x, rfl⟩
  go_wp2
  go_ret2
  exact ⟨rfl, x.below⟩

set_option maxHeartbeats 800000 in
theorem c_movedTrans (b0 : Nat) (s : Int) (A : Option Addr) (c : Nat) (l : List (Int × Int)) (w : World) (h : At2 .i16 .i8 w A l) (hok : okT l = true) (hc0 : w.cell? ⟨b0, 0, none⟩ = some (.int .i64 s)) (hb0 : -200 ≤ s ∧ s ≤ 200) :
    Calls Tryz.prog 71 #[.slice A l.length c, .func (.func 45) #[] #[.pointer (some ⟨b0, 0, none⟩)]] w fun e w' => ∃ A' c', e = .returned (.tuple #[.slice A' (movR (addG 0 s) l).length c', .bool (movB (addG 0 s) l)]) ∧ Own2 .i16 .i8 40 w' w.heap.size (.slice A' (movR (addG 0 s) l).length c') (movR (addG 0 s) l) ∧ Below w.heap.size w w' := by
  have hu := Tryz.underlying40
  have hn := okT_len hok
  have HC := Lib.hid hc0
  clear hc0
  go_enter Tryz.func71, Tryz.ntmps71
  go_wp2
  go_loopw [6, 14] (fun v i w' => ∃ (k : Nat) (A' : Option Addr) (c' : Nat), i = .int .i64 (k : Int) ∧ v = .slice A' ((l.take k).map (addG 0 s)).length c' ∧ k ≤ l.length ∧ (∀ i (hi : i < l.length), i < k → okN ((addG 0 s) l[i]) = true) ∧ Own2 .i16 .i8 40 w' w.heap.size v ((l.take k).map (addG 0 s)) ∧ Below w.heap.size w w') (fun _ i _ => l.length - (intOf i).toNat)
  case atStart => exact ⟨0, _, _, rfl, rfl, by omega, fun _ _ h => absurd h (by omega), Own2.lit0 (Nat.le_refl _), balloc (Below.refl _ _) _⟩
  case round =>
    obtain ⟨k, A1, c1, rfl, rfl, hk, hz, hown, hb⟩ := hrel
    have HZ := Lib.hid hz
    have HO := Lib.hid hown
    clear hz hown
    by_cases hlt : k < l.length
    · obtain ⟨b, off, hAe, hbl, hc⟩ := (h.below hb).get (by omega)
      have y1 := (hc k hlt).1
      have y2 := (hc k hlt).2
      subst hAe
      clear hc
      obtain ⟨n1, n2, n3, n4⟩ := okT_note hok hlt
      have hB := balloc hb (.cells #[.int .i16 l[k].1, .int .i8 l[k].2] 40)
      have hC := keepc HC.out hB
      have HCC := Lib.hid hC
      have HN := Lib.hid (show 0 ≤ l[k].1 ∧ l[k].1 ≤ 199 ∧ 0 ≤ l[k].2 ∧ l[k].2 ≤ 47 from ⟨n1, n2, n3, n4⟩)
      have hon : okN ((addG 0 s) l[k]) = (inB l[k].1 0 199 && inB (l[k].2 + s) 0 47) := by unfold addG okN; simp only [Int.add_zero]
      clear hC
      rcases hx1 : inB l[k].1 0 199 with _ | _
      · rw [hx1, Bool.false_and] at hon
        have HB := Lib.hid (movB_bad hlt hon)
        have HR := Lib.hid (show movR (addG 0 s) l = [] by unfold movR; rw [HB.out]; rfl)
        have HX1 := Lib.hid hx1
        clear hon hx1
        go_wp2_with fail
        refine (c_cloTrans b0 s l[k] _ HCC.out hb0 HN.out).mono ?_
        rintro e w1 ⟨rfl, bc⟩
        have hB1 := bstep hB bc
        go_wp2_with fail
        refine (c_within _ _ _ _).mono ?_
        rintro e w' ⟨rfl, rfl⟩
        rw [HX1.out]
        go_wp2
        go_ret2
        rw [HR.out, HB.out]
        exact ⟨none, 0, rfl, World.ownsRow_nil _ _ _ _, hB1⟩
      · rcases hx2 : inB (l[k].2 + s) 0 47 with _ | _
        · rw [hx2, Bool.and_false] at hon
          have HB := Lib.hid (movB_bad hlt hon)
          have HR := Lib.hid (show movR (addG 0 s) l = [] by unfold movR; rw [HB.out]; rfl)
          have HX1 := Lib.hid hx1
          have HX2 := Lib.hid hx2
          clear hon hx1 hx2
          go_wp2_with fail
          refine (c_cloTrans b0 s l[k] _ HCC.out hb0 HN.out).mono ?_
          rintro e w1 ⟨rfl, bc⟩
          have hB1 := bstep hB bc
          go_wp2_with fail
          refine (c_within _ _ _ _).mono ?_
          rintro e w' ⟨rfl, rfl⟩
          rw [HX1.out]
          go_wp2_with fail
          refine (c_isPitch _ _).mono ?_
          rintro e w' ⟨rfl, rfl⟩
          rw [HX2.out]
          go_wp2
          go_ret2
          rw [HR.out, HB.out]
          exact ⟨none, 0, rfl, World.ownsRow_nil _ _ _ _, hB1⟩
        · rw [hx1, hx2] at hon
          have HON := Lib.hid hon
          have HX1 := Lib.hid hx1
          have HX2 := Lib.hid hx2
          have hb1 := inB_iff.1 hx1
          have hb2 := inB_iff.1 hx2
          have hw3 : IntKind.i16.wrap l[k].1 = l[k].1 := IntWalk.i16_in _ (by omega)
          have hw4 : IntKind.i8.wrap (l[k].2 + s) = (l[k].2 + s) := IntWalk.i8_in _ (by omega)
          have HT := Lib.hid (show (l.take (k + 1)).map (addG 0 s) = (l.take k).map (addG 0 s) ++ [(l[k].1, (l[k].2 + s))] by rw [List.take_succ_eq_append_getElem hlt, List.map_append]; unfold addG; simp only [List.map_cons, List.map_nil, Int.add_zero])
          have hlen2 : ((l.take k).map (addG 0 s)).length ≤ 1073741824 := by rw [List.length_map, List.length_take]; omega
          have hown1 := HO.out.alloc (.cells #[.int .i16 l[k].1, .int .i8 l[k].2] 40)
          obtain ⟨L, hL⟩ : ∃ L, (l.take k).map (addG 0 s) = L := ⟨_, rfl⟩
          rw [hL] at HT hlen2 hown1 ⊢
          clear hon hx1 hx2 hb1 hb2 hL
          go_wp2_with fail
          refine (c_cloTrans b0 s l[k] _ HCC.out hb0 HN.out).mono ?_
          rintro e w1 ⟨rfl, bc⟩
          have hown2 := (hown1.below bc).alloc (.cells #[.int .i16 l[k].1, .int .i8 (l[k].2 + s)] 40)
          have B3 := balloc (bstep hB bc) (.cells #[.int .i16 l[k].1, .int .i8 (l[k].2 + s)] 40)
          have hbs := B3.size
          have z1 : (w1.alloc (.cells #[.int .i16 l[k].1, .int .i8 (l[k].2 + s)] 40)).cell? ⟨w1.heap.size, 0, none⟩ = some (.int .i16 l[k].1) := cell_new w1 #[.int .i16 l[k].1, .int .i8 (l[k].2 + s)] 40 (i := 0) rfl
          have z2 : (w1.alloc (.cells #[.int .i16 l[k].1, .int .i8 (l[k].2 + s)] 40)).cell? ⟨w1.heap.size, 1, none⟩ = some (.int .i8 (l[k].2 + s)) := cell_new w1 #[.int .i16 l[k].1, .int .i8 (l[k].2 + s)] 40 (i := 1) rfl
          go_wp2_with fail
          refine (c_within _ _ _ _).mono ?_
          rintro e w' ⟨rfl, rfl⟩
          rw [HX1.out]
          go_wp2_with fail
          refine (c_isPitch _ _).mono ?_
          rintro e w' ⟨rfl, rfl⟩
          rw [HX2.out]
          go_wp2_with (at_builtin; refine append_pair rfl (.tmp 37) (.tmp 43) 24 rfl 40 .i16 .i8 4 Tryz.underlying24 info_Note (by decide) w.heap.size _ _ rfl hown2 _ _ (l[k].1, (l[k].2 + s)) rfl z1 z2 hlen2 hbs ?_; intro A3 c3 w3 ho3 hg3)
          have B4 := bgrown B3 hg3 (fun j hj => hown2.low hj)
          go_roundw
          case rel =>
            refine ⟨k + 1, A3, c3, by go_num, by rw [HT.out, List.length_append]; rfl, by omega, fun i hi hik => ?_, by rw [HT.out]; rw [List.length_append] at ho3; exact ho3, B4⟩
            by_cases e : i = k
            · subst e; exact HON.out
            · exact HZ.out i hi (by omega)
          case measure => simp [intOf]; omega
    · obtain rfl : k = l.length := by omega
      have HB := Lib.hid (movB_all (g := (addG 0 s)) (fun i hi => HZ.out i hi hi))
      have HR := Lib.hid (show movR (addG 0 s) l = (l.take l.length).map (addG 0 s) by unfold movR; rw [HB.out, List.take_length]; rfl)
      go_wp2
      go_ret2
      rw [HR.out, HB.out]
      exact ⟨A1, c1, rfl, HO.out, hb⟩

theorem c_changedTrans (b0 : Nat) (s : Int) (A : Option Addr) (c : Nat) (l : List (Int × Int)) (w : World) (h : At2 .i16 .i8 w A l) (hok : okT l = true) (hc0 : w.cell? ⟨b0, 0, none⟩ = some (.int .i64 s)) (hb0 : -200 ≤ s ∧ s ≤ 200) :
    Calls Tryz.prog 40 #[.slice A l.length c, .func (.func 45) #[] #[.pointer (some ⟨b0, 0, none⟩)]] w fun e w' => ∃ A' c', e = .returned (.tuple #[.slice A' (movR (addG 0 s) l).length c', .int .i64 (if movB (addG 0 s) l then 0 else 4)]) ∧ Own2 .i16 .i8 40 w' w.heap.size (.slice A' (movR (addG 0 s) l).length c') (movR (addG 0 s) l) ∧ Below w.heap.size w w' := by
  rcases hB : movB (addG 0 s) l with _ | _
  · have HR := Lib.hid (show movR (addG 0 s) l = [] by unfold movR; rw [hB]; rfl)
    have HB := Lib.hid hB
    clear hB
    go_enter Tryz.func40, Tryz.ntmps40
    go_wp2_with fail
    refine (c_movedTrans b0 s A c l _ h hok hc0 hb0).mono ?_
    rintro e w1 ⟨A1, c1, rfl, o1, b1⟩
    rw [HB.out]
    go_wp2
    go_ret2
    rw [HR.out]
    exact ⟨none, 0, rfl, World.ownsRow_nil _ _ _ _, b1⟩
  · have hR : movR (addG 0 s) l = l.map (addG 0 s) := by unfold movR; rw [hB]; rfl
    have HK := Lib.hid (show okT (movR (addG 0 s) l) = true by rw [hR]; exact movR_ok hok hB (fun p q _ _ _ _ h => addG_mono _ _ h))
    have HB := Lib.hid hB
    clear hB hR
    go_enter Tryz.func40, Tryz.ntmps40
    go_wp2_with fail
    refine (c_movedTrans b0 s A c l _ h hok hc0 hb0).mono ?_
    rintro e w1 ⟨A1, c1, rfl, o1, b1⟩
    rw [HB.out]
    obtain ⟨R, hRR⟩ : ∃ R, movR (addG 0 s) l = R := ⟨_, rfl⟩
    rw [hRR] at o1 HK ⊢
    have O1 := Lib.hid o1
    have HRR := Lib.hid hRR
    clear o1 hRR
    go_wp2_with fail
    refine (c_made A1 c1 R _ _ O1.out HK.out).mono ?_
    rintro e w2 ⟨A2, c2, rfl, o2, b2⟩
    have O2 := Lib.hid o2
    clear o2
    go_wp2
    go_ret2
    rw [HRR.out]
    exact ⟨A2, c2, rfl, O2.out.base_le b1.size, bstep b1 b2⟩

end Go.Proofs.YtbdopmcjoncelaaGreatDoor
