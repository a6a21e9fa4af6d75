/-
  The walks of moved and made notes that are stretched.
-/
import Derived.Test.YtbdopmcjoncelaaGreatDoorWalkM
namespace Go.Proofs.YtbdopmcjoncelaaGreatDoor
open Go.RowKit
set_option linter.unusedVariables false
set_option linter.unusedSimpArgs false
set_option maxRecDepth 4000

theorem okN_inB (p : Int × Int) : okN p = (inB p.1 0 199 && inB p.2 0 47) := rfl
theorem strG_2 (n d : Int) (p : Int × Int) : (strG n d p).2 = p.2 := by unfold strG; split <;> rfl
theorem strG_yes {n d : Int} {p : Int × Int} (h : (p.1 * n) % d = 0) : (strG n d p).1 = p.1 * n / d := by unfold strG; rw [if_pos h]
theorem strG_no {n d : Int} {p : Int × Int} (h : ¬ (p.1 * n) % d = 0) : (strG n d p).1 = -1 := by unfold strG; rw [if_neg h]
theorem mul_bd {x n : Int} (h1 : 0 ≤ x ∧ x ≤ 199) (h2 : 1 ≤ n ∧ n ≤ 100) : 0 ≤ x * n ∧ x * n ≤ 19900 := by
  refine ⟨Int.mul_nonneg h1.1 (by omega), ?_⟩
  have h3 := Int.mul_le_mul h1.2 h2.2 (by omega) (by omega : (0:Int) ≤ 199)
  omega

theorem c_cloStr (b0 : Nat) (b1 : Nat) (n : Int) (d : Int) (p : Int × Int) (w : World) (hc0 : w.cell? ⟨b0, 0, none⟩ = some (.int .i64 n) ∧ w.cell? ⟨b1, 0, none⟩ = some (.int .i64 d)) (hb0 : 1 ≤ n ∧ n ≤ 100 ∧ 1 ≤ d ∧ d ≤ 100) (hp : 0 ≤ p.1 ∧ p.1 ≤ 199 ∧ 0 ≤ p.2 ∧ p.2 ≤ 47) :
    Calls Tryz.prog 58 #[.int .i64 p.1, .int .i64 p.2, .pointer (some ⟨b0, 0, none⟩), .pointer (some ⟨b1, 0, none⟩)] w fun e w' => e = .returned (.tuple #[.int .i64 (strG n d p).1, .int .i64 (strG n d p).2]) ∧ Below w.heap.size w w' := by
  obtain ⟨n1, n2, n3, n4⟩ := hp
  obtain ⟨s1, s2, s3, s4⟩ := hb0
  obtain ⟨hc0, hc1⟩ := hc0
  have hm := mul_bd ⟨n1, n2⟩ ⟨s1, s2⟩
  have hw1 : IntKind.i64.wrap (p.1 * n) = p.1 * n := IntWalk.i64_in _ (by omega)
  rw [strG_2]
  obtain ⟨q, hq⟩ : ∃ q, p.1 * n = q := ⟨_, rfl⟩
  have hd0 : ¬ d = 0 := by omega
  by_cases hz : q % d = 0
  · rw [strG_yes (by rw [hq]; exact hz), hq]
    rw [hq] at hw1 hm
    have ht : Int.tmod q d = 0 := by rw [Int.tmod_eq_emod_of_nonneg hm.1]; exact hz
    have hv : Int.tdiv q d = q / d := Int.tdiv_eq_ediv_of_nonneg hm.1
    have hle : q / d ≤ q := Int.ediv_le_self _ hm.1
    have hge : 0 ≤ q / d := Int.ediv_nonneg hm.1 (by omega)
    have hw2 : IntKind.i64.wrap (q / d) = q / d := IntWalk.i64_in _ (by omega)
    have hw3 : IntKind.i64.wrap 0 = 0 := IntWalk.i64_in _ (by omega)
    go_enter Tryz.func58, Tryz.ntmps58
    go_wp2
    go_ret2
    exact ⟨rfl, Below.refl _ _⟩
  · rw [strG_no (by rw [hq]; exact hz)]
    rw [hq] at hw1 hm
    have ht : Int.tmod q d = q % d := by rw [Int.tmod_eq_emod_of_nonneg hm.1]
    have hle : q % d < d := Int.emod_lt_of_pos _ (by omega)
    have hge : 0 ≤ q % d := Int.emod_nonneg _ hd0
    have hw3 : IntKind.i64.wrap (q % d) = q % d := IntWalk.i64_in _ (by omega)
    go_enter Tryz.func58, Tryz.ntmps58
    go_wp2
    go_ret2
    exact ⟨rfl, Below.refl _ _⟩

set_option maxHeartbeats 800000 in
theorem c_movedStr (b0 : Nat) (b1 : Nat) (n : Int) (d : Int) (A : Option Addr) (c : Nat) (l : List (Int × Int)) (w : World) (h : At2 .i16 .i8 w A l) (hok : okT l = true) (hc0 : w.cell? ⟨b0, 0, none⟩ = some (.int .i64 n) ∧ w.cell? ⟨b1, 0, none⟩ = some (.int .i64 d)) (hb0 : 1 ≤ n ∧ n ≤ 100 ∧ 1 ≤ d ∧ d ≤ 100) :
    Calls Tryz.prog 71 #[.slice A l.length c, .func (.func 58) #[] #[.pointer (some ⟨b0, 0, none⟩), .pointer (some ⟨b1, 0, none⟩)]] w fun e w' => ∃ A' c', e = .returned (.tuple #[.slice A' (movR (strG n d) l).length c', .bool (movB (strG n d) l)]) ∧ Own2 .i16 .i8 40 w' w.heap.size (.slice A' (movR (strG n d) l).length c') (movR (strG n d) l) ∧ Below w.heap.size w w' := by
  have hu := Tryz.underlying40
  have hn := okT_len hok
  have HC := Lib.hid hc0
  clear hc0
  go_enter Tryz.func71, Tryz.ntmps71
  go_wp2
  go_loopw [6, 14] (fun v i w' => ∃ (k : Nat) (A' : Option Addr) (c' : Nat), i = .int .i64 (k : Int) ∧ v = .slice A' ((l.take k).map (strG n d)).length c' ∧ k ≤ l.length ∧ (∀ i (hi : i < l.length), i < k → okN ((strG n d) l[i]) = true) ∧ Own2 .i16 .i8 40 w' w.heap.size v ((l.take k).map (strG n d)) ∧ Below w.heap.size w w') (fun _ i _ => l.length - (intOf i).toNat)
  case atStart => exact ⟨0, _, _, rfl, rfl, by omega, fun _ _ h => absurd h (by omega), Own2.lit0 (Nat.le_refl _), balloc (Below.refl _ _) _⟩
  case round =>
    obtain ⟨k, A1, c1, rfl, rfl, hk, hz, hown, hb⟩ := hrel
    have HZ := Lib.hid hz
    have HO := Lib.hid hown
    clear hz hown
    by_cases hlt : k < l.length
    · obtain ⟨b, off, hAe, hbl, hc⟩ := (h.below hb).get (by omega)
      have y1 := (hc k hlt).1
      have y2 := (hc k hlt).2
      subst hAe
      clear hc
      obtain ⟨n1, n2, n3, n4⟩ := okT_note hok hlt
      have hB := balloc hb (.cells #[.int .i16 l[k].1, .int .i8 l[k].2] 40)
      have hC := (⟨keepc HC.out.1 hB, keepc HC.out.2 hB⟩ : _ ∧ _)
      have HCC := Lib.hid hC
      have HN := Lib.hid (show 0 ≤ l[k].1 ∧ l[k].1 ≤ 199 ∧ 0 ≤ l[k].2 ∧ l[k].2 ≤ 47 from ⟨n1, n2, n3, n4⟩)
      have hon : okN ((strG n d) l[k]) = (inB (strG n d l[k]).1 0 199 && inB (strG n d l[k]).2 0 47) := okN_inB _
      clear hC
      rcases hx1 : inB (strG n d l[k]).1 0 199 with _ | _
      · rw [hx1, Bool.false_and] at hon
        have HB := Lib.hid (movB_bad hlt hon)
        have HR := Lib.hid (show movR (strG n d) l = [] by unfold movR; rw [HB.out]; rfl)
        have HX1 := Lib.hid hx1
        clear hon hx1
        go_wp2_with fail
        refine (c_cloStr b0 b1 n d l[k] _ HCC.out hb0 HN.out).mono ?_
        rintro e w1 ⟨rfl, bc⟩
        have hB1 := bstep hB bc
        go_wp2_with fail
        refine (c_within _ _ _ _).mono ?_
        rintro e w' ⟨rfl, rfl⟩
        rw [HX1.out]
        go_wp2
        go_ret2
        rw [HR.out, HB.out]
        exact ⟨none, 0, rfl, World.ownsRow_nil _ _ _ _, hB1⟩
      · rcases hx2 : inB (strG n d l[k]).2 0 47 with _ | _
        · rw [hx2, Bool.and_false] at hon
          have HB := Lib.hid (movB_bad hlt hon)
          have HR := Lib.hid (show movR (strG n d) l = [] by unfold movR; rw [HB.out]; rfl)
          have HX1 := Lib.hid hx1
          have HX2 := Lib.hid hx2
          clear hon hx1 hx2
          go_wp2_with fail
          refine (c_cloStr b0 b1 n d l[k] _ HCC.out hb0 HN.out).mono ?_
          rintro e w1 ⟨rfl, bc⟩
          have hB1 := bstep hB bc
          go_wp2_with fail
          refine (c_within _ _ _ _).mono ?_
          rintro e w' ⟨rfl, rfl⟩
          rw [HX1.out]
          go_wp2_with fail
          refine (c_isPitch _ _).mono ?_
          rintro e w' ⟨rfl, rfl⟩
          rw [HX2.out]
          go_wp2
          go_ret2
          rw [HR.out, HB.out]
          exact ⟨none, 0, rfl, World.ownsRow_nil _ _ _ _, hB1⟩
        · rw [hx1, hx2] at hon
          have HON := Lib.hid hon
          have HX1 := Lib.hid hx1
          have HX2 := Lib.hid hx2
          have hb1 := inB_iff.1 hx1
          have hb2 := inB_iff.1 hx2
          have hw3 : IntKind.i16.wrap (strG n d l[k]).1 = (strG n d l[k]).1 := IntWalk.i16_in _ (by omega)
          have hw4 : IntKind.i8.wrap (strG n d l[k]).2 = (strG n d l[k]).2 := IntWalk.i8_in _ (by omega)
          have HT := Lib.hid (show (l.take (k + 1)).map (strG n d) = (l.take k).map (strG n d) ++ [((strG n d l[k]).1, (strG n d l[k]).2)] by rw [List.take_succ_eq_append_getElem hlt, List.map_append]; rfl)
          have hlen2 : ((l.take k).map (strG n d)).length ≤ 1073741824 := by rw [List.length_map, List.length_take]; omega
          have hown1 := HO.out.alloc (.cells #[.int .i16 l[k].1, .int .i8 l[k].2] 40)
          obtain ⟨L, hL⟩ : ∃ L, (l.take k).map (strG n d) = L := ⟨_, rfl⟩
          rw [hL] at HT hlen2 hown1 ⊢
          clear hon hx1 hx2 hb1 hb2 hL
          go_wp2_with fail
          refine (c_cloStr b0 b1 n d l[k] _ HCC.out hb0 HN.out).mono ?_
          rintro e w1 ⟨rfl, bc⟩
          have hown2 := (hown1.below bc).alloc (.cells #[.int .i16 (strG n d l[k]).1, .int .i8 (strG n d l[k]).2] 40)
          have B3 := balloc (bstep hB bc) (.cells #[.int .i16 (strG n d l[k]).1, .int .i8 (strG n d l[k]).2] 40)
          have hbs := B3.size
          have z1 : (w1.alloc (.cells #[.int .i16 (strG n d l[k]).1, .int .i8 (strG n d l[k]).2] 40)).cell? ⟨w1.heap.size, 0, none⟩ = some (.int .i16 (strG n d l[k]).1) := cell_new w1 #[.int .i16 (strG n d l[k]).1, .int .i8 (strG n d l[k]).2] 40 (i := 0) rfl
          have z2 : (w1.alloc (.cells #[.int .i16 (strG n d l[k]).1, .int .i8 (strG n d l[k]).2] 40)).cell? ⟨w1.heap.size, 1, none⟩ = some (.int .i8 (strG n d l[k]).2) := cell_new w1 #[.int .i16 (strG n d l[k]).1, .int .i8 (strG n d l[k]).2] 40 (i := 1) rfl
          go_wp2_with fail
          refine (c_within _ _ _ _).mono ?_
          rintro e w' ⟨rfl, rfl⟩
          rw [HX1.out]
          go_wp2_with fail
          refine (c_isPitch _ _).mono ?_
          rintro e w' ⟨rfl, rfl⟩
          rw [HX2.out]
          go_wp2_with (at_builtin; refine append_pair rfl (.tmp 37) (.tmp 43) 24 rfl 40 .i16 .i8 4 Tryz.underlying24 info_Note (by decide) w.heap.size _ _ rfl hown2 _ _ ((strG n d l[k]).1, (strG n d l[k]).2) rfl z1 z2 hlen2 hbs ?_; intro A3 c3 w3 ho3 hg3)
          have B4 := bgrown B3 hg3 (fun j hj => hown2.low hj)
          go_roundw
          case rel =>
            refine ⟨k + 1, A3, c3, by go_num, by rw [HT.out, List.length_append]; rfl, by omega, fun i hi hik => ?_, by rw [HT.out]; rw [List.length_append] at ho3; exact ho3, B4⟩
            by_cases e : i = k
            · subst e; exact HON.out
            · exact HZ.out i hi (by omega)
          case measure => simp [intOf]; omega
    · obtain rfl : k = l.length := by omega
      have HB := Lib.hid (movB_all (g := (strG n d)) (fun i hi => HZ.out i hi hi))
      have HR := Lib.hid (show movR (strG n d) l = (l.take l.length).map (strG n d) by unfold movR; rw [HB.out, List.take_length]; rfl)
      go_wp2
      go_ret2
      rw [HR.out, HB.out]
      exact ⟨A1, c1, rfl, HO.out, hb⟩

theorem c_changedStr (b0 : Nat) (b1 : Nat) (n : Int) (d : Int) (A : Option Addr) (c : Nat) (l : List (Int × Int)) (w : World) (h : At2 .i16 .i8 w A l) (hok : okT l = true) (hc0 : w.cell? ⟨b0, 0, none⟩ = some (.int .i64 n) ∧ w.cell? ⟨b1, 0, none⟩ = some (.int .i64 d)) (hb0 : 1 ≤ n ∧ n ≤ 100 ∧ 1 ≤ d ∧ d ≤ 100) :
    Calls Tryz.prog 40 #[.slice A l.length c, .func (.func 58) #[] #[.pointer (some ⟨b0, 0, none⟩), .pointer (some ⟨b1, 0, none⟩)]] w fun e w' => ∃ A' c', e = .returned (.tuple #[.slice A' (movR (strG n d) l).length c', .int .i64 (if movB (strG n d) l then 0 else 4)]) ∧ Own2 .i16 .i8 40 w' w.heap.size (.slice A' (movR (strG n d) l).length c') (movR (strG n d) l) ∧ Below w.heap.size w w' := by
  rcases hB : movB (strG n d) l with _ | _
  · have HR := Lib.hid (show movR (strG n d) l = [] by unfold movR; rw [hB]; rfl)
    have HB := Lib.hid hB
    clear hB
    go_enter Tryz.func40, Tryz.ntmps40
    go_wp2_with fail
    refine (c_movedStr b0 b1 n d A c l _ h hok hc0 hb0).mono ?_
    rintro e w1 ⟨A1, c1, rfl, o1, b1⟩
    rw [HB.out]
    go_wp2
    go_ret2
    rw [HR.out]
    exact ⟨none, 0, rfl, World.ownsRow_nil _ _ _ _, b1⟩
  · have hR : movR (strG n d) l = l.map (strG n d) := by unfold movR; rw [hB]; rfl
    have HK := Lib.hid (show okT (movR (strG n d) l) = true by rw [hR]; exact movR_ok hok hB (fun p q _ _ hx hy h => strG_mono hb0.1 hb0.2.2.1 hx hy h))
    have HB := Lib.hid hB
    clear hB hR
    go_enter Tryz.func40, Tryz.ntmps40
    go_wp2_with fail
    refine (c_movedStr b0 b1 n d A c l _ h hok hc0 hb0).mono ?_
    rintro e w1 ⟨A1, c1, rfl, o1, b1⟩
    rw [HB.out]
    obtain ⟨R, hRR⟩ : ∃ R, movR (strG n d) l = R := ⟨_, rfl⟩
    rw [hRR] at o1 HK ⊢
    have O1 := Lib.hid o1
    have HRR := Lib.hid hRR
    clear o1 hRR
    go_wp2_with fail
    refine (c_made A1 c1 R _ _ O1.out HK.out).mono ?_
    rintro e w2 ⟨A2, c2, rfl, o2, b2⟩
    have O2 := Lib.hid o2
    clear o2
    go_wp2
    go_ret2
    rw [HRR.out]
    exact ⟨A2, c2, rfl, O2.out.base_le b1.size, bstep b1 b2⟩

end Go.Proofs.YtbdopmcjoncelaaGreatDoor
