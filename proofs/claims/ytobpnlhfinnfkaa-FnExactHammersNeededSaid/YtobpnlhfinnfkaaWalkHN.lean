/-
  HammersNeeded, in the reference and in the program.
-/
import Derived.Test.YtobpnlhfinnfkaaWalkA
import Derived.Test.YtobpnlhfinnfkaaDataD
import Derived.Test.YtobpnlhfinnfkaaDataF
import Derived.Test.YtobpnlhfinnfkaaDataN
import Derived.Test.YtobpnlhfinnfkaaPureS
import Derived.Test.YtobpnlhfinnfkaaWalkDX
import Derived.Lib.LazyBuf
namespace Go.Proofs.Ytobpnlhfinnfkaa
open Go.RowKit
set_option linter.unusedVariables false
set_option linter.unusedSimpArgs false
set_option maxRecDepth 4000

theorem tmodN {a b : Int} (h : 0 ≤ a) : Int.tmod a b = a % b := Int.tmod_eq_emod_of_nonneg h
theorem c_l03Near (a b s r : Int) (w : World) (hs : 2 ≤ s ∧ s ≤ 96) (ha : 0 ≤ a ∧ a ≤ s - 1) (hb : 0 ≤ b ∧ b ≤ s - 1) :
    Calls Try.prog 79 #[.int .i64 a, .int .i64 b, .int .i64 s, .int .i64 r] w fun e w' => e = .returned (.bool (nearI s r a b)) ∧ w = w' := by
  obtain ⟨s1, s2⟩ := hs
  have h1 : IntKind.i64.wrap (b - a) = b - a := IntWalk.i64_in _ (by omega)
  have h2 : IntKind.i64.wrap (b - a + s) = b - a + s := IntWalk.i64_in _ (by omega)
  have h3 : IntKind.i64.wrap (a - b) = a - b := IntWalk.i64_in _ (by omega)
  have h4 : IntKind.i64.wrap (a - b + s) = a - b + s := IntWalk.i64_in _ (by omega)
  have hs0 : ¬ s = 0 := by omega
  obtain ⟨p, hp⟩ : ∃ p, (b - a + s) % s = p := ⟨_, rfl⟩
  obtain ⟨q, hq⟩ : ∃ q, (a - b + s) % s = q := ⟨_, rfl⟩
  have p1 : 0 ≤ p := by rw [← hp]; exact Int.emod_nonneg _ hs0
  have p2 : p < s := by rw [← hp]; exact Int.emod_lt_of_pos _ (by omega)
  have q1 : 0 ≤ q := by rw [← hq]; exact Int.emod_nonneg _ hs0
  have q2 : q < s := by rw [← hq]; exact Int.emod_lt_of_pos _ (by omega)
  have t1 : Int.tmod (b - a + s) s = p := by rw [tmodN (by omega), hp]
  have t2 : Int.tmod (a - b + s) s = q := by rw [tmodN (by omega), hq]
  have h5 : IntKind.i64.wrap p = p := IntWalk.i64_in _ (by omega)
  have h6 : IntKind.i64.wrap q = q := IntWalk.i64_in _ (by omega)
  have HN := Lib.hid (show nearI s r a b = (decide (p < r) || decide (q < r)) by unfold nearI; rw [hp, hq])
  clear hp hq
  rcases e1 : decide (p < r) with _ | _
  · rcases e2 : decide (q < r) with _ | _
    all_goals
      go_enter Try.func79, Try.ntmps79
      go_wp2
      go_ret
      exact ⟨ret_bool (by rw [HN.out, e1, e2]; rfl), rfl⟩
  · go_enter Try.func79, Try.ntmps79
    go_wp2
    go_ret
    exact ⟨ret_bool (by rw [HN.out, e1]; rfl), rfl⟩
theorem c_l00Max (a b : Int) (w : World) : Calls Try.prog 80 #[.int .i64 a, .int .i64 b] w fun e w' => e = .returned (.int .i64 (max a b)) ∧ w = w' := by
  by_cases h : b < a
  · have hd : decide (b < a) = true := decide_eq_true h
    go_enter Try.func80, Try.ntmps80
    go_wp2
    go_ret
    exact ⟨ret_int (by omega), rfl⟩
  · have hd : decide (b < a) = false := decide_eq_false h
    go_enter Try.func80, Try.ntmps80
    go_wp2
    go_ret
    exact ⟨ret_int (by omega), rfl⟩
theorem PreA.get {s : Int} {l : List Int} (h : PreA s l l.length) {k : Nat} (hk : k < l.length) : 0 ≤ l[k] ∧ l[k] ≤ s - 1 := (h k hk hk).1
theorem nearK_at {s r : Int} {l : List Int} {k i : Nat} (hk : k < l.length) (hi : i < l.length) : nearK s r l k i = nearI s r l[k] l[i] := by unfold nearK; simp [List.getD, hk, hi]
theorem info_i64N : (Try.prog.info? 2).map (fun i => (i.zero, i.size, i.bytes)) = some (some (.int .i64 0), 1, 8) := by kernel_rfl

set_option maxHeartbeats 1000000 in
theorem c_l03Split (s r : Int) (ats : List Int) (most : Nat) (hs : 2 ≤ s ∧ s ≤ 96) (hr : 1 ≤ r ∧ r ≤ 20) (hp : PreA s ats ats.length) (hl : ats.length ≤ 14) (hm : most ≤ 14) :
    ∀ (f : Nat) (given : List Int) (used : Nat) (A B : Option Addr) (c d : Nat) (w : World), At1 .i64 w A ats → At1 .i64 w B given → given.length + f = ats.length → used ≤ given.length →
    Calls Try.prog 58 #[.slice A ats.length c, .slice B given.length d, .int .i64 (used : Int), .int .i64 (most : Int), .int .i64 s, .int .i64 r] w fun e w' => e = .returned (.bool (splitG (nearK s r ats) most f given used)) ∧ Below w.heap.size w w' := by
  intro f
  induction f with
  | zero =>
    intro given used A B c d w hA hB hlen hus
    have hlb : ((given.length : Int) == (ats.length : Int)) = true := by simp; omega
    go_enter Try.func58, Try.ntmps58
    go_wp2
    go_ret
    exact ⟨rfl, Below.refl _ _⟩
  | succ f ih =>
    intro given used A B c d w hA hB hlen hus
    have HIH := Lib.hid ih
    clear ih
    have hlb : ((given.length : Int) == (ats.length : Int)) = false := by simp; omega
    have hgl : given.length < ats.length := by omega
    go_enter Try.func58, Try.ntmps58
    go_wp2
    clear hlb
    go_loopw [14] (fun hv w' => ∃ h : Nat, hv = .int .i64 (h : Int) ∧ h ≤ min (used + 1) most ∧ (∀ j, j < h → tryB (nearK s r ats) most f given used j = false) ∧ Below w.heap.size w w') (fun hv _ => 20 - (intOf hv).toNat)
    case atStart => exact ⟨0, rfl, by omega, fun _ h => absurd h (by omega), Below.refl _ _⟩
    case round =>
      obtain ⟨h, rfl, hh, hz, hb⟩ := hrel
      have HZ := Lib.hid hz
      clear hz
      by_cases hlt : h < used + 1 ∧ h < most
      · obtain ⟨hl1, hl2⟩ := hlt
        have hd1 : decide ((h : Int) ≤ (used : Int)) = true := decide_eq_true (by omega)
        have hd2 : decide ((h : Int) < (most : Int)) = true := decide_eq_true (by omega)
        have hw1 : IntKind.i64.wrap ((h : Int) + 1) = (h : Int) + 1 := IntWalk.i64_in _ (by omega)
        go_wp2
        go_loopw [15, 16] (fun fv kv w' => ∃ k : Nat, kv = .int .i64 (k : Int) ∧ fv = .bool (fitB (nearK s r ats) given (h : Int) k) ∧ k ≤ given.length ∧ Below w.heap.size w w') (fun _ kv _ => given.length - (intOf kv).toNat)
        case atStart => exact ⟨0, rfl, rfl, by omega, hb⟩
        case round =>
          obtain ⟨k, rfl, rfl, hk, hb2⟩ := hrel
          rcases hf : fitB (nearK s r ats) given (h : Int) k with _ | _
          · have HF := Lib.hid (fitB_le hk hf)
            have hT := Lib.hid (show tryB (nearK s r ats) most f given used h = false by unfold tryB; rw [HF.out]; rfl)
            clear hf
            by_cases hkl : k < given.length
            all_goals
              first
                | (have hd3 : decide ((k : Int) < (given.length : Int)) = true := decide_eq_true (by omega))
                | (have hd3 : decide ((k : Int) < (given.length : Int)) = false := decide_eq_false (by omega))
              go_wp2
              go_roundw
              case rel => exact ⟨h + 1, by go_num, by omega, fun j hj => by
                by_cases e : j = h
                · subst e; exact hT.out
                · exact HZ.out j (by omega), hb2⟩
              case measure => simp [intOf]; omega
          · by_cases hkl : k < given.length
            · have hkl2 : k < ats.length := by omega
              obtain ⟨b1, off1, hA1, hbl1, hc1⟩ := (hA.below hb2).get (by omega)
              obtain ⟨b2, off2, hB1, hbl2, hc2⟩ := (hB.below hb2).get (by omega)
              subst hA1
              subst hB1
              have x1 : ∀ x : After wr, _ := fun x => (x.cell hbl1).trans (hc1 k hkl2)
              have x2 : ∀ x : After wr, _ := fun x => (x.cell hbl1).trans (hc1 given.length hgl)
              have x3 : ∀ x : After wr, _ := fun x => (x.cell hbl2).trans (hc2 k hkl)
              clear hc1 hc2
              have hd3 : decide ((k : Int) < (given.length : Int)) = true := decide_eq_true (by omega)
              have hki : (k : Int) < (ats.length : Int) := by omega
              have hgi : (given.length : Int) < (ats.length : Int) := by omega
              have hk0 : (0 : Int) ≤ (k : Int) := by omega
              have hg0 : (0 : Int) ≤ (given.length : Int) := by omega
              have hna := nearK_at (s := s) (r := r) hkl2 hgl
              have ha1 := hp.get hkl2
              have ha2 := hp.get hgl
              have hsucc := fitB_succ (nearK s r ats) given (h : Int) k
              rw [hf, Bool.true_and, show given.getD k 0 = given[k] by simp [List.getD, hkl], hna] at hsucc
              rcases hg : (given[k] != (h : Int)) with _ | _
              · have hge : (given[k] == (h : Int)) = true := by simpa using hg
                rw [hge, Bool.true_and] at hsucc
                have HS := Lib.hid hsucc
                have HF := Lib.hid hf
                clear hsucc hge hna hf
                go_wp2
                refine region_after (by kernel_rfl) (by kernel_rfl) ?_
                repeat (go_big_quiet_step (((go_at_call 79; exact After.call_same (c_l03Near _ _ _ _ _ hs ha1 ha2)))))
                refine wpQuiet_nil ?_
                rintro _ ⟨x, rfl⟩
                go_wp2
                go_roundw
                case rel => exact ⟨k + 1, by go_num, by rw [HS.out], by omega, bstep hb2 x.below⟩
                case measure => simp [intOf]; omega
              · have hge : (given[k] == (h : Int)) = false := by simpa using hg
                rw [hge, Bool.false_and] at hsucc
                have HS := Lib.hid hsucc
                have HF := Lib.hid hf
                clear hsucc hge hna hf
                go_wp2
                refine region_after (by kernel_rfl) (by kernel_rfl) ?_
                repeat (go_big_quiet_step (((go_at_call 79; exact After.call_same (c_l03Near _ _ _ _ _ hs ha1 ha2)))))
                refine wpQuiet_nil ?_
                rintro _ ⟨x, rfl⟩
                go_wp2
                go_roundw
                case rel => exact ⟨k + 1, by go_num, by rw [HS.out]; rfl, by omega, bstep hb2 x.below⟩
                case measure => simp [intOf]; omega
            · obtain rfl : k = given.length := by omega
              have hd3 : decide ((given.length : Int) < (given.length : Int)) = false := decide_eq_false (by omega)
              have hmax : max used (h + 1) ≤ given.length + 1 := by omega
              have HF := Lib.hid hf
              clear hf
              rcases ht : splitG (nearK s r ats) most f (given ++ [(h : Int)]) (max used (h + 1)) with _ | _
              all_goals
                have HT := Lib.hid (show tryB (nearK s r ats) most f given used h = _ from (by unfold tryB; rw [HF.out, Bool.true_and, ht]))
                have hown1 := Own1.lit0 (k := .i64) (E := 2) (w := wr) (base := wr.heap.size) (Nat.le_refl _)
                have B1 := balloc (Below.refl _ wr) (.cells #[] 2)
                have hB1 := (hB.below hb2).below B1
                have hA1 := Lib.hid (hA.below hb2)
                have hz0 : ([] : List Int).length + given.length ≤ 1073741824 := by simp; omega
                have hz1 : given.length + [(h : Int)].length ≤ 1073741824 := by simp; omega
                have HH := Lib.hid ht
                clear ht
                go_wp2_with (first
                  | (at_builtin; refine append_ints (by rfl) (.tmp 64) (.tmp 65) 22 rfl 2 .i64 8 Try.underlying22 info_i64N (by decide) wr.heap.size _ _ rfl hown1 _ _ given rfl hB1 hz0 B1.size ?_; intro A2 c2 w2 ho2 hg2; rw [List.nil_append] at ho2 ⊢; have B2 := bgrown B1 hg2 (fun j hj => hown1.low hj); have hown2 := ho2.alloc (.cells #[.int .i64 (h : Int)] 2); have B3 := balloc B2 (.cells #[.int .i64 (h : Int)] 2); clear hown1 ho2)
                  | (at_builtin; refine append_ints (by rfl) (.tmp 66) (.tmp 68) 22 rfl 2 .i64 8 Try.underlying22 info_i64N (by decide) wr.heap.size _ _ rfl hown2 _ _ [(h : Int)] rfl (At1.one _ _ _) hz1 B3.size ?_; intro A4 c4 w4 ho4 hg4; have B4 := bgrown B3 hg4 (fun j hj => hown2.low hj); have HO4 := Lib.hid ho4; clear hown2 ho4)
                  | (go_at_call 80; refine (c_l00Max _ _ _).mono ?_; rintro e w' ⟨rfl, rfl⟩; rw [show max (used : Int) ((h : Int) + 1) = ((max used (h + 1) : Nat) : Int) from by omega]))
                have hIH := HIH.out (given ++ [(h : Int)]) (max used (h + 1)) A A4 c c4 w4 (hA1.out.below B4) HO4.out.at_ (by rw [List.length_append]; simp; omega) (by rw [List.length_append]; simp; omega)
                rw [HH.out, List.length_append] at hIH
                refine hIH.mono ?_
                rintro e w5 ⟨rfl, b5⟩
                have B5 := bstep (bstep hb2 B4) b5
                clear hIH
              · go_wp2
                go_roundw
                case rel => exact ⟨h + 1, by go_num, by omega, fun j hj => by
                  by_cases e : j = h
                  · subst e; exact HT.out
                  · exact HZ.out j (by omega), B5⟩
                case measure => simp [intOf]; omega
              · go_wp2
                go_ret
                exact ⟨ret_bool (splitG_hit hl1 hl2 HT.out).symm, B5⟩
      · have HN := Lib.hid (splitG_none hlt HZ.out)
        by_cases hq : h ≤ used
        · have hd1 : decide ((h : Int) ≤ (used : Int)) = true := decide_eq_true (by omega)
          have hd2 : decide ((h : Int) < (most : Int)) = false := decide_eq_false (by omega)
          go_wp2
          go_ret
          exact ⟨ret_bool HN.out.symm, hb⟩
        · have hd1 : decide ((h : Int) ≤ (used : Int)) = false := decide_eq_false (by omega)
          go_wp2
          go_ret
          exact ⟨ret_bool HN.out.symm, hb⟩

set_option maxHeartbeats 1000000 in
theorem c_l03Needed (s r : Int) (ats : List Int) (A : Option Addr) (c : Nat) (w : World) (hA : At1 .i64 w A ats) (hs : 2 ≤ s ∧ s ≤ 96) (hr : 1 ≤ r ∧ r ≤ 20) (hp : PreA s ats ats.length) (hl : ats.length ≤ 14) :
    Calls Try.prog 32 #[.int .i64 s, .int .i64 r, .slice A ats.length c] w fun e w' => e = .returned (.int .i64 (needN (nearK s r ats) ats.length : Int)) ∧ Below w.heap.size w w' := by
  go_enter Try.func32, Try.ntmps32
  go_wp2
  go_loopw [7] (fun mv w' => ∃ m : Nat, mv = .int .i64 (m : Int) ∧ m ≤ ats.length ∧ (∀ j, j < m → splitG (nearK s r ats) j ats.length [] 0 = false) ∧ Below w.heap.size w w') (fun mv _ => ats.length - (intOf mv).toNat)
  case atStart => exact ⟨0, rfl, by omega, fun _ h => absurd h (by omega), Below.refl _ _⟩
  case round =>
    obtain ⟨m, rfl, hm, hz, hb⟩ := hrel
    have HZ := Lib.hid hz
    clear hz
    have hC := fun B => c_l03Split s r ats m hs hr hp hl (by omega) ats.length [] 0 A B c 0 (wr.alloc (.cells #[] 2)) ((hA.below hb).below (balloc (Below.refl _ _) _)) (At1.nil _ _ _) (by simp) (by simp)
    have B1 := balloc hb (.cells #[] 2)
    rcases ht : splitG (nearK s r ats) m ats.length [] 0 with _ | _
    · have hmn := few_lt ht
      have HT := Lib.hid ht
      clear ht
      go_wp2_with fail
      refine (hC _).mono ?_
      rintro e w1 ⟨rfl, b1⟩
      rw [HT.out]
      have B2 := bstep B1 b1
      clear hC
      go_wp2
      go_roundw
      case rel => exact ⟨m + 1, by go_num, by omega, fun j hj => by
        by_cases e : j = m
        · subst e; exact HT.out
        · exact HZ.out j (by omega), B2⟩
      case measure => simp [intOf]; omega
    · have HT := Lib.hid ht
      have HN := Lib.hid (needN_eq (n := ats.length) ⟨ht, HZ.out⟩)
      clear ht
      go_wp2_with fail
      refine (hC _).mono ?_
      rintro e w1 ⟨rfl, b1⟩
      rw [HT.out]
      have B2 := bstep B1 b1
      clear hC
      go_wp2
      go_ret
      exact ⟨ret_int (by rw [HN.out]), B2⟩

theorem c_l03Sized (s r : Int) (w : World) (hbs : -9223372036854775808 ≤ s ∧ s ≤ 9223372036854775807) (hbr : -9223372036854775808 ≤ r ∧ r ≤ 9223372036854775807) :
    Calls Try.prog 30 #[.int .i64 s, .int .i64 r] w fun e w' => e = .returned (.bool (szB s r)) ∧ w = w' := by
  have HS := Lib.hid (show szB s r = (inB s 2 96 && (inB r 1 20 && decide (r ≤ s))) from rfl)
  rcases e1 : inB s 2 96 with _ | _
  · go_enter Try.func30, Try.ntmps30
    go_wp2_with (go_at_call 31; refine (c_l00In _ _ _ _).mono ?_; rintro e w' ⟨rfl, rfl⟩; rw [e1])
    go_ret
    exact ⟨ret_bool (by rw [HS.out, e1]; rfl), rfl⟩
  · rcases e2 : inB r 1 20 with _ | _
    · go_enter Try.func30, Try.ntmps30
      go_wp2_with (go_at_call 31; refine (c_l00In _ _ _ _).mono ?_; rintro e w' ⟨rfl, rfl⟩; first | rw [e1] | rw [e2])
      go_ret
      exact ⟨ret_bool (by rw [HS.out, e1, e2]; rfl), rfl⟩
    · go_enter Try.func30, Try.ntmps30
      go_wp2_with (go_at_call 31; refine (c_l00In _ _ _ _).mono ?_; rintro e w' ⟨rfl, rfl⟩; first | rw [e1] | rw [e2])
      go_ret
      exact ⟨ret_bool (by rw [HS.out, e1, e2]; rfl), rfl⟩

set_option maxHeartbeats 1000000 in
theorem c_specHammersNeeded (s r : Int) (A : Option Addr) (c : Nat) (ats : List Int) (w : World) (hA : At1 .i64 w A ats) (hn : ats.length ≤ 1073741824) (hbs : -9223372036854775808 ≤ s ∧ s ≤ 9223372036854775807) (hbr : -9223372036854775808 ≤ r ∧ r ≤ 9223372036854775807) :
    Calls Try.prog 7 #[.int .i64 s, .int .i64 r, .slice A ats.length c] w fun e w' => e = .returned (.tuple #[.int .i64 (rHN s r ats), .int .i64 (cHN s r ats)]) ∧ Below w.heap.size w w' := by
  rcases hsz : szB s r with _ | _
  · have HR := Lib.hid (HN_no (l := ats) hsz)
    go_enter Try.func7, Try.ntmps7
    go_wp2_with fail
    refine (c_l03Sized s r _ hbs hbr).mono ?_
    rintro e w' ⟨rfl, rfl⟩
    rw [hsz]
    go_wp2
    go_ret2
    exact ⟨by rw [HR.out.1, HR.out.2]; rfl, Below.refl _ _⟩
  · have hsb := szB_bd hsz
    have HSZ := Lib.hid hsz
    clear hsz
    obtain ⟨s1, s2, r1, r2, r3⟩ := hsb
    have hw2 : IntKind.i64.wrap (s - 1) = s - 1 := IntWalk.i64_in _ (by omega)
    go_enter Try.func7, Try.ntmps7
    go_wp2_with fail
    refine (c_l03Sized s r _ hbs hbr).mono ?_
    rintro e w' ⟨rfl, rfl⟩
    rw [HSZ.out]
    go_wp2
    go_loopw [8, 9] (fun lv iv w' => ∃ (i : Nat) (la : Int), iv = .int .i64 (i : Int) ∧ lv = .int .i64 la ∧ i ≤ ats.length ∧ PreA s ats i ∧ (-1 ≤ la ∧ la ≤ s - 1) ∧ (i = 0 → la = -1) ∧ (∀ j (hj : j < ats.length), i = j + 1 → la = ats[j]) ∧ w = w') (fun _ iv _ => ats.length - (intOf iv).toNat)
    case atStart => exact ⟨0, -1, rfl, rfl, by omega, PreA.zero _ _, by omega, fun _ => rfl, fun _ _ h => absurd h (by omega), rfl⟩
    case round =>
      obtain ⟨i, la, rfl, rfl, hi, hpre, hla, hl0, hl1, rfl⟩ := hrel
      have HP := Lib.hid hpre
      have HL0 := Lib.hid hl0
      have HL1 := Lib.hid hl1
      clear hpre hl0 hl1
      by_cases hlt : i < ats.length
      · obtain ⟨b1, off1, hA1, hbl1, hc1⟩ := hA.get (by omega)
        subst hA1
        have x1 := hc1 i hlt
        clear hc1
        obtain ⟨a1, a2⟩ := hla
        have hw1 : IntKind.i64.wrap (la + 1) = la + 1 := IntWalk.i64_in _ (by omega)
        have hdi : decide ((i : Int) < (ats.length : Int)) = true := decide_eq_true (by omega)
        have hi1 : (i : Int) < (ats.length : Int) := by omega
        rcases hin : inB ats[i] (la + 1) (s - 1) with _ | _
        · have hnp : ¬ PreA s ats ats.length := fun H => by
            have h1 := H i hlt hlt
            have h2 := inB_not.1 hin
            apply h2
            rcases Nat.eq_zero_or_pos i with e | e
            · have := HL0.out e; omega
            · have h3 := HL1.out (i - 1) (by omega) (by omega)
              have h4 := h1.2 e
              omega
          have HR := Lib.hid (HN_bad (l := ats) HSZ.out hnp)
          have HIN := Lib.hid hin
          clear hnp hin
          go_wp2_with fail
          refine (c_l00In _ _ _ _).mono ?_
          rintro e w' ⟨rfl, rfl⟩
          rw [HIN.out]
          go_wp2
          go_ret2
          exact ⟨by rw [HR.out.1, HR.out.2]; rfl, Below.refl _ _⟩
        · have hb := inB_iff.1 hin
          have HIN := Lib.hid hin
          clear hin
          go_wp2_with fail
          refine (c_l00In _ _ _ _).mono ?_
          rintro e w' ⟨rfl, rfl⟩
          rw [HIN.out]
          go_wp2
          go_roundw
          case rel =>
            refine ⟨i + 1, ats[i], by go_num, rfl, by omega, HP.out.succ hlt ⟨by omega, by omega⟩ (fun h0 => ?_), by omega, fun h => absurd h (by omega), fun j hj e => ?_, by first | rfl | trivial⟩
            · have := HL1.out (i - 1) (by omega) (by omega); omega
            · obtain rfl : j = i := by omega
              rfl
          case measure => simp [intOf]; omega
      · obtain rfl : i = ats.length := by omega
        have hdi : decide ((ats.length : Int) < (ats.length : Int)) = false := decide_eq_false (by omega)
        by_cases h14 : ats.length ≤ 14
        · have hdl : decide (14 < (ats.length : Int)) = false := decide_eq_false (by omega)
          have HR := Lib.hid (HN_ok HSZ.out HP.out h14)
          go_wp2_with fail
          refine (c_l03Needed s r ats A c _ hA ⟨s1, s2⟩ ⟨r1, r2⟩ HP.out h14).mono ?_
          rintro e w1 ⟨rfl, b1⟩
          go_wp2
          go_ret2
          exact ⟨by rw [HR.out.1, HR.out.2]; rfl, b1⟩
        · have hdl : decide (14 < (ats.length : Int)) = true := decide_eq_true (by omega)
          have HR := Lib.hid (HN_many HSZ.out HP.out h14)
          go_wp2
          go_ret2
          exact ⟨by rw [HR.out.1, HR.out.2]; rfl, Below.refl _ _⟩

theorem At1.of_own {k : IntKind} {E : TypeId} {w : World} {base n c : Nat} {A : Option Addr} {l : List Int} (h : Own1 k E w base (.slice A n c) l) : At1 k w A l := h.at_
def FitW (b3 b4 b5 b7 b8 : Nat) (s r : Int) (A : Option Addr) (c : Nat) (ats : List Int) (w : World) : Prop :=
  w.cell? ⟨b3, 0, none⟩ = some (.int .i64 s) ∧ w.cell? ⟨b4, 0, none⟩ = some (.int .i64 r) ∧ w.cell? ⟨b5, 0, none⟩ = some (.slice A ats.length c) ∧ w.cell? ⟨b7, 0, none⟩ = some (.func (.func 59) #[] #[.pointer (some ⟨b3, 0, none⟩), .pointer (some ⟨b4, 0, none⟩)]) ∧ w.cell? ⟨b8, 0, none⟩ = some (.func (.func 60) #[] #[.pointer (some ⟨b5, 0, none⟩), .pointer (some ⟨b7, 0, none⟩), .pointer (some ⟨b8, 0, none⟩)]) ∧ At1 .i64 w A ats
theorem FitW.below {b3 b4 b5 b7 b8 : Nat} {s r : Int} {A : Option Addr} {c : Nat} {ats : List Int} {u v : World} (h : FitW b3 b4 b5 b7 b8 s r A c ats u) (hb : Below u.heap.size u v) : FitW b3 b4 b5 b7 b8 s r A c ats v :=
  ⟨keepc h.1 hb, keepc h.2.1 hb, keepc h.2.2.1 hb, keepc h.2.2.2.1 hb, keepc h.2.2.2.2.1 hb, h.2.2.2.2.2.below hb⟩
theorem c_CloneI (A : Option Addr) (c : Nat) (l : List Int) (w : World) (h : At1 .i64 w A l) (hn : l.length ≤ 1073741824) :
    Calls Try.prog 61 #[.slice A l.length c] w fun e w' => ∃ A' c', e = .returned (.slice A' l.length c') ∧ Own1 .i64 2 w' w.heap.size (.slice A' l.length c') l ∧ Below w.heap.size w w' := by
  cases A with
  | none =>
    have hl : l = [] := by
      cases l with
      | nil => rfl
      | cons p l => obtain ⟨g, off, h1, _⟩ := h (by simp); cases h1
    subst hl
    have hq : ∀ w, (Go.binOp .eql 22 (.slice none 0 c) (.slice none 0 0)).run Try.prog w = .ok (.bool true) w := fun w => Go.run_eql_slice_nil w _ _ none 0 c Try.underlying22
    go_enter Try.func61, Try.ntmps61
    go_wp2
    go_ret
    exact ⟨none, 0, rfl, World.ownsRow_nil _ _ _ _, Below.refl _ _⟩
  | some ad =>
    have hAt := At1.below h (Below.refl _ w |>.alloc (Nat.le_refl _) (.cells #[] 2))
    have hown2 := Own1.lit0 (k := .i64) (E := 2) (w := w) (base := w.heap.size) (Nat.le_refl _)
    have B3 := balloc (Below.refl _ w) (.cells #[] 2)
    have hbs := B3.size
    have hn2 : ([] : List Int).length + l.length ≤ 1073741824 := by simpa using hn
    have hq : ∀ w, (Go.binOp .eql 22 (.slice (some ad) l.length c) (.slice none 0 0)).run Try.prog w = .ok (.bool false) w := fun w => Go.run_eql_slice_nil w _ _ (some ad) _ _ Try.underlying22
    clear h
    go_enter Try.func61, Try.ntmps61
    go_wp2_with (at_builtin; refine append_ints (by rfl) (.tmp 5) (.tmp 6) 22 rfl 2 .i64 8 Try.underlying22 info_i64N (by decide) w.heap.size _ [] rfl hown2 _ _ l rfl hAt hn2 hbs ?_; intro A3 c3 w3 ho3 hg3)
    go_ret
    exact ⟨A3, c3, rfl, ho3, bgrown B3 hg3 (fun j hj => hown2.low hj)⟩

theorem c_near (b3 b4 : Nat) (a b s r : Int) (w : World) (h3 : w.cell? ⟨b3, 0, none⟩ = some (.int .i64 s)) (h4 : w.cell? ⟨b4, 0, none⟩ = some (.int .i64 r)) (hs : 2 ≤ s ∧ s ≤ 96) (ha : 0 ≤ a ∧ a ≤ s - 1) (hb : 0 ≤ b ∧ b ≤ s - 1) :
    Calls Try.prog 59 #[.int .i64 a, .int .i64 b, .pointer (some ⟨b3, 0, none⟩), .pointer (some ⟨b4, 0, none⟩)] w fun e w' => e = .returned (.bool (nearI s r a b)) ∧ Below w.heap.size w w' := by
  obtain ⟨s1, s2⟩ := hs
  have h1 : IntKind.i64.wrap (b - a) = b - a := IntWalk.i64_in _ (by omega)
  have h2 : IntKind.i64.wrap (b - a + s) = b - a + s := IntWalk.i64_in _ (by omega)
  have h3' : IntKind.i64.wrap (a - b) = a - b := IntWalk.i64_in _ (by omega)
  have h4' : IntKind.i64.wrap (a - b + s) = a - b + s := IntWalk.i64_in _ (by omega)
  have hs0 : ¬ s = 0 := by omega
  have x1 : ∀ x : After w, x.w.cell? ⟨b3, 0, none⟩ = some (.int .i64 s) := fun x => keepc h3 x.below
  have x2 : ∀ x : After w, x.w.cell? ⟨b4, 0, none⟩ = some (.int .i64 r) := fun x => keepc h4 x.below
  obtain ⟨p, hp⟩ : ∃ p, (b - a + s) % s = p := ⟨_, rfl⟩
  obtain ⟨q, hq⟩ : ∃ q, (a - b + s) % s = q := ⟨_, rfl⟩
  have p1 : 0 ≤ p := by rw [← hp]; exact Int.emod_nonneg _ hs0
  have p2 : p < s := by rw [← hp]; exact Int.emod_lt_of_pos _ (by omega)
  have q1 : 0 ≤ q := by rw [← hq]; exact Int.emod_nonneg _ hs0
  have q2 : q < s := by rw [← hq]; exact Int.emod_lt_of_pos _ (by omega)
  have t1 : Int.tmod (b - a + s) s = p := by rw [tmodN (by omega), hp]
  have t2 : Int.tmod (a - b + s) s = q := by rw [tmodN (by omega), hq]
  have h5 : IntKind.i64.wrap p = p := IntWalk.i64_in _ (by omega)
  have h6 : IntKind.i64.wrap q = q := IntWalk.i64_in _ (by omega)
  have HN := Lib.hid (show nearI s r a b = (decide (p < r) || decide (q < r)) by unfold nearI; rw [hp, hq])
  clear hp hq h3 h4
  rcases e1 : decide (p < r) with _ | _
  · rcases e2 : decide (q < r) with _ | _
    all_goals
      go_enter Try.func59, Try.ntmps59
      go_wp2
      refine region_after (by kernel_rfl) (by kernel_rfl) ?_
      repeat (go_big_quiet_step (fail))
      refine wpQuiet_nil ?_
      rintro _ ⟨x, rfl⟩
      go_wp2
      go_ret
      exact ⟨ret_bool (by rw [HN.out, e1, e2]; rfl), x.below⟩
  · go_enter Try.func59, Try.ntmps59
    go_wp2
    refine region_after (by kernel_rfl) (by kernel_rfl) ?_
    repeat (go_big_quiet_step (fail))
    refine wpQuiet_nil ?_
    rintro _ ⟨x, rfl⟩
    go_wp2
    go_ret
    exact ⟨ret_bool (by rw [HN.out, e1]; rfl), x.below⟩

set_option maxHeartbeats 4000000 in
theorem c_fits (b3 b4 b5 b7 b8 : Nat) (s r : Int) (ats : List Int) (A : Option Addr) (c most : Nat) (hs : 2 ≤ s ∧ s ≤ 96) (hp : PreA s ats ats.length) (hl : ats.length ≤ 14) (hm : most ≤ 14) :
    ∀ (f : Nat) (given : List Int) (used : Nat) (B : Option Addr) (d : Nat) (w : World), FitW b3 b4 b5 b7 b8 s r A c ats w → At1 .i64 w B given → given.length + f = ats.length → used ≤ given.length →
    Calls Try.prog 60 #[.slice B given.length d, .int .i64 (used : Int), .int .i64 (most : Int), .pointer (some ⟨b5, 0, none⟩), .pointer (some ⟨b7, 0, none⟩), .pointer (some ⟨b8, 0, none⟩)] w fun e w' => e = .returned (.bool (splitG (nearK s r ats) most f given used)) ∧ Below w.heap.size w w' := by
  intro f
  induction f with
  | zero =>
    intro given used B d w hFW hB hlen hus
    have f1 := hFW.2.2.1
    have hlb : ((given.length : Int) == (ats.length : Int)) = true := by simp; omega
    go_enter Try.func60, Try.ntmps60
    go_wp2
    go_ret
    exact ⟨rfl, Below.refl _ _⟩
  | succ f ih =>
    intro given used B d w hFW hB hlen hus
    have HIH := Lib.hid ih
    clear ih
    have hlb : ((given.length : Int) == (ats.length : Int)) = false := by simp; omega
    have hgl : given.length < ats.length := by omega
    obtain ⟨M, hM⟩ : ∃ M, min (used + 1) most = M := ⟨_, rfl⟩
    have hwu : IntKind.i64.wrap ((used : Int) + 1) = (used : Int) + 1 := IntWalk.i64_in _ (by omega)
    have f1 := hFW.2.2.1
    have hstart : (if (most : Int) < (used : Int) + 1 then (most : Int) else (used : Int) + 1) = (M : Int) := by split <;> omega
    go_enter Try.func60, Try.ntmps60
    go_wp2
    clear hlb f1 hstart
    go_loopw [25] (fun hv w' => ∃ h : Nat, hv = .int .i64 (h : Int) ∧ h ≤ M ∧ (∀ j, j < h → tryB (nearK s r ats) most f given used j = false) ∧ Below w.heap.size w w') (fun hv _ => 20 - (intOf hv).toNat)
    case atStart => exact ⟨0, rfl, by omega, fun _ h => absurd h (by omega), Below.refl _ _⟩
    case round =>
      obtain ⟨h, rfl, hh, hz, hb⟩ := hrel
      have HZ := Lib.hid hz
      clear hz
      by_cases hlt : h < M
      · have hl1 : h < used + 1 := by omega
        have hl2 : h < most := by omega
        have hd2 : decide ((h : Int) < (M : Int)) = true := decide_eq_true (by omega)
        have hw1 : IntKind.i64.wrap ((h : Int) + 1) = (h : Int) + 1 := IntWalk.i64_in _ (by omega)
        go_wp2
        go_loopw [12, 30] (fun fv kv w' => ∃ k : Nat, kv = .int .i64 (k : Int) ∧ fv = .bool (!fitB (nearK s r ats) given (h : Int) k) ∧ k ≤ given.length ∧ Below w.heap.size w w') (fun _ kv _ => given.length - (intOf kv).toNat)
        case atStart => exact ⟨0, rfl, rfl, by omega, hb⟩
        case round =>
          obtain ⟨k, rfl, rfl, hk, hb2⟩ := hrel
          by_cases hkl : k < given.length
          · have hkl2 : k < ats.length := by omega
            have hd3 : decide ((k : Int) < (given.length : Int)) = true := decide_eq_true (by omega)
            have hF2 := hFW.below hb2
            obtain ⟨b1, off1, hA1, hbl1, hc1⟩ := hF2.2.2.2.2.2.get (by omega)
            obtain ⟨b2, off2, hB1, hbl2, hc2⟩ := (hB.below hb2).get (by omega)
            subst hA1
            subst hB1
            have x0 := hc2 k hkl
            have x1 : ∀ x : After wr, _ := fun x => (x.cell hbl1).trans (hc1 k hkl2)
            have x2 : ∀ x : After wr, _ := fun x => (x.cell hbl1).trans (hc1 given.length hgl)
            have x4 : ∀ x : After wr, _ := fun x => keepc hF2.2.2.1 x.below
            have x5 : ∀ x : After wr, _ := fun x => keepc hF2.2.2.2.1 x.below
            have y3 : ∀ x : After wr, _ := fun x => keepc hF2.1 x.below
            have y4 : ∀ x : After wr, _ := fun x => keepc hF2.2.1 x.below
            have Y3 := Lib.hid y3
            have Y4 := Lib.hid y4
            have hFX := Lib.hid hF2
            clear hc1 hc2 y3 y4 hF2
            have hki : (k : Int) < (ats.length : Int) := by omega
            have hki3 : (k : Int) < (given.length : Int) := by omega
            have hgi : (given.length : Int) < (ats.length : Int) := by omega
            have hk0 : (0 : Int) ≤ (k : Int) := by omega
            have hg0 : (0 : Int) ≤ (given.length : Int) := by omega
            have hna := nearK_at (s := s) (r := r) hkl2 hgl
            have ha1 := hp.get hkl2
            have ha2 := hp.get hgl
            have hsucc := fitB_succ (nearK s r ats) given (h : Int) k
            rw [show given.getD k 0 = given[k] by simp [List.getD, hkl], hna] at hsucc
            rcases hf : fitB (nearK s r ats) given (h : Int) k with _ | _
            · rw [hf, Bool.false_and] at hsucc
              rw [Bool.not_false]
              have HS := Lib.hid hsucc
              clear hsucc hna hf
              go_wp2
              refine region_after (by kernel_rfl) (by kernel_rfl) ?_
              repeat (go_big_quiet_step (fail))
              refine wpQuiet_nil ?_
              rintro _ ⟨x, rfl⟩
              go_wp2
              go_roundw
              case rel => exact ⟨k + 1, by go_num, by rw [HS.out]; rfl, by omega, bstep hb2 x.below⟩
              case measure => simp [intOf]; omega
            · rw [hf, Bool.true_and] at hsucc
              rw [Bool.not_true]
              rcases hg : (given[k] == (h : Int)) with _ | _
              · rw [hg, Bool.false_and] at hsucc
                have HS := Lib.hid hsucc
                clear hsucc hna hf
                go_wp2
                refine region_after (by kernel_rfl) (by kernel_rfl) ?_
                repeat (go_big_quiet_step (fail))
                refine wpQuiet_nil ?_
                rintro _ ⟨x, rfl⟩
                go_wp2
                go_roundw
                case rel => exact ⟨k + 1, by go_num, by rw [HS.out]; rfl, by omega, bstep hb2 x.below⟩
                case measure => simp [intOf]; omega
              · rw [hg, Bool.true_and] at hsucc
                have HS := Lib.hid hsucc
                clear hsucc hna hf
                have HNR := Lib.hid (fun x : After wr => c_near b3 b4 ats[k] ats[given.length] s r x.w (Y3.out x) (Y4.out x) hs ha1 ha2)
                go_wp2
                refine region_after (by kernel_rfl) (by kernel_rfl) ?_
                repeat (go_big_quiet_step (((go_at_call 59; exact After.call (HNR.out _)))))
                refine wpQuiet_nil ?_
                rintro _ ⟨x, rfl⟩
                go_wp2
                go_roundw
                case rel => exact ⟨k + 1, by go_num, by rw [HS.out, Bool.not_not], by omega, bstep hb2 x.below⟩
                case measure => simp [intOf]; omega
          · obtain rfl : k = given.length := by omega
            have hd3 : decide ((given.length : Int) < (given.length : Int)) = false := decide_eq_false (by omega)
            rcases hf : fitB (nearK s r ats) given (h : Int) given.length with _ | _
            · have HT := Lib.hid (show tryB (nearK s r ats) most f given used h = false from (by unfold tryB; rw [hf, Bool.false_and]))
              rw [Bool.not_false]
              clear hf
              go_wp2
              refine region_after (by kernel_rfl) (by kernel_rfl) ?_
              repeat (go_big_quiet_step (fail))
              refine wpQuiet_nil ?_
              rintro _ ⟨x, rfl⟩
              go_wp2
              go_roundw
              case rel => exact ⟨h + 1, by go_num, by omega, fun j hj => by
                by_cases e : j = h
                · subst e; exact HT.out
                · exact HZ.out j (by omega), bstep hb2 x.below⟩
              case measure => simp [intOf]; omega
            · have hmax : max used (h + 1) ≤ given.length + 1 := by omega
              rw [Bool.not_true]
              have HF := Lib.hid hf
              clear hf
              have hmx2 : (if (used : Int) < (h : Int) + 1 then (h : Int) + 1 else (used : Int)) = ((max used (h + 1) : Nat) : Int) := by split <;> omega
              have hz1 : given.length + [(h : Int)].length ≤ 1073741824 := by simp; omega
              rcases ht : splitG (nearK s r ats) most f (given ++ [(h : Int)]) (max used (h + 1)) with _ | _
              · have HT := Lib.hid (show tryB (nearK s r ats) most f given used h = false from (by unfold tryB; rw [HF.out, Bool.true_and, ht]))
                have HH := Lib.hid ht
                clear ht
                have HFW := Lib.hid (hFW.below hb2)
                go_upto_region 13 with fail
                refine wp_region_held_drew (S := Below wr.heap.size wr) (by kernel_rfl) (bdrew (Below.refl _ _)) (fun hHeld => ?_)
                refine takeL (i := 0) (v := .bool false) rfl (by kernel_rfl) (by kernel_rfl) (by kernel_rfl) (fun _ _ _ h => h) (Or.inl ⟨by rfl, by intro w' hS; clear hS; go_simp⟩) hHeld ?_
                simp only [Act.put, List.setIfInBounds_toArray, List.set_cons_zero, List.set_cons_succ]
                refine takeL (i := 1) (v := .bool true) rfl (by kernel_rfl) (by kernel_rfl) (by kernel_rfl) (fun _ _ _ h => h) (Or.inl ⟨by rfl, by intro w' hS; clear hS; go_simp⟩) hHeld ?_
                simp only [Act.put, List.setIfInBounds_toArray, List.set_cons_zero, List.set_cons_succ]
                refine takeL (i := 2) (v := .bool true) rfl (by kernel_rfl) (by kernel_rfl) (by kernel_rfl) (fun _ _ _ h => h) (Or.inl ⟨by rfl, by intro w' hS; clear hS; go_simp⟩) hHeld ?_
                simp only [Act.put, List.setIfInBounds_toArray, List.set_cons_zero, List.set_cons_succ]
                refine takeL (i := 3) (v := .func (.func 60) #[] #[.pointer (some ⟨b5, 0, none⟩), .pointer (some ⟨b7, 0, none⟩), .pointer (some ⟨b8, 0, none⟩)]) rfl (by kernel_rfl) (by kernel_rfl) (by kernel_rfl) (fun _ _ _ h => h) (Or.inl ⟨by rfl, by intro w' hS; have y1 := (HFW.out.below hS).2.2.2.2.1; clear hS; go_simp⟩) hHeld ?_
                simp only [Act.put, List.setIfInBounds_toArray, List.set_cons_zero, List.set_cons_succ]
                refine takeL (i := 4) (v := .slice B given.length d) rfl (by kernel_rfl) (by kernel_rfl) (by kernel_rfl) (fun _ _ _ h => h) (Or.inl ⟨by rfl, by intro w' hS; clear hS; go_simp⟩) hHeld ?_
                simp only [Act.put, List.setIfInBounds_toArray, List.set_cons_zero, List.set_cons_succ]
                refine takeL (i := 6) (v := .int .i64 (h : Int)) rfl (by kernel_rfl) (by kernel_rfl) (by kernel_rfl) (fun _ _ _ h => h) (Or.inl ⟨by rfl, by intro w' hS; clear hS; go_simp⟩) hHeld ?_
                simp only [Act.put, List.setIfInBounds_toArray, List.set_cons_zero, List.set_cons_succ]
                refine takeL (i := 9) (v := .int .i64 (used : Int)) rfl (by kernel_rfl) (by kernel_rfl) (by kernel_rfl) (fun _ _ _ h => h) (Or.inl ⟨by rfl, by intro w' hS; clear hS; go_simp⟩) hHeld ?_
                simp only [Act.put, List.setIfInBounds_toArray, List.set_cons_zero, List.set_cons_succ]
                refine takeL (i := 10) (v := .int .i64 (h : Int)) rfl (by kernel_rfl) (by kernel_rfl) (by kernel_rfl) (fun _ _ _ h => h) (Or.inl ⟨by rfl, by intro w' hS; clear hS; go_simp⟩) hHeld ?_
                simp only [Act.put, List.setIfInBounds_toArray, List.set_cons_zero, List.set_cons_succ]
                refine takeL (i := 11) (v := .int .i64 ((h : Int) + 1)) rfl (by kernel_rfl) (by kernel_rfl) (by kernel_rfl) (fun _ _ _ h => h) (Or.inl ⟨by rfl, by intro w' hS; clear hS; go_simp⟩) hHeld ?_
                simp only [Act.put, List.setIfInBounds_toArray, List.set_cons_zero, List.set_cons_succ]
                refine takeL (i := 12) (v := .int .i64 ((max used (h + 1) : Nat) : Int)) rfl (by kernel_rfl) (by kernel_rfl) (by kernel_rfl) (fun _ _ _ h => h) (Or.inl ⟨by rfl, by intro w' hS; clear hS; go_simp⟩) hHeld ?_
                simp only [Act.put, List.setIfInBounds_toArray, List.set_cons_zero, List.set_cons_succ]
                refine takeL (i := 13) (v := .int .i64 (most : Int)) rfl (by kernel_rfl) (by kernel_rfl) (by kernel_rfl) (fun _ _ _ h => h) (Or.inl ⟨by rfl, by intro w' hS; clear hS; go_simp⟩) hHeld ?_
                simp only [Act.put, List.setIfInBounds_toArray, List.set_cons_zero, List.set_cons_succ]
                have hBQ := Lib.hid (hB.below hb2)
                refine wpAnyH_ready (rs := [5, 7]) (by kernel_rfl) (by simp) ?_
                refine readyL rfl (fun K hK => ?_) (readyL rfl (fun K hK => ?_) AllReadyH.nil)
                · go_simp
                  refine (c_CloneI B d given _ (hBQ.out.below hHeld) (by omega)).mono ?_
                  rintro e w1 ⟨A1, c1, rfl, o1, b1⟩
                  have O1 := Lib.hid ((o1.base_le hHeld.size).alloc (.cells #[.int .i64 (h : Int)] 2))
                  clear o1
                  go_wp2_with fail
                  refine hK.out _ _ (bstep hHeld b1) (fun hHeld => ?_)
                  clear hK K
                  try simp only [Act.put, List.setIfInBounds_toArray, List.set_cons_zero, List.set_cons_succ]
                  refine wpAnyH_ready (rs := [7]) (by kernel_rfl) (by simp) ?_
                  refine readyL rfl (fun K hK => ?_) AllReadyH.nil
                  go_simp
                  have hOld := hHeld
                  refine hK.out _ _ (balloc hHeld (.cells #[.int .i64 (h : Int)] 2)) (fun hHeld => ?_)
                  clear hK K
                  try simp only [Act.put, List.setIfInBounds_toArray, List.set_cons_zero, List.set_cons_succ]
                  clear hOld
                  refine wpAnyH_ready (rs := [8]) (by kernel_rfl) (by simp) ?_
                  refine readyL rfl (fun K hK => ?_) AllReadyH.nil
                  rw [if_pos (by rfl)]
                  refine append_intsW (.tmp 59) (.tmp 61) 22 rfl 2 .i64 8 Try.underlying22 info_i64N (by decide) wr.heap.size _ _ rfl O1.out _ _ [(h : Int)] rfl (At1.one _ _ _) hz1 hHeld.size ?_
                  intro A4 c4 w4 ho4 hg4
                  have HO4 := Lib.hid ho4
                  have B4 := bgrown hHeld hg4 (fun j hj => O1.out.low hj)
                  clear ho4
                  refine hK.out _ _ (B4) (fun hHeld => ?_)
                  clear hK K
                  try simp only [Act.put, List.setIfInBounds_toArray, List.set_cons_zero, List.set_cons_succ]
                  refine wpAnyH_ready (rs := [14]) (by kernel_rfl) (by simp) ?_
                  refine readyL rfl (fun K hK => ?_) AllReadyH.nil
                  rw [List.length_append] at HO4
                  have hIH := HIH.out (given ++ [(h : Int)]) (max used (h + 1)) A4 c4 w4 (HFW.out.below hHeld) (At1.of_own HO4.out) (by rw [List.length_append]; simp; omega) (by rw [List.length_append]; simp; omega)
                  rw [HH.out, List.length_append] at hIH
                  go_simp
                  refine hIH.mono ?_
                  rintro e w5 ⟨rfl, b5⟩
                  have B5 := bstep hHeld b5
                  go_wp2_with fail
                  refine hK.out _ _ (B5) (fun hHeld => ?_)
                  clear hK K
                  try simp only [Act.put, List.setIfInBounds_toArray, List.set_cons_zero, List.set_cons_succ]
                  refine takeL (i := 15) (v := .bool false) rfl (by kernel_rfl) (by kernel_rfl) (by kernel_rfl) (fun _ _ _ h => h) (Or.inl ⟨by rfl, by intro w' hS; clear hS; go_simp⟩) hHeld ?_
                  simp only [Act.put, List.setIfInBounds_toArray, List.set_cons_zero, List.set_cons_succ]
                  refine wpAnyH_done (by kernel_rfl) ?_ _
                  have B6 := bstep hb2 hHeld
                  clear hHeld hIH
                  go_wp2
                  go_roundw
                  case rel => exact ⟨h + 1, by go_num, by omega, fun j hj => by
                    by_cases e : j = h
                    · subst e; exact HT.out
                    · exact HZ.out j (by omega), B6⟩
                  case measure => simp [intOf]; omega
                · go_simp
                  have hOld := hHeld
                  refine hK.out _ _ (balloc hHeld (.cells #[.int .i64 (h : Int)] 2)) (fun hHeld => ?_)
                  clear hK K
                  try simp only [Act.put, List.setIfInBounds_toArray, List.set_cons_zero, List.set_cons_succ]
                  clear hOld
                  have hOne := Lib.hid (At1.one (k := .i64) wr.drew (h : Int) 2)
                  refine wpAnyH_ready (rs := [5]) (by kernel_rfl) (by simp) ?_
                  refine readyL rfl (fun K hK => ?_) AllReadyH.nil
                  go_simp
                  refine (c_CloneI B d given _ (hBQ.out.below hHeld) (by omega)).mono ?_
                  rintro e w1 ⟨A1, c1, rfl, o1, b1⟩
                  have O1 := Lib.hid (o1.base_le hHeld.size)
                  have hOne2 := Lib.hid (hOne.out.below b1)
                  clear o1
                  go_wp2_with fail
                  refine hK.out _ _ (bstep hHeld b1) (fun hHeld => ?_)
                  clear hK K
                  try simp only [Act.put, List.setIfInBounds_toArray, List.set_cons_zero, List.set_cons_succ]
                  refine wpAnyH_ready (rs := [8]) (by kernel_rfl) (by simp) ?_
                  refine readyL rfl (fun K hK => ?_) AllReadyH.nil
                  rw [if_pos (by rfl)]
                  refine append_intsW (.tmp 59) (.tmp 61) 22 rfl 2 .i64 8 Try.underlying22 info_i64N (by decide) wr.heap.size _ _ rfl O1.out _ _ [(h : Int)] rfl hOne2.out hz1 hHeld.size ?_
                  intro A4 c4 w4 ho4 hg4
                  have HO4 := Lib.hid ho4
                  have B4 := bgrown hHeld hg4 (fun j hj => O1.out.low hj)
                  clear ho4
                  refine hK.out _ _ (B4) (fun hHeld => ?_)
                  clear hK K
                  try simp only [Act.put, List.setIfInBounds_toArray, List.set_cons_zero, List.set_cons_succ]
                  refine wpAnyH_ready (rs := [14]) (by kernel_rfl) (by simp) ?_
                  refine readyL rfl (fun K hK => ?_) AllReadyH.nil
                  rw [List.length_append] at HO4
                  have hIH := HIH.out (given ++ [(h : Int)]) (max used (h + 1)) A4 c4 w4 (HFW.out.below hHeld) (At1.of_own HO4.out) (by rw [List.length_append]; simp; omega) (by rw [List.length_append]; simp; omega)
                  rw [HH.out, List.length_append] at hIH
                  go_simp
                  refine hIH.mono ?_
                  rintro e w5 ⟨rfl, b5⟩
                  have B5 := bstep hHeld b5
                  go_wp2_with fail
                  refine hK.out _ _ (B5) (fun hHeld => ?_)
                  clear hK K
                  try simp only [Act.put, List.setIfInBounds_toArray, List.set_cons_zero, List.set_cons_succ]
                  refine takeL (i := 15) (v := .bool false) rfl (by kernel_rfl) (by kernel_rfl) (by kernel_rfl) (fun _ _ _ h => h) (Or.inl ⟨by rfl, by intro w' hS; clear hS; go_simp⟩) hHeld ?_
                  simp only [Act.put, List.setIfInBounds_toArray, List.set_cons_zero, List.set_cons_succ]
                  refine wpAnyH_done (by kernel_rfl) ?_ _
                  have B6 := bstep hb2 hHeld
                  clear hHeld hIH
                  go_wp2
                  go_roundw
                  case rel => exact ⟨h + 1, by go_num, by omega, fun j hj => by
                    by_cases e : j = h
                    · subst e; exact HT.out
                    · exact HZ.out j (by omega), B6⟩
                  case measure => simp [intOf]; omega

              · have HT := Lib.hid (show tryB (nearK s r ats) most f given used h = true from (by unfold tryB; rw [HF.out, Bool.true_and, ht]))
                have HH := Lib.hid ht
                clear ht
                have HFW := Lib.hid (hFW.below hb2)
                go_upto_region 13 with fail
                refine wp_region_held_drew (S := Below wr.heap.size wr) (by kernel_rfl) (bdrew (Below.refl _ _)) (fun hHeld => ?_)
                refine takeL (i := 0) (v := .bool false) rfl (by kernel_rfl) (by kernel_rfl) (by kernel_rfl) (fun _ _ _ h => h) (Or.inl ⟨by rfl, by intro w' hS; clear hS; go_simp⟩) hHeld ?_
                simp only [Act.put, List.setIfInBounds_toArray, List.set_cons_zero, List.set_cons_succ]
                refine takeL (i := 1) (v := .bool true) rfl (by kernel_rfl) (by kernel_rfl) (by kernel_rfl) (fun _ _ _ h => h) (Or.inl ⟨by rfl, by intro w' hS; clear hS; go_simp⟩) hHeld ?_
                simp only [Act.put, List.setIfInBounds_toArray, List.set_cons_zero, List.set_cons_succ]
                refine takeL (i := 2) (v := .bool true) rfl (by kernel_rfl) (by kernel_rfl) (by kernel_rfl) (fun _ _ _ h => h) (Or.inl ⟨by rfl, by intro w' hS; clear hS; go_simp⟩) hHeld ?_
                simp only [Act.put, List.setIfInBounds_toArray, List.set_cons_zero, List.set_cons_succ]
                refine takeL (i := 3) (v := .func (.func 60) #[] #[.pointer (some ⟨b5, 0, none⟩), .pointer (some ⟨b7, 0, none⟩), .pointer (some ⟨b8, 0, none⟩)]) rfl (by kernel_rfl) (by kernel_rfl) (by kernel_rfl) (fun _ _ _ h => h) (Or.inl ⟨by rfl, by intro w' hS; have y1 := (HFW.out.below hS).2.2.2.2.1; clear hS; go_simp⟩) hHeld ?_
                simp only [Act.put, List.setIfInBounds_toArray, List.set_cons_zero, List.set_cons_succ]
                refine takeL (i := 4) (v := .slice B given.length d) rfl (by kernel_rfl) (by kernel_rfl) (by kernel_rfl) (fun _ _ _ h => h) (Or.inl ⟨by rfl, by intro w' hS; clear hS; go_simp⟩) hHeld ?_
                simp only [Act.put, List.setIfInBounds_toArray, List.set_cons_zero, List.set_cons_succ]
                refine takeL (i := 6) (v := .int .i64 (h : Int)) rfl (by kernel_rfl) (by kernel_rfl) (by kernel_rfl) (fun _ _ _ h => h) (Or.inl ⟨by rfl, by intro w' hS; clear hS; go_simp⟩) hHeld ?_
                simp only [Act.put, List.setIfInBounds_toArray, List.set_cons_zero, List.set_cons_succ]
                refine takeL (i := 9) (v := .int .i64 (used : Int)) rfl (by kernel_rfl) (by kernel_rfl) (by kernel_rfl) (fun _ _ _ h => h) (Or.inl ⟨by rfl, by intro w' hS; clear hS; go_simp⟩) hHeld ?_
                simp only [Act.put, List.setIfInBounds_toArray, List.set_cons_zero, List.set_cons_succ]
                refine takeL (i := 10) (v := .int .i64 (h : Int)) rfl (by kernel_rfl) (by kernel_rfl) (by kernel_rfl) (fun _ _ _ h => h) (Or.inl ⟨by rfl, by intro w' hS; clear hS; go_simp⟩) hHeld ?_
                simp only [Act.put, List.setIfInBounds_toArray, List.set_cons_zero, List.set_cons_succ]
                refine takeL (i := 11) (v := .int .i64 ((h : Int) + 1)) rfl (by kernel_rfl) (by kernel_rfl) (by kernel_rfl) (fun _ _ _ h => h) (Or.inl ⟨by rfl, by intro w' hS; clear hS; go_simp⟩) hHeld ?_
                simp only [Act.put, List.setIfInBounds_toArray, List.set_cons_zero, List.set_cons_succ]
                refine takeL (i := 12) (v := .int .i64 ((max used (h + 1) : Nat) : Int)) rfl (by kernel_rfl) (by kernel_rfl) (by kernel_rfl) (fun _ _ _ h => h) (Or.inl ⟨by rfl, by intro w' hS; clear hS; go_simp⟩) hHeld ?_
                simp only [Act.put, List.setIfInBounds_toArray, List.set_cons_zero, List.set_cons_succ]
                refine takeL (i := 13) (v := .int .i64 (most : Int)) rfl (by kernel_rfl) (by kernel_rfl) (by kernel_rfl) (fun _ _ _ h => h) (Or.inl ⟨by rfl, by intro w' hS; clear hS; go_simp⟩) hHeld ?_
                simp only [Act.put, List.setIfInBounds_toArray, List.set_cons_zero, List.set_cons_succ]
                have hBQ := Lib.hid (hB.below hb2)
                refine wpAnyH_ready (rs := [5, 7]) (by kernel_rfl) (by simp) ?_
                refine readyL rfl (fun K hK => ?_) (readyL rfl (fun K hK => ?_) AllReadyH.nil)
                · go_simp
                  refine (c_CloneI B d given _ (hBQ.out.below hHeld) (by omega)).mono ?_
                  rintro e w1 ⟨A1, c1, rfl, o1, b1⟩
                  have O1 := Lib.hid ((o1.base_le hHeld.size).alloc (.cells #[.int .i64 (h : Int)] 2))
                  clear o1
                  go_wp2_with fail
                  refine hK.out _ _ (bstep hHeld b1) (fun hHeld => ?_)
                  clear hK K
                  try simp only [Act.put, List.setIfInBounds_toArray, List.set_cons_zero, List.set_cons_succ]
                  refine wpAnyH_ready (rs := [7]) (by kernel_rfl) (by simp) ?_
                  refine readyL rfl (fun K hK => ?_) AllReadyH.nil
                  go_simp
                  have hOld := hHeld
                  refine hK.out _ _ (balloc hHeld (.cells #[.int .i64 (h : Int)] 2)) (fun hHeld => ?_)
                  clear hK K
                  try simp only [Act.put, List.setIfInBounds_toArray, List.set_cons_zero, List.set_cons_succ]
                  clear hOld
                  refine wpAnyH_ready (rs := [8]) (by kernel_rfl) (by simp) ?_
                  refine readyL rfl (fun K hK => ?_) AllReadyH.nil
                  rw [if_pos (by rfl)]
                  refine append_intsW (.tmp 59) (.tmp 61) 22 rfl 2 .i64 8 Try.underlying22 info_i64N (by decide) wr.heap.size _ _ rfl O1.out _ _ [(h : Int)] rfl (At1.one _ _ _) hz1 hHeld.size ?_
                  intro A4 c4 w4 ho4 hg4
                  have HO4 := Lib.hid ho4
                  have B4 := bgrown hHeld hg4 (fun j hj => O1.out.low hj)
                  clear ho4
                  refine hK.out _ _ (B4) (fun hHeld => ?_)
                  clear hK K
                  try simp only [Act.put, List.setIfInBounds_toArray, List.set_cons_zero, List.set_cons_succ]
                  refine wpAnyH_ready (rs := [14]) (by kernel_rfl) (by simp) ?_
                  refine readyL rfl (fun K hK => ?_) AllReadyH.nil
                  rw [List.length_append] at HO4
                  have hIH := HIH.out (given ++ [(h : Int)]) (max used (h + 1)) A4 c4 w4 (HFW.out.below hHeld) (At1.of_own HO4.out) (by rw [List.length_append]; simp; omega) (by rw [List.length_append]; simp; omega)
                  rw [HH.out, List.length_append] at hIH
                  go_simp
                  refine hIH.mono ?_
                  rintro e w5 ⟨rfl, b5⟩
                  have B5 := bstep hHeld b5
                  go_wp2_with fail
                  refine hK.out _ _ (B5) (fun hHeld => ?_)
                  clear hK K
                  try simp only [Act.put, List.setIfInBounds_toArray, List.set_cons_zero, List.set_cons_succ]
                  refine takeL (i := 15) (v := .bool true) rfl (by kernel_rfl) (by kernel_rfl) (by kernel_rfl) (fun _ _ _ h => h) (Or.inl ⟨by rfl, by intro w' hS; clear hS; go_simp⟩) hHeld ?_
                  simp only [Act.put, List.setIfInBounds_toArray, List.set_cons_zero, List.set_cons_succ]
                  refine wpAnyH_done (by kernel_rfl) ?_ _
                  have B6 := bstep hb2 hHeld
                  clear hHeld hIH
                  go_wp2
                  go_ret
                  exact ⟨ret_bool (splitG_hit hl1 hl2 HT.out).symm, B6⟩
                · go_simp
                  have hOld := hHeld
                  refine hK.out _ _ (balloc hHeld (.cells #[.int .i64 (h : Int)] 2)) (fun hHeld => ?_)
                  clear hK K
                  try simp only [Act.put, List.setIfInBounds_toArray, List.set_cons_zero, List.set_cons_succ]
                  clear hOld
                  have hOne := Lib.hid (At1.one (k := .i64) wr.drew (h : Int) 2)
                  refine wpAnyH_ready (rs := [5]) (by kernel_rfl) (by simp) ?_
                  refine readyL rfl (fun K hK => ?_) AllReadyH.nil
                  go_simp
                  refine (c_CloneI B d given _ (hBQ.out.below hHeld) (by omega)).mono ?_
                  rintro e w1 ⟨A1, c1, rfl, o1, b1⟩
                  have O1 := Lib.hid (o1.base_le hHeld.size)
                  have hOne2 := Lib.hid (hOne.out.below b1)
                  clear o1
                  go_wp2_with fail
                  refine hK.out _ _ (bstep hHeld b1) (fun hHeld => ?_)
                  clear hK K
                  try simp only [Act.put, List.setIfInBounds_toArray, List.set_cons_zero, List.set_cons_succ]
                  refine wpAnyH_ready (rs := [8]) (by kernel_rfl) (by simp) ?_
                  refine readyL rfl (fun K hK => ?_) AllReadyH.nil
                  rw [if_pos (by rfl)]
                  refine append_intsW (.tmp 59) (.tmp 61) 22 rfl 2 .i64 8 Try.underlying22 info_i64N (by decide) wr.heap.size _ _ rfl O1.out _ _ [(h : Int)] rfl hOne2.out hz1 hHeld.size ?_
                  intro A4 c4 w4 ho4 hg4
                  have HO4 := Lib.hid ho4
                  have B4 := bgrown hHeld hg4 (fun j hj => O1.out.low hj)
                  clear ho4
                  refine hK.out _ _ (B4) (fun hHeld => ?_)
                  clear hK K
                  try simp only [Act.put, List.setIfInBounds_toArray, List.set_cons_zero, List.set_cons_succ]
                  refine wpAnyH_ready (rs := [14]) (by kernel_rfl) (by simp) ?_
                  refine readyL rfl (fun K hK => ?_) AllReadyH.nil
                  rw [List.length_append] at HO4
                  have hIH := HIH.out (given ++ [(h : Int)]) (max used (h + 1)) A4 c4 w4 (HFW.out.below hHeld) (At1.of_own HO4.out) (by rw [List.length_append]; simp; omega) (by rw [List.length_append]; simp; omega)
                  rw [HH.out, List.length_append] at hIH
                  go_simp
                  refine hIH.mono ?_
                  rintro e w5 ⟨rfl, b5⟩
                  have B5 := bstep hHeld b5
                  go_wp2_with fail
                  refine hK.out _ _ (B5) (fun hHeld => ?_)
                  clear hK K
                  try simp only [Act.put, List.setIfInBounds_toArray, List.set_cons_zero, List.set_cons_succ]
                  refine takeL (i := 15) (v := .bool true) rfl (by kernel_rfl) (by kernel_rfl) (by kernel_rfl) (fun _ _ _ h => h) (Or.inl ⟨by rfl, by intro w' hS; clear hS; go_simp⟩) hHeld ?_
                  simp only [Act.put, List.setIfInBounds_toArray, List.set_cons_zero, List.set_cons_succ]
                  refine wpAnyH_done (by kernel_rfl) ?_ _
                  have B6 := bstep hb2 hHeld
                  clear hHeld hIH
                  go_wp2
                  go_ret
                  exact ⟨ret_bool (splitG_hit hl1 hl2 HT.out).symm, B6⟩


      · obtain rfl : h = M := by omega
        have HN := Lib.hid (splitG_none (near := nearK s r ats) (most := most) (f := f) (used := used) (m := h) (given := given) (by omega) HZ.out)
        have hd2 : decide ((h : Int) < (h : Int)) = false := decide_eq_false (by omega)
        go_wp2
        go_ret
        exact ⟨ret_bool HN.out.symm, hb⟩


end Go.Proofs.Ytobpnlhfinnfkaa
