/-
  The walks of the notes that two tunes have in common: the search, the counts, in the reference and in the program.
-/
import Derived.Test.YtmdocjiljjbijaaWalkC
import Derived.Test.YtmdocjiljjbijaaPureB
namespace Go.Proofs.Ytmdocjiljjbijaa
open Go.RowKit
set_option linter.unusedVariables false
set_option linter.unusedSimpArgs false
set_option maxRecDepth 4000

theorem c_bit (b : Bool) (w : World) : Calls Try.prog 65 #[.bool b] w fun e w' => e = .returned (.int .i64 (if b then 1 else 0)) ∧ w = w' := by
  rcases b with _ | _
  all_goals
    go_enter Try.func65, Try.ntmps65
    go_wp2
    go_ret
    exact ⟨by simp, rfl⟩

theorem c_l01Both (A B : Option Addr) (c d : Nat) (l m : List (Int × Int)) (w : World) (h : At2 .i16 .i8 w A l) (h2 : At2 .i16 .i8 w B m) (hw : Wf l) (hw2 : Wf m) (hn : l.length ≤ 1073741824) (hn2 : m.length ≤ 1073741824) :
    Calls Try.prog 44 #[.slice A l.length c, .slice B m.length d] w fun e w' => e = .returned (.int .i64 (cTT l m)) ∧ Below w.heap.size w w' := by
  rcases hok : okT l with _ | _
  · have hcc : cTT l m = 1 := by simp [cTT, hok]
    have HC := Lib.hid hcc; clear hcc
    go_enter Try.func44, Try.ntmps44
    go_wp2_with fail
    refine (c_l01Ok A c l w h hw hn).mono ?_
    rintro e w1 ⟨rfl, b1⟩
    go_wp2
    go_ret
    exact ⟨ret_int HC.out.symm, b1⟩
  · rcases hok2 : okT m with _ | _
    · have hcc : cTT l m = 1 := by simp [cTT, hok, hok2]
      have HC := Lib.hid hcc; clear hcc
      go_enter Try.func44, Try.ntmps44
      go_wp2_with fail
      refine (c_l01Ok A c l w h hw hn).mono ?_
      rintro e w1 ⟨rfl, b1⟩
      go_wp2_with fail
      refine (c_l01Ok B d m w1 (h2.below b1) hw2 hn2).mono ?_
      rintro e w2 ⟨rfl, b2⟩
      go_wp2
      go_ret
      exact ⟨ret_int HC.out.symm, bstep b1 b2⟩
    · have hcc : cTT l m = 0 := by simp [cTT, hok, hok2]
      have HC := Lib.hid hcc; clear hcc
      go_enter Try.func44, Try.ntmps44
      go_wp2_with fail
      refine (c_l01Ok A c l w h hw hn).mono ?_
      rintro e w1 ⟨rfl, b1⟩
      go_wp2_with fail
      refine (c_l01Ok B d m w1 (h2.below b1) hw2 hn2).mono ?_
      rintro e w2 ⟨rfl, b2⟩
      go_wp2
      go_ret
      exact ⟨ret_int HC.out.symm, bstep b1 b2⟩

theorem c_Search (A : Option Addr) (c : Nat) (l : List (Int × Int)) (t : Int × Int) (w : World) (h : At2 .i16 .i8 w A l) (hok : okT l = true) :
    Calls Try.prog 63 #[.slice A l.length c, .agg #[.int .i16 t.1, .int .i8 t.2], .func (.func 64) #[] #[]] w
      fun e w' => e = .returned (.tuple #[.int .i64 (lbound l t : Int), .bool (decide (t ∈ l))]) ∧ Below w.heap.size w w' := by
  have hu := Try.underlying43
  have hn := okT_len hok
  go_enter Try.func63, Try.ntmps63
  go_wp2
  go_loopw [9, 10] (fun i j w' => ∃ a b : Nat, i = .int .i64 a ∧ j = .int .i64 b ∧ a ≤ b ∧ b ≤ l.length ∧ (∀ x (hx : x < l.length), x < a → ltN l[x] t = true) ∧ (∀ x (hx : x < l.length), b ≤ x → ltN l[x] t = false) ∧
     Below (w.alloc (.cells #[.int .i16 t.1, .int .i8 t.2] 43)).heap.size (w.alloc (.cells #[.int .i16 t.1, .int .i8 t.2] 43)) w') (fun i j _ => (intOf j - intOf i).toNat)
  case atStart => exact ⟨0, l.length, rfl, rfl, by omega, by omega, fun _ _ h => absurd h (by omega), fun _ _ h => absurd h (by omega), Below.refl _ _⟩
  case round =>
    obtain ⟨i, j, rfl, rfl, hij, hj, h1, h2, hb⟩ := hrel
    have H1 := Lib.hid h1; clear h1
    have H2 := Lib.hid h2; clear h2
    by_cases hlt : i < j
    · obtain ⟨m, hm⟩ : ∃ m : Nat, ((i : Int) + j) / 2 = (m : Int) := ⟨(i + j) / 2, by omega⟩
      have hm1 : i ≤ m := by omega
      have hm2 : m < j := by omega
      have hml : m < l.length := by omega
      have hlo : w.heap.size < wr.heap.size := by have := hb.size; simp at this; omega
      obtain ⟨b, off, rfl, hbl, hc⟩ := (h.below (bstep (balloc (Below.refl _ _) _) hb)).get (by omega)
      have x1 : ∀ x : After wr, _ := fun x => (x.cell hbl).trans (hc m hml).1
      have x2 : ∀ x : After wr, _ := fun x => (x.cell hbl).trans (hc m hml).2
      have y1 : ∀ x : After wr, x.w.cell? ⟨w.heap.size, 0, none⟩ = some (.int .i16 t.1) := fun x => (x.cell hlo).trans ((hb.cell (p := ⟨w.heap.size, 0, none⟩) (by simp)).trans (cell_new w _ _ rfl))
      have y2 : ∀ x : After wr, x.w.cell? ⟨w.heap.size, 1, none⟩ = some (.int .i8 t.2) := fun x => (x.cell hlo).trans ((hb.cell (p := ⟨w.heap.size, 1, none⟩) (by simp)).trans (cell_new w _ _ rfl))
      clear hc
      have hcm := cmpN_lt l[m] t
      have hin : (m : Int) < (l.length : Int) := by omega
      rcases hx : ltN l[m] t with _ | _
      · have HX := Lib.hid hx
        go_wp2
        refine region_after (by kernel_rfl) (by kernel_rfl) ?_
        repeat (go_big_quiet_step ((go_at_call 64; exact After.call (c_compareNotes _ _ _))))
        refine wpQuiet_nil ?_
        rintro _ ⟨x, rfl⟩
        clear hcm hx
        go_wp2
        go_roundw
        case rel =>
          refine ⟨i, m, rfl, by first | rfl | rw [hm], hm1, by omega, H1.out, fun x' hx' hmx => ?_, bstep hb x.below⟩
          by_cases e : x' = m
          · subst e; exact HX.out
          · cases hc : ltN l[x'] t with
            | false => rfl
            | true => have := ltN_trans (okT_lt hok hx' (show m < x' by omega)) hc; rw [HX.out] at this; cases this
        case measure => simp [intOf]; omega
      · have HX := Lib.hid hx
        have hw2 : IntKind.i64.wrap ((m : Int) + 1) = (m : Int) + 1 := IntWalk.i64_in _ (by omega)
        go_wp2
        refine region_after (by kernel_rfl) (by kernel_rfl) ?_
        repeat (go_big_quiet_step ((go_at_call 64; exact After.call (c_compareNotes _ _ _))))
        refine wpQuiet_nil ?_
        rintro _ ⟨x, rfl⟩
        clear hcm hx
        go_wp2
        go_roundw
        case rel =>
          refine ⟨m + 1, j, by first | go_num | (rw [hm]; go_num), rfl, by omega, hj, fun x' hx' hmx => ?_, H2.out, bstep hb x.below⟩
          by_cases e : x' = m
          · subst e; exact HX.out
          · exact ltN_trans (okT_lt hok hml (show x' < m by omega)) HX.out
        case measure => simp [intOf]; omega
    · obtain rfl : i = j := by omega
      have hlo : w.heap.size < wr.heap.size := by have := hb.size; simp at this; omega
      have B0 : Below w.heap.size w wr := bstep (balloc (Below.refl _ _) _) hb
      have y1 : ∀ x : After wr, x.w.cell? ⟨w.heap.size, 0, none⟩ = some (.int .i16 t.1) := fun x => (x.cell hlo).trans ((hb.cell (p := ⟨w.heap.size, 0, none⟩) (by simp)).trans (cell_new w _ _ rfl))
      have y2 : ∀ x : After wr, x.w.cell? ⟨w.heap.size, 1, none⟩ = some (.int .i8 t.2) := fun x => (x.cell hlo).trans ((hb.cell (p := ⟨w.heap.size, 1, none⟩) (by simp)).trans (cell_new w _ _ rfl))
      have hlb := lbound_eq hj H1.out H2.out
      have hms := mem_search hok hj H1.out H2.out
      have HLB := Lib.hid hlb; clear hlb
      have HMS := Lib.hid hms; clear hms
      by_cases hil : i < l.length
      · obtain ⟨b, off, rfl, hbl, hc⟩ := (h.below B0).get (by omega)
        have x1 : ∀ x : After wr, _ := fun x => (x.cell hbl).trans (hc i hil).1
        have x2 : ∀ x : After wr, _ := fun x => (x.cell hbl).trans (hc i hil).2
        clear hc
        have hcm := cmpN_eq l[i] t
        have hres : decide (t ∈ l) = decide (l[i] = t) := by
          rw [decide_eq_decide, HMS.out]
          exact ⟨fun ⟨_, h⟩ => h, fun h => ⟨hil, h⟩⟩
        have HR := Lib.hid hres; clear hres
        have hi1 : decide ((i : Int) < (l.length : Int)) = true := decide_eq_true (by omega)
        go_wp2
        refine region_after (by kernel_rfl) (by kernel_rfl) ?_
        repeat (go_big_quiet_step ((go_at_call 64; exact After.call (c_compareNotes _ _ _))))
        refine wpQuiet_nil ?_
        rintro _ ⟨x, rfl⟩
        go_wp2
        go_ret2
        rw [HLB.out, HR.out]
        exact ⟨rfl, bstep B0 x.below⟩
      · have hres : decide (t ∈ l) = false := by
          rw [decide_eq_false_iff_not, HMS.out]
          exact fun ⟨h, _⟩ => hil h
        have HR := Lib.hid hres; clear hres
        have hi1 : decide ((i : Int) < (l.length : Int)) = false := decide_eq_false (by omega)
        go_wp2
        refine region_after (by kernel_rfl) (by kernel_rfl) ?_
        repeat (go_big_quiet_step (fail))
        refine wpQuiet_nil ?_
        rintro _ ⟨x, rfl⟩
        go_wp2
        go_ret2
        rw [HLB.out, HR.out]
        exact ⟨rfl, bstep B0 x.below⟩

theorem c_l01Common (A B : Option Addr) (c d : Nat) (l m : List (Int × Int)) (s : Int) (w : World) (h : At2 .i16 .i8 w A l) (h2 : At2 .i16 .i8 w B m) (hok : okT l = true) (hok2 : okT m = true) (hs : -200 ≤ s ∧ s ≤ 200) :
    Calls Try.prog 45 #[.slice A l.length c, .slice B m.length d, .int .i64 s] w fun e w' => e = .returned (.int .i64 (commonL l m s : Nat)) ∧ Below w.heap.size w w' := by
  have hu := Try.underlying43
  have hn := okT_len hok
  have hn2 := okT_len hok2
  obtain ⟨hs1, hs2⟩ := hs
  go_enter Try.func45, Try.ntmps45
  go_wp2
  go_loopw [7, 8] (fun n i w' => ∃ k : Nat, i = .int .i64 k ∧ n = .int .i64 (sumL (l.take k) m s : Nat) ∧ k ≤ l.length ∧ Below w.heap.size w w') (fun _ i _ => l.length - (intOf i).toNat)
  case atStart => exact ⟨0, rfl, rfl, by omega, Below.refl _ _⟩
  case round =>
    obtain ⟨k, rfl, rfl, hk, hb⟩ := hrel
    obtain ⟨wo, rfl⟩ : ∃ wo : World, wo = wr := ⟨_, rfl⟩
    by_cases hlt : k < l.length
    · have hsl : sumL (l.take k) m s ≤ 120 * 120 := Nat.le_trans (sumL_take_le _ _ _ _) (Nat.mul_le_mul hn hn2)
      have hsn := sumL_snoc l m s k hlt
      have HSN := Lib.hid hsn; clear hsn
      go_wp2
      go_loopw [7, 9] (fun n j w' => ∃ q : Nat, j = .int .i64 q ∧ n = .int .i64 (sumL (l.take k) m s + metL l[k] (m.take q) s : Nat) ∧ q ≤ m.length ∧ Below w.heap.size w w') (fun _ j _ => m.length - (intOf j).toNat)
      case atStart => exact ⟨0, rfl, rfl, by omega, hb⟩
      case round =>
        obtain ⟨q, rfl, rfl, hq, hb2⟩ := hrel
        by_cases hlt2 : q < m.length
        · obtain ⟨b, off, rfl, hbl, hc⟩ := (h.below hb2).get (by omega)
          obtain ⟨b2, off2, rfl, hbl2, hc2⟩ := (h2.below hb2).get (by omega)
          have x1 : ∀ x : After wr, _ := fun x => (x.cell hbl).trans (hc k hlt).1
          have x2 : ∀ x : After wr, _ := fun x => (x.cell hbl).trans (hc k hlt).2
          have y1 : ∀ x : After wr, _ := fun x => (x.cell hbl2).trans (hc2 q hlt2).1
          have y2 : ∀ x : After wr, _ := fun x => (x.cell hbl2).trans (hc2 q hlt2).2
          obtain ⟨n1, n2, n3, n4⟩ := okT_note hok hlt
          obtain ⟨p1, p2, p3, p4⟩ := okT_note hok2 hlt2
          have hmet := metL_snoc l[k] m s q hlt2
          have HM := Lib.hid hmet; clear hmet
          have hml : metL l[k] (m.take q) s ≤ 120 := Nat.le_trans (metL_le _ _ _) (by simp; omega)
          have hw1 : IntKind.i64.wrap (m[q].1 + s) = m[q].1 + s := IntWalk.i64_in _ (by omega)
          have hw2 : IntKind.i64.wrap (((sumL (l.take k) m s + metL l[k] (m.take q) s : Nat) : Int) + 1) = ((sumL (l.take k) m s + metL l[k] (m.take q) s : Nat) : Int) + 1 := IntWalk.i64_in _ (by omega)
          clear hc hc2
          rcases e1 : (l[k].2 == m[q].2) with _ | _
          · have hn0 : (decide (l[k].2 = m[q].2) && decide (l[k].1 = m[q].1 + s)) = false := by
              have : decide (l[k].2 = m[q].2) = false := e1
              rw [this]; rfl
            have HN := Lib.hid hn0; clear hn0
            go_wp2
            refine region_after (by kernel_rfl) (by kernel_rfl) ?_
            repeat (go_big_quiet_step (fail))
            refine wpQuiet_nil ?_
            rintro _ ⟨x, rfl⟩
            go_wp2
            go_roundw
            case rel =>
              refine ⟨q + 1, by go_num, ?_, by omega, bstep hb2 x.below⟩
              rw [HM.out, HN.out]; rfl
            case measure => simp [intOf]; omega
          · rcases e2 : (l[k].1 == m[q].1 + s) with _ | _
            · have hn0 : (decide (l[k].2 = m[q].2) && decide (l[k].1 = m[q].1 + s)) = false := by
                have : decide (l[k].1 = m[q].1 + s) = false := e2
                rw [this]; simp
              have HN := Lib.hid hn0; clear hn0
              go_wp2
              refine region_after (by kernel_rfl) (by kernel_rfl) ?_
              repeat (go_big_quiet_step (fail))
              refine wpQuiet_nil ?_
              rintro _ ⟨x, rfl⟩
              go_wp2
              go_roundw
              case rel =>
                refine ⟨q + 1, by go_num, ?_, by omega, bstep hb2 x.below⟩
                rw [HM.out, HN.out]; rfl
              case measure => simp [intOf]; omega
            · have hn0 : (decide (l[k].2 = m[q].2) && decide (l[k].1 = m[q].1 + s)) = true := by
                have h1 : decide (l[k].2 = m[q].2) = true := e1
                have h2 : decide (l[k].1 = m[q].1 + s) = true := e2
                rw [h1, h2]; rfl
              have HN := Lib.hid hn0; clear hn0
              go_wp2
              refine region_after (by kernel_rfl) (by kernel_rfl) ?_
              repeat (go_big_quiet_step (fail))
              refine wpQuiet_nil ?_
              rintro _ ⟨x, rfl⟩
              go_wp2
              go_roundw
              case rel =>
                refine ⟨q + 1, by go_num, ?_, by omega, bstep hb2 x.below⟩
                rw [HM.out, HN.out]; rfl
              case measure => simp [intOf]; omega
        · obtain rfl : q = m.length := by omega
          go_wp2
          go_roundw
          case rel =>
            refine ⟨k + 1, by go_num, ?_, by omega, hb2⟩
            rw [HSN.out, List.take_length]
          case measure => simp [intOf]; omega
    · obtain rfl : k = l.length := by omega
      go_wp2
      go_ret
      exact ⟨ret_int (by rw [List.take_length, sumL_eq m s (okT_nodup hok)]), hb⟩

theorem c_common (A B : Option Addr) (c d : Nat) (l m : List (Int × Int)) (s : Int) (w : World) (h : At2 .i16 .i8 w A l) (h2 : At2 .i16 .i8 w B m) (hok : okT l = true) (hok2 : okT m = true) (hs : -200 ≤ s ∧ s ≤ 200) :
    Calls Try.prog 43 #[.slice A l.length c, .slice B m.length d, .int .i64 s] w fun e w' => e = .returned (.int .i64 (commonL l m s : Nat)) ∧ Below w.heap.size w w' := by
  have hu := Try.underlying43
  have hn := okT_len hok
  have hn2 := okT_len hok2
  obtain ⟨hs1, hs2⟩ := hs
  have hs3 : IntKind.i16.wrap s = s := IntWalk.i16_in _ (by omega)
  go_enter Try.func43, Try.ntmps43
  go_wp2
  go_loopw [7, 14] (fun n i w' => ∃ k : Nat, i = .int .i64 k ∧ n = .int .i64 (commonL l (m.take k) s : Nat) ∧ k ≤ m.length ∧ Below w.heap.size w w') (fun _ i _ => m.length - (intOf i).toNat)
  case atStart => exact ⟨0, rfl, rfl, by omega, Below.refl _ _⟩
  case round =>
    obtain ⟨k, rfl, rfl, hk, hb⟩ := hrel
    by_cases hlt : k < m.length
    · obtain ⟨b2, off2, rfl, hbl2, hc2⟩ := (h2.below hb).get (by omega)
      have y1 := (hc2 k hlt).1
      have y2 := (hc2 k hlt).2
      clear hc2
      obtain ⟨p1, p2, p3, p4⟩ := okT_note hok2 hlt
      have hsn := commonL_snoc l m s k hlt
      have HSN := Lib.hid hsn; clear hsn
      have hcl : commonL l (m.take k) s ≤ 120 := Nat.le_trans (commonL_le _ _ _) (by simp; omega)
      have hw1 : IntKind.i16.wrap (m[k].1 + s) = m[k].1 + s := IntWalk.i16_in _ (by omega)
      have hw2 : IntKind.i64.wrap (((commonL l (m.take k) s : Nat) : Int) + 1) = ((commonL l (m.take k) s : Nat) : Int) + 1 := IntWalk.i64_in _ (by omega)
      rcases hm : decide ((m[k].1 + s, m[k].2) ∈ l) with _ | _
      · have HM := Lib.hid hm
        have hm1 : ¬ (m[k].1 + s, m[k].2) ∈ l := by simpa using hm
        clear hm
        go_wp2_with fail
        refine (c_Search A c l (m[k].1 + s, m[k].2) _ (h.below (balloc hb _)) hok).mono ?_
        rintro e w1 ⟨rfl, b1⟩
        go_wp2_with (go_at_call 65; refine (c_bit _ _).mono ?_; rintro e w' ⟨rfl, rfl⟩)
        go_roundw
        case rel =>
          refine ⟨k + 1, by go_num, ?_, by omega, bstep (balloc hb _) b1⟩
          rw [HSN.out, HM.out]; rfl
        case measure => simp [intOf]; omega
      · have HM := Lib.hid hm
        have hm1 : (m[k].1 + s, m[k].2) ∈ l := by simpa using hm
        clear hm
        go_wp2_with fail
        refine (c_Search A c l (m[k].1 + s, m[k].2) _ (h.below (balloc hb _)) hok).mono ?_
        rintro e w1 ⟨rfl, b1⟩
        go_wp2_with (go_at_call 65; refine (c_bit _ _).mono ?_; rintro e w' ⟨rfl, rfl⟩)
        go_roundw
        case rel =>
          refine ⟨k + 1, by go_num, ?_, by omega, bstep (balloc hb _) b1⟩
          rw [HSN.out, HM.out]; rfl
        case measure => simp [intOf]; omega
    · obtain rfl : k = m.length := by omega
      go_wp2
      go_ret
      exact ⟨ret_int (by rw [List.take_length]), hb⟩

theorem c_implCommonNotes (A B : Option Addr) (c d : Nat) (l m : List (Int × Int)) (w : World) (h : At2 .i16 .i8 w A l) (h2 : At2 .i16 .i8 w B m) (hw : Wf l) (hw2 : Wf m) (hn : l.length ≤ 1073741824) (hn2 : m.length ≤ 1073741824) :
    Calls Try.prog 17 #[.slice A l.length c, .slice B m.length d] w fun e w' => e = .returned (.tuple #[.int .i64 (rCommonNotes l m), .int .i64 (cTT l m)]) ∧ Below w.heap.size w w' := by
  rcases hok : (okT l && okT m) with _ | _
  · have hcc : cTT l m = 1 := by simp only [cTT, hok]; rfl
    have hr : rCommonNotes l m = 0 := by simp only [rCommonNotes, hok]; rfl
    have HR := Lib.hid hr; clear hr
    have HC := Lib.hid hcc; clear hcc
    go_enter Try.func17, Try.ntmps17
    go_wp2_with fail
    refine (c_tuneCode_two A B c d l m w _ h hw hn h2 hw2 hn2).mono ?_
    rintro e w1 ⟨rfl, b1⟩
    rw [hok]
    go_wp2
    go_ret2
    exact ⟨by rw [HR.out, HC.out]; rfl, b1⟩
  · have hcc : cTT l m = 0 := by simp only [cTT, hok]; rfl
    have hr : rCommonNotes l m = (commonL l m 0 : Nat) := by simp only [rCommonNotes, hok]; rfl
    have HR := Lib.hid hr; clear hr
    have HC := Lib.hid hcc; clear hcc
    obtain ⟨ok1, ok2⟩ := Bool.and_eq_true_iff.1 hok
    go_enter Try.func17, Try.ntmps17
    go_wp2_with fail
    refine (c_tuneCode_two A B c d l m w _ h hw hn h2 hw2 hn2).mono ?_
    rintro e w1 ⟨rfl, b1⟩
    rw [hok]
    go_wp2_with fail
    refine (c_common A B c d l m 0 w1 (h.below b1) (h2.below b1) ok1 ok2 (by omega)).mono ?_
    rintro e w2 ⟨rfl, b2⟩
    go_wp2
    go_ret2
    exact ⟨by rw [HR.out, HC.out]; rfl, bstep b1 b2⟩

end Go.Proofs.Ytmdocjiljjbijaa
