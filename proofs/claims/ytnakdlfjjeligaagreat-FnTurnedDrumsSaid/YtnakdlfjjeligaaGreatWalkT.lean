/-
  Compact on notes; notes put in order (made), a tune that is checked.
-/
import Derived.Test.YtnakdlfjjeligaaGreatWalkR
import Derived.Test.YtnakdlfjjeligaaGreatWalkB
import Derived.Test.YtnakdlfjjeligaaGreatWalkD
import Derived.Test.YtnakdlfjjeligaaGreatPure
import Derived.Test.YtnakdlfjjeligaaGreatData
import Derived.Lib.LazyBuf
namespace Go.Proofs.YtnakdlfjjeligaaGreat
open Go.RowKit
set_option linter.unusedVariables false
set_option linter.unusedSimpArgs false
set_option maxRecDepth 4000

theorem bset_base {B : Nat} {a w : World} (h : Below B a w) {p : Addr} (hp : B ≤ p.block) (u : Value) : Below B a (w.setCell p u) := h.setCell hp u

set_option maxHeartbeats 1600000 in
theorem c_CompactN (g c base : Nat) (l : List (Int × Int)) (w : World) (h : Own2 .i16 .i8 111 w base (.slice (some ⟨g, 0, none⟩) l.length c) l) (hn : l.length ≤ 1073741824) (hbw : base ≤ w.heap.size) :
    Calls Tryz.prog 95 #[.slice (some ⟨g, 0, none⟩) l.length c] w fun e w' => e = .returned (.slice (some ⟨g, 0, none⟩) (compN l l.length).length c) ∧ Own2 .i16 .i8 111 w' base (.slice (some ⟨g, 0, none⟩) (compN l l.length).length c) (compN l l.length) ∧ Below base w w' := by
  have hu := Tryz.underlying111
  have hgb := h.block
  have hcap := h.cap
  by_cases h2 : l.length < 2
  · have hg1 : decide ((l.length : Int) < 2) = true := decide_eq_true (by omega)
    have hg2 : decide (l.length < 2) = true := decide_eq_true h2
    have hF : compN l l.length = l := by rw [compN_full l.length (Nat.le_refl _) (fun i hi h0 _ => absurd hi (by omega)), List.take_length]
    have HF := Lib.hid hF
    clear hF
    go_enter Tryz.func95, Tryz.ntmps95
    go_wp2
    go_ret
    rw [HF.out]
    exact ⟨rfl, h, Below.refl _ _⟩
  · have hg1 : decide ((l.length : Int) < 2) = false := decide_eq_false (by omega)
    have hg2 : decide (l.length < 2) = false := decide_eq_false h2
    have H := Lib.hid h
    clear h
    go_enter Tryz.func95, Tryz.ntmps95
    go_wp2
    go_loopw [3] (fun i w' => ∃ k : Nat, i = .int .i64 (k : Int) ∧ 1 ≤ k ∧ k ≤ l.length ∧ RowKit.Hid (∀ i (hi : i < l.length) (h0 : 0 < i), i < k → l[i - 1] ≠ l[i]) ∧ Below w.heap.size w w') (fun i _ => l.length - (intOf i).toNat)
    case atStart => exact ⟨1, rfl, by omega, by omega, Lib.hid (fun i hi h0 h1 => absurd h1 (by omega)), Below.refl _ _⟩
    case round =>
      obtain ⟨k, rfl, hk1, hk, HZ, hb2⟩ := hrel
      have H2 := Lib.hid (H.out.below hb2)
      by_cases hlt : k < l.length
      · have y1 := fun x : After wr => keepc (H2.out.cells k hlt).1 x.below
        have y2 := fun x : After wr => keepc (H2.out.cells k hlt).2.1 x.below
        have y3 := fun x : After wr => keepc (H2.out.cells (k - 1) (by omega)).1 x.below
        have y4 := fun x : After wr => keepc (H2.out.cells (k - 1) (by omega)).2.1 x.below
        have hw1 : IntKind.i64.wrap ((k:Int) - 1) = (k:Int) - 1 := IntWalk.i64_in _ (by omega)
        have hw2 : (0:Int) ≤ (k:Int) - 1 := by omega
        have hw3 : ((k:Int) - 1).toNat = k - 1 := by omega
        have i1 : (0 : Int) ≤ (k : Int) := by omega
        have i2 : (k : Int) < (l.length : Int) := by omega
        have i3 : (k : Int) - 1 < (l.length : Int) := by omega
        have heq := eq_note l[k] l[k - 1]
        rcases hq : eqN l[k] l[k - 1] with _ | _
        · have HQ := Lib.hid (eqN_false.1 hq)
          go_wp2
          refine region_after (by kernel_rfl) (by kernel_rfl) ?_
          repeat (go_big_quiet_step (fail))
          refine wpQuiet_nil ?_
          rintro _ ⟨x, rfl⟩
          clear heq y1 y2 y3 y4
          go_wp2
          go_roundw
          case rel =>
            refine ⟨k + 1, by go_num, by omega, by omega, Lib.hid (fun i hi h0 hik => ?_), bstep hb2 x.below⟩
            by_cases e : i = k
            · subst e; exact fun e2 => HQ.out e2.symm
            · exact HZ.out i hi h0 (by omega)
          case measure => simp [intOf]; omega
        · have hdup : 0 < k ∧ l[k - 1]? = some l[k] := ⟨by omega, by rw [List.getElem?_eq_getElem (by omega), eqN_iff.1 hq]⟩
          have HD := Lib.hid hdup
          have hck : ¬ c = k := by omega
          have hkc : (k : Int) ≤ (c : Int) := by omega
          have hsub : ((l.length - k : Nat) : Int) = (l.length : Int) - (k : Int) := by omega
          have hM0 : compM l (k + 1) = l := by unfold compM; rw [compN_skip hlt HD.out, compN_full k hk (fun i hi h0 hik => HZ.out i hi h0 hik), List.length_take, Nat.min_eq_left hk, List.take_append_drop]
          have hM1 : (compN l (k + 1)).length = k := by rw [compN_skip hlt HD.out, compN_full k hk (fun i hi h0 hik => HZ.out i hi h0 hik), List.length_take]; omega
          have HM0 := Lib.hid hM0
          have HM1 := Lib.hid hM1
          clear hdup hM0 hM1
          go_wp2
          refine region_after (by kernel_rfl) (by kernel_rfl) ?_
          repeat (go_big_quiet_step (fail))
          refine wpQuiet_nil ?_
          rintro _ ⟨x, rfl⟩
          clear heq y1 y2 y3 y4
          have hb3 := x.below
          obtain ⟨w3, hw3⟩ : ∃ u, x.w = u := ⟨_, rfl⟩
          rw [hw3] at hb3 ⊢
          clear hw3
          have hb4 := bstep hb2 hb3
          go_wp2
          go_loopw [3, 5] (fun v i w' => ∃ j : Nat, i = .int .i64 (j : Int) ∧ 1 ≤ j ∧ j ≤ l.length - k ∧ v = .int .i64 ((compN l (k + j)).length : Int) ∧ Own2 .i16 .i8 111 w' base (.slice (some ⟨g, 0, none⟩) l.length c) (compM l (k + j)) ∧ Below base w w' ∧ base ≤ w'.heap.size) (fun _ i _ => l.length - (intOf i).toNat)
          case atStart => exact ⟨1, rfl, by omega, by omega, by rw [HM1.out], by rw [HM0.out]; exact H2.out.below hb3, hb4.mono hbw, Nat.le_trans hbw hb4.size⟩
          case round =>
            obtain ⟨j, rfl, hj1, hj, rfl, ho, hbb, hbs⟩ := hrel
            have hks : (compN l (k + j)).length < k + j := by have := compN_short hlt HD.out (j - 1); rw [show k + 1 + (j - 1) = k + j by omega] at this; omega
            have O := Lib.hid ho
            clear ho
            by_cases hjl : j < l.length - k
            · have hm : k + j < l.length := by omega
              have hMl : (compM l (k + j)).length = l.length := compM_len (by omega)
              have hg1 : (compM l (k + j))[k + j]'(by omega) = l[k + j] := compM_get (by omega) (by omega) hm
              have hg2 : (compM l (k + j))[k + j - 1]'(by omega) = l[k + j - 1] := compM_get (by omega) (by omega) (by omega)
              have hst := compM_step hm hks
              have hsame := compM_same (l := l) (m := k + j) hm
              have hlen1 := compN_keep (l := l) (k := k + j) hm
              have hlen2 := compN_skip (l := l) (k := k + j) hm
              have C1 : wr.cell? ⟨g, k * 2 + j * 2, none⟩ = some (.int .i16 l[k + j].1) ∧ wr.cell? ⟨g, k * 2 + j * 2 + 1, none⟩ = some (.int .i8 l[k + j].2) := by
                have C := O.out.cells (k + j) (by rw [hMl]; exact hm)
                have z1 : (k * 2 + j * 2) = (k + j) * 2 := by omega
                rw [hg1, ← z1] at C
                exact ⟨C.1, C.2.1⟩
              have C2 : wr.cell? ⟨g, k * 2 + (j - 1) * 2, none⟩ = some (.int .i16 l[k + j - 1].1) ∧ wr.cell? ⟨g, k * 2 + (j - 1) * 2 + 1, none⟩ = some (.int .i8 l[k + j - 1].2) := by
                have C := O.out.cells (k + j - 1) (by rw [hMl]; omega)
                have z3 : (k * 2 + (j - 1) * 2) = (k + j - 1) * 2 := by omega
                rw [hg2, ← z3] at C
                exact ⟨C.1, C.2.1⟩
              clear hg1 hg2
              obtain ⟨kk, hkk⟩ : ∃ kk, (compN l (k + j)).length = kk := ⟨_, rfl⟩
              obtain ⟨M, hMM⟩ : ∃ M, compM l (k + j) = M := ⟨_, rfl⟩
              rw [hMM] at O hMl hst hsame
              rw [hkk] at hks hst ⊢
              have HKK := Lib.hid hkk
              have HST := Lib.hid hst
              have HSAME := Lib.hid hsame
              have HL1 := Lib.hid hlen1
              have HL2 := Lib.hid hlen2
              have HML := Lib.hid hMl
              have CC1 := Lib.hid C1
              clear hMM hkk hst hsame hlen1 hlen2 hMl
              have y1 := fun x : After wr => keepc C1.1 x.below
              have y2 := fun x : After wr => keepc C1.2 x.below
              have y3 := fun x : After wr => keepc C2.1 x.below
              have y4 := fun x : After wr => keepc C2.2 x.below
              have hw1 : IntKind.i64.wrap ((j:Int) - 1) = (j:Int) - 1 := IntWalk.i64_in _ (by omega)
              have hw2 : (0:Int) ≤ (j:Int) - 1 := by omega
              have hw3 : ((j:Int) - 1).toNat = j - 1 := by omega
              have j1 : (0 : Int) ≤ (j : Int) := by omega
              have j2 : (j : Int) < ((l.length - k : Nat) : Int) := by omega
              have j3 : (j : Int) - 1 < ((l.length - k : Nat) : Int) := by omega
              have j4 : decide ((j : Int) < ((l.length - k : Nat) : Int)) = true := decide_eq_true j2
              have hne := neq_note l[k + j] l[k + j - 1]
              clear C1 C2
              rcases hq2 : eqN l[k + j] l[k + j - 1] with _ | _
              · have hnd : ¬ (0 < k + j ∧ l[k + j - 1]? = some l[k + j]) := by
                  rintro ⟨_, e⟩
                  rw [List.getElem?_eq_getElem (by omega), Option.some_inj] at e
                  exact eqN_false.1 hq2 e.symm
                have HND := Lib.hid hnd
                clear hnd
                go_wp2
                refine region_after (by kernel_rfl) (by kernel_rfl) ?_
                repeat (go_big_quiet_step (fail))
                refine wpQuiet_nil ?_
                rintro _ ⟨x, rfl⟩
                clear hne y1 y2 y3 y4
                have hb5 := x.below
                obtain ⟨w5, hw5⟩ : ∃ u, x.w = u := ⟨_, rfl⟩
                rw [hw5] at hb5 ⊢
                clear hw5
                have O5 := Lib.hid (O.out.below hb5)
                have hbb5 := hbb.trans (hb5.mono hbs)
                have hbs5 : base ≤ w5.heap.size := Nat.le_trans hbs hb5.size
                have c1 := keepc CC1.out.1 hb5
                have c2 := keepc CC1.out.2 hb5
                obtain ⟨c3, c4, c5, c6⟩ := O5.out.cells kk (by rw [HML.out]; omega)
                have k1 : (0 : Int) ≤ (kk : Int) := by omega
                have k2 : (kk : Int) < (l.length : Int) := by omega
                have hwk : IntKind.i64.wrap ((kk : Int) + 1) = ((kk + 1 : Nat) : Int) := IntWalk.i64_in _ (by omega)
                have hwj : IntKind.i64.wrap ((j : Int) + 1) = ((j + 1 : Nat) : Int) := IntWalk.i64_in _ (by omega)
                clear hb5
                go_wp2
                go_roundw
                case rel =>
                  refine ⟨j + 1, by first | rfl | rw [hwj], by omega, by omega, ?_, ?_, ?_, ?_⟩
                  · rw [show k + (j + 1) = k + j + 1 by omega, HL1.out HND.out, List.length_append, HKK.out]; first | rfl | rw [hwk]; rfl
                  · rw [show k + (j + 1) = k + j + 1 by omega, ← HST.out HND.out]; exact O5.out.store HML.out kk l[k + j]
                  · exact bset_base (bset_base hbb5 hgb.1 _) hgb.1 _
                  · simpa [World.setCell] using hbs5
                case measure => simp [intOf]; omega
              · have hdp : 0 < k + j ∧ l[k + j - 1]? = some l[k + j] := ⟨by omega, by rw [List.getElem?_eq_getElem (by omega), eqN_iff.1 hq2]⟩
                have HDP := Lib.hid hdp
                clear hdp
                go_wp2
                refine region_after (by kernel_rfl) (by kernel_rfl) ?_
                repeat (go_big_quiet_step (fail))
                refine wpQuiet_nil ?_
                rintro _ ⟨x, rfl⟩
                clear hne y1 y2 y3 y4
                have hb5 := x.below
                obtain ⟨w5, hw5⟩ : ∃ u, x.w = u := ⟨_, rfl⟩
                rw [hw5] at hb5 ⊢
                clear hw5
                have O5 := Lib.hid (O.out.below hb5)
                have hbb5 := hbb.trans (hb5.mono hbs)
                have hbs5 : base ≤ w5.heap.size := Nat.le_trans hbs hb5.size
                have hwj : IntKind.i64.wrap ((j : Int) + 1) = ((j + 1 : Nat) : Int) := IntWalk.i64_in _ (by omega)
                clear hb5
                go_wp2
                go_roundw
                case rel => exact ⟨j + 1, by first | rfl | rw [hwj], by omega, by omega, by rw [show k + (j + 1) = k + j + 1 by omega, HL2.out HDP.out, HKK.out], by rw [show k + (j + 1) = k + j + 1 by omega, HSAME.out HDP.out]; exact O5.out, hbb5, hbs5⟩
                case measure => simp [intOf]; omega
            · obtain rfl : j = l.length - k := by omega
              have hkl : k + (l.length - k) = l.length := by omega
              rw [hkl] at O hks ⊢
              have hMl : (compM l l.length).length = l.length := compM_len (Nat.le_refl _)
              have hMt := compM_take l l.length
              obtain ⟨C, hC⟩ : ∃ C, compN l l.length = C := ⟨_, rfl⟩
              have HC := Lib.hid hC
              obtain ⟨M, hMM⟩ : ∃ M, compM l l.length = M := ⟨_, rfl⟩
              rw [hC] at hks hMt ⊢
              rw [hMM] at O hMl hMt
              have O2 := Lib.hid (hMt ▸ O.out.shorten hMl (k := C.length) (by omega))
              have OR : wr.ownsRow base 111 2 (.slice (some ⟨g, 0, none⟩) l.length c) l.length (flat2 .i16 .i8 M) := by
                have := O.out
                unfold Own2 at this
                rw [hMl] at this
                exact this
              obtain ⟨vs, hvs⟩ := run_clear_pairs (P := Tryz.prog) wr 37 111 0 .i16 .i8 4 Tryz.underlying37 info_Note g (C.length * 2) (l.length - C.length) (c - C.length)
                (fun i hi => by
                  have := World.ownsRow.cellAt OR (C.length * 2 + i) (by omega)
                  rw [this, List.getElem?_eq_getElem (by rw [length_flat2, hMl]; omega)]; rfl)
                (fun i hi => World.ownsRow.frozenAt OR _)
              have hck2 : ¬ c = C.length := by omega
              have hCc : (C.length : Int) ≤ (c : Int) := by omega
              have hCl : (C.length : Int) ≤ (l.length : Int) := by omega
              clear hMt hC
              go_wp2
              go_ret
              rw [HC.out]
              exact ⟨rfl, Own2.setCells rfl vs (C.length * 2) wr (Nat.le_refl _) O2.out, below_cells g hgb.1 vs _ hbb⟩
      · obtain rfl : k = l.length := by omega
        have hF : compN l l.length = l := by rw [compN_full l.length (Nat.le_refl _) (fun i hi h0 hik => HZ.out i hi h0 hik), List.take_length]
        have HF := Lib.hid hF
        clear hF
        go_wp2
        go_ret
        rw [HF.out]
        exact ⟨rfl, H2.out, hb2.mono hbw⟩
theorem c_CompactNil (A : Option Addr) (c : Nat) (w : World) :
    Calls Tryz.prog 95 #[.slice A 0 c] w fun e w' => e = .returned (.slice A 0 c) ∧ w = w' := by
  go_enter Tryz.func95, Tryz.ntmps95
  go_wp2
  go_ret
  exact ⟨rfl, rfl⟩
theorem c_SortNil (A : Option Addr) (c : Nat) (v : Value) (w : World) :
    Calls Tryz.prog 94 #[.slice A 0 c, v] w fun e w' => e = .returned (.tuple #[]) ∧ w = w' :=
  (AnyF.slices_SortFunc_none laySort A c v w).mono fun _ _ ⟨h1, h2⟩ => ⟨h1, h2.symm⟩
theorem c_CloneT (A : Option Addr) (c : Nat) (l : List (Int × Int)) (w : World) (h : At2 .i16 .i8 w A l) (hn : l.length ≤ 1073741824) :
    Calls Tryz.prog 93 #[.slice A l.length c] w fun e w' => ∃ A' c', e = .returned (.slice A' l.length c') ∧ Own2 .i16 .i8 111 w' w.heap.size (.slice A' l.length c') l ∧ Below w.heap.size w w' := by
  cases A with
  | none =>
    have hl : l = [] := by
      cases l with
      | nil => rfl
      | cons p l => obtain ⟨g, off, h1, _⟩ := At2.get h (by simp); cases h1
    subst hl
    have hq : ∀ w, (Go.binOp .eql 37 (.slice none 0 c) (.slice none 0 0)).run Tryz.prog w = .ok (.bool true) w := fun w => Go.run_eql_slice_nil w _ _ none 0 c Tryz.underlying37
    go_enter Tryz.func93, Tryz.ntmps93
    go_wp2
    go_ret
    exact ⟨none, 0, rfl, World.ownsRow_nil _ _ _ _, Below.refl _ _⟩
  | some ad =>
    have hAt := At2.below h (Below.refl _ w |>.alloc (Nat.le_refl _) (.cells #[] 111))
    have hown2 := Own2.lit0 (k1 := .i16) (k2 := .i8) (E := 111) (w := w) (base := w.heap.size) (Nat.le_refl _)
    have B3 := balloc (Below.refl _ w) (.cells #[] 111)
    have hbs := B3.size
    have hn2 : ([] : List (Int × Int)).length + l.length ≤ 1073741824 := by simpa using hn
    have hq : ∀ w, (Go.binOp .eql 37 (.slice (some ad) l.length c) (.slice none 0 0)).run Tryz.prog w = .ok (.bool false) w := fun w => Go.run_eql_slice_nil w _ _ (some ad) _ _ Tryz.underlying37
    clear h
    go_enter Tryz.func93, Tryz.ntmps93
    go_wp2_with (at_builtin; refine append_pairs rfl (.tmp 5) (.tmp 6) 37 rfl 111 .i16 .i8 4 Tryz.underlying37 info_Note (by decide) w.heap.size _ [] rfl hown2 _ _ l rfl hAt hn2 hbs ?_; intro A3 c3 w3 ho3 hg3)
    go_ret
    exact ⟨A3, c3, rfl, ho3, bgrown B3 hg3 (fun j hj => hown2.low hj)⟩

theorem c_madeN (A : Option Addr) (c : Nat) (l : List (Int × Int)) (w : World) (h : At2 .i16 .i8 w A l) (hn : l.length ≤ 1073741824) :
    Calls Tryz.prog 75 #[.slice A l.length c] w fun e w' => ∃ A' c', e = .returned (.slice A' (sortU l).length c') ∧ Own2 .i16 .i8 111 w' w.heap.size (.slice A' (sortU l).length c') (sortU l) ∧ Below w.heap.size w w' := by
  by_cases h0 : l.length = 0
  · obtain rfl : l = [] := List.length_eq_zero_iff.1 h0
    clear h0
    go_enter Tryz.func75, Tryz.ntmps75
    go_wp2_with fail
    refine (c_CloneT A c [] _ h hn).mono ?_
    rintro e w1 ⟨A1, c1, rfl, o1, b1⟩
    go_wp2_with fail
    refine (c_SortNil A1 c1 _ _).mono ?_
    rintro e w2 ⟨rfl, rfl⟩
    go_wp2_with fail
    refine (c_CompactNil A1 c1 _).mono ?_
    rintro e w3 ⟨rfl, rfl⟩
    go_wp2
    go_ret
    exact ⟨A1, c1, rfl, o1, b1⟩
  · have hm := mergeN_comp l
    have hml : (mergeN l).length = l.length := (mergeN_perm l).length_eq
    rw [hml] at hm
    obtain ⟨M, hMM⟩ : ∃ M, mergeN l = M := ⟨_, rfl⟩
    obtain ⟨S, hSS⟩ : ∃ S, sortU l = S := ⟨_, rfl⟩
    rw [hMM] at hm hml
    rw [hSS] at hm ⊢
    have HMM := Lib.hid hMM
    have HM := Lib.hid hm
    have HML := Lib.hid hml
    clear hMM hSS hm hml
    go_enter Tryz.func75, Tryz.ntmps75
    go_wp2_with fail
    refine (c_CloneT A c l _ h hn).mono ?_
    rintro e w1 ⟨A1, c1, rfl, o1, b1⟩
    obtain ⟨g1, rfl⟩ := o1.form (by omega)
    have O1 := Lib.hid o1
    clear o1
    go_wp2_with fail
    refine (c_SortN g1 c1 w.heap.size l _ O1.out hn b1.size).mono ?_
    rintro e w2 ⟨rfl, o2, b2⟩
    rw [HMM.out] at o2
    have o2' : Own2 .i16 .i8 111 w2 w.heap.size (.slice (some ⟨g1, 0, none⟩) M.length c1) M := by rw [HML.out]; exact o2
    have O2 := Lib.hid o2'
    clear o2 o2'
    have B2 := Below.trans b1 b2
    rw [← HML.out]
    go_wp2_with fail
    refine (c_CompactN g1 c1 w.heap.size M _ O2.out (by rw [HML.out]; exact hn) B2.size).mono ?_
    rintro e w3 ⟨rfl, o3, b3⟩
    rw [HML.out, HM.out] at o3 ⊢
    have O3 := Lib.hid o3
    clear o3
    go_wp2
    go_ret
    exact ⟨some ⟨g1, 0, none⟩, c1, rfl, O3.out, B2.trans b3⟩

theorem c_checked (A : Option Addr) (c : Nat) (l : List (Int × Int)) (z : Int) (w : World) (h : At2 .i16 .i8 w A l) (hw : Wf l) (hn : l.length ≤ 1073741824) :
    Calls Tryz.prog 39 #[.slice A l.length c, .int .i64 z] w fun e w' => e = .returned (.tuple #[if okT l then .slice A l.length c else .slice none 0 0, .int .i64 (if okT l then 0 else z)]) ∧ Below w.heap.size w w' := by
  rcases hok : okT l with _ | _
  all_goals
    go_enter Tryz.func39, Tryz.ntmps39
    go_wp2_with fail
    refine (c_ValidTune A c l _ h hw hn).mono ?_
    rintro e w1 ⟨rfl, b1⟩
    rw [hok]
    go_wp2
    go_ret2
    exact ⟨rfl, b1⟩

end Go.Proofs.YtnakdlfjjeligaaGreat
