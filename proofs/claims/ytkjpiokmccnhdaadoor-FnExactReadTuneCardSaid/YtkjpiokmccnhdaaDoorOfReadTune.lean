/-
  The statement FnExactReadTuneCardSaid: whatever text is given, the law's call returns true, and what is given reads as it did: the program's ReadTune returns what the reference's returns. What the row lists is tied to the program's text by the given tie.
-/
import Derived.Test.YtkjpiokmccnhdaaDoorRows
import Derived.Test.YtkjpiokmccnhdaaDoorCards
import Derived.Test.YtkjpiokmccnhdaaDoorTie
import Derived.Test.YtkjpiokmccnhdaaDoorOpen
import Derived.Test.YtkjpiokmccnhdaaDoorDataS
import Derived.Test.YtkjpiokmccnhdaaDoorShelfD
import Derived.ProofKit
import Derived.LaidMore
import Derived.Lay
import Derived.OpenShut
import Derived.Stop.Joined
import Derived.SevenTiedAt
import Derived.HandedShaped
import Derived.ChangeMaps5
import Derived.Lib.LaidTab
import Derived.Stop.LaidErr
import Derived.Lib.AppendIntMem
import Derived.Test.YtkjpiokmccnhdaaDoorWalkRT
import Derived.Test.YtkjpiokmccnhdaaDoorWalkE
namespace Go.Proofs.YtkjpiokmccnhdaaDoor
open Go.RowKit
set_option linter.unusedVariables false
set_option linter.unusedSimpArgs false

/-- The kit's wrap for what a row lists, with the world's shape kept besides. -/
theorem wrap_listed_shaped {H : Type} {enc : TypeId × Value → H} {a : Assume} {C : Checked} {os : Os} {f : FuncId} {fn : Func} {s : ChangeSpec} {conds : List PathCond} {apart fresh handsOn again : Bool} {X : World → Array Value → Prop}
    (hX : ∀ (w w' : World) (args : Array Value), w.heap = w'.heap → X w args → X w' args)
    (own : ownKnob C.prog.godebug = none) (started : os.Started) (noInit : C.prog.inits.idxOf? f = none) (hfn : C.prog.funcs[f]? = some fn)
    (witness : ∃ (w : World) (tape : Tape) (i : Input), w.os = os ∧ (w.forCall tape i).Shaped C.prog ∧ i.vars = [] ∧ Input.okWide C.prog (w.forCall tape i) .any w.heap.size f i ∧
      ((s.pre enc C.prog fn conds apart (w.forCall tape i).memory i.args ∧ X (w.forCall tape i).memory i.args) ∧ sizedMet enc C.prog fn (OpenSpec.ofChange s) apart (w.forCall tape i).memory i.args) ∧ a.holds C.prog (lone (Frame.enter C.prog f i.args .normal) [] (w.forCall tape i)))
    (contract : ∀ (W : World) (base : Nat) (args : Array Value) (ds gs : List (DataW H)) (before : List MemPlace),
      (∀ (j : Nat) t v, fn.params[j]? = some t → args[j]? = some v → Value.okWide C.prog W .any base t v) →
      DataW.Whole enc C.prog fn.params.toList s.vars apart W args.toList ds gs before → X W args → W.ShapedOpen C.prog →
      Calls C.prog f args W fun e W' => ∃ v, e = .returned v ∧ s.post enc C.prog fn apart fresh handsOn again W args v W') :
    ReturnsInHanded a C os f .any (fun w args => (s.pre enc C.prog fn conds apart w args ∧ X w args) ∧ sizedMet enc C.prog fn (OpenSpec.ofChange s) apart w args) (s.post enc C.prog fn apart fresh handsOn again) := by
  refine returnsInHanded_of_calls own started noInit witness ?_
  intro w tape i _ hsh _ hok hpre _
  obtain ⟨_, _, _, fn', hfn', _, _, _, _, hval⟩ := hok
  obtain rfl : fn' = fn := Option.some.inj (hfn'.symm.trans hfn)
  obtain ⟨⟨⟨ds, gs, before, hw, _⟩, hx⟩, _⟩ := hpre
  refine (contract (w.forCall tape i) w.heap.size i.args ds gs before hval (DataW.Whole.of_heap (w' := w.forCall tape i) (by rfl) hw) (hX _ _ _ (by rfl) hx) hsh).mono fun e W' ⟨v, he, hp⟩ => ?_
  subst he
  exact ChangeSpec.post_blind hp

theorem tabs_of {W : World} (h : laidMet Tryd.prog [("math/bits.deBruijn32tab", Rows.laid_math_bits_deBruijn32tab), ("math/bits.deBruijn64tab", Rows.laid_math_bits_deBruijn64tab), ("internal/strconv.uint64pow10", Rows.laid_internal_strconv_uint64pow10), ("unicode/utf8.acceptRanges", Rows.laid_unicode_utf8_acceptRanges), ("strconv.ErrRange", Rows.laid_strconv_ErrRange), ("strconv.ErrSyntax", Rows.laid_strconv_ErrSyntax), ("unicode/utf8.first", Rows.laid_unicode_utf8_first)] W) (hsh : W.ShapedOpen Tryd.prog) : Tabs W := by
  have htab : Lib.TabIs Tryd.prog W "internal/strconv.uint64pow10" .u64 Lib.pow10Tab := Lib.tabIs_of_head gPow gPowT Tryd.underlying122 Tryd.underlying85 cells64 cells20 (show laidMet Tryd.prog (("internal/strconv.uint64pow10", Lib.tabData .u64 Lib.pow10Tab) :: _) W from h.tail.tail)
  obtain ⟨a0, s0, hv0, -, -, -⟩ := laid_sentinel h.tail.tail.tail.tail gER gERT Tryd.underlying64 rowES Tryd.underlying118 Tryd.underlying120 rfl rfl Tryd.underlying9 cellsES cellsStr
  obtain ⟨a1, s1, hv1, -, -, -⟩ := laid_sentinel h.tail.tail.tail.tail.tail gES gEST Tryd.underlying64 rowES Tryd.underlying118 Tryd.underlying120 rfl rfl Tryd.underlying9 cellsES cellsStr
  exact ⟨htab, ⟨_, _, by have h0 := World.var?_cell gER hv0 0; simpa using h0⟩, ⟨_, _, by have h0 := World.var?_cell gES hv1 0; simpa using h0⟩, Tryd.laysM146.s1_3 W hsh⟩

set_option maxRecDepth 100000 in
set_option maxHeartbeats 1600000 in
theorem law_ReadTune (s : List UInt8) (w : World) (ht : Tabs w) :
    Calls Tryd.prog 4 #[txt s] w fun e w' => e = .returned (.bool true) ∧ Below w.heap.size w w' := by
  have hst := Tryd.underlying9
  have HT := Lib.hid ht.tabsB
  clear ht
  by_cases hs : s.length ≤ 1048576
  · have g1 : decide ((s.length : Int) > 1048576) = false := decide_eq_false (by omega)
    have g2 : (1048576 < s.length) = False := eq_false (by omega)
    obtain ⟨FF, CC, hspec, himpl, hFl⟩ : ∃ (FF : List (Int × Int)) (CC : Int), (∀ u, Calls Tryd.prog 10 #[txt s] u fun e w' => ∃ A' c', e = .returned (.tuple #[.slice A' FF.length c', .int .i64 CC]) ∧ Own2 .i16 .i8 55 w' u.heap.size (.slice A' FF.length c') FF ∧ Below u.heap.size u w') ∧ (∀ u, Tabs u → Calls Tryd.prog 11 #[txt s] u fun e w' => ∃ A' c', e = .returned (.tuple #[.slice A' FF.length c', .int .i64 CC]) ∧ Own2 .i16 .i8 55 w' u.heap.size (.slice A' FF.length c') FF ∧ Below u.heap.size u w') ∧ FF.length ≤ 1073741824 :=
      ⟨tL s, tC s, fun u => c_specReadTune s u hs, fun u h => c_implReadTune s u hs h, Nat.le_trans (tL_len s) (by decide)⟩
    have HSP := Lib.hid hspec
    have HIM := Lib.hid himpl
    clear hspec himpl
    go_enter Tryd.func4, Tryd.ntmps4
    have hE := eqL_self FF
    go_wp2_with fail
    refine (HSP.out _).mono ?_
    rintro e w1 ⟨A3, c3, rfl, ho, B1⟩
    have OZ1 := Lib.hid ho
    have OZH := Lib.hid (show ∀ j, (Value.slice A3 FF.length c3).ownBlock = some j → j < w1.heap.size from fun j hj => ho.high (k := j) hj)
    have LW := Lib.hid B1.size
    clear ho
    go_wp2_with fail
    refine (HIM.out _ (HT.out.on B1).here).mono ?_
    rintro e w2 ⟨A5, c5, rfl, ho, b⟩
    have OY2 := Lib.hid ho
    clear ho
    have OZ2 := Lib.hid (OZ1.out.below b)
    have B2 := bstep B1 b
    clear OZ1 b
    have NY := Lib.hid (show ∀ j, (Value.slice A5 FF.length c5).ownBlock = some j → (Value.slice A3 FF.length c3).ownBlock ≠ some j from fun j hj hj2 => by have := OZH.out j hj2; have := OY2.out.low (k := j) hj; omega)
    have LY := Lib.hid (show ∀ j, (Value.slice A5 FF.length c5).ownBlock = some j → w.heap.size ≤ j from fun j hj => Nat.le_trans LW.out (OY2.out.low hj))
    go_wp2_with fail
    refine (c_eqTune A5 A3 c5 c3 FF FF _ OY2.out.at_ OZ2.out.at_ hFl hFl).mono ?_
    rintro e w3 ⟨rfl, b⟩
    rw [hE]
    have OZ3 := Lib.hid (OZ2.out.below b)
    have OY3 := Lib.hid (OY2.out.below b)
    have B3 := bstep B2 b
    clear OZ2 OY2 b
    go_wp2_with fail
    refine (c_markTune A5 c5 FF 1 _ _ OY3.out hFl (by omega)).mono ?_
    rintro e w4 ⟨rfl, hoy, hg⟩
    have OY4 := Lib.hid hoy
    have OZ4 := Lib.hid (OZ3.out.apart hg (fun j hj hj2 => NY.out j hj2 hj))
    have B4 := bgrown B3 hg (fun j hj => LY.out j hj)
    clear hoy hg OZ3 OY3
    have hk1 : decide (((1 + 2 * FF.length : Nat) : Int) < 0) = false := decide_eq_false (by omega)
    go_wp2_with fail
    refine (c_heldTune A5 c5 FF.length 1 _ OY4.out.at_ hFl (by omega)).mono ?_
    rintro e w5 ⟨rfl, b⟩
    have OZ5 := Lib.hid (OZ4.out.below b)
    have OY5 := Lib.hid (OY4.out.below b)
    have B5 := bstep B4 b
    clear OZ4 OY4 b
    go_wp2_with fail
    refine (HIM.out _ (HT.out.on B5).here).mono ?_
    rintro e w6 ⟨A6, c6, rfl, ho, b⟩
    have OX6 := Lib.hid ho
    clear ho
    have OZ6 := Lib.hid (OZ5.out.below b)
    have OY6 := Lib.hid (OY5.out.below b)
    have B6 := bstep B5 b
    clear OZ5 OY5 b
    go_wp2_with fail
    refine (c_eqTune A6 A3 c6 c3 FF FF _ OX6.out.at_ OZ6.out.at_ hFl hFl).mono ?_
    rintro e w7 ⟨rfl, b⟩
    rw [hE]
    have OZ7 := Lib.hid (OZ6.out.below b)
    have OY7 := Lib.hid (OY6.out.below b)
    have OX7 := Lib.hid (OX6.out.below b)
    have B7 := bstep B6 b
    clear OZ6 OY6 OX6 b
    go_wp2_with fail
    refine (c_heldTune A5 c5 FF.length 1 _ OY7.out.at_ hFl (by omega)).mono ?_
    rintro e w8 ⟨rfl, b⟩
    have OZ8 := Lib.hid (OZ7.out.below b)
    have OY8 := Lib.hid (OY7.out.below b)
    have OX8 := Lib.hid (OX7.out.below b)
    have B8 := bstep B7 b
    clear OZ7 OY7 OX7 b
    go_wp2
    go_ret
    exact ⟨rfl, B8⟩
  · have g1 : decide ((s.length : Int) > 1048576) = true := decide_eq_true (by omega)
    have g2 : (1048576 < s.length) = True := eq_true (by omega)
    go_enter Tryd.func4, Tryd.ntmps4
    go_wp2
    go_ret
    exact ⟨rfl, Below.refl _ _⟩
end Go.Proofs.YtkjpiokmccnhdaaDoor
namespace Go.Proofs.YtkjpiokmccnhdaaDoor.ofReadTune
open Go.ChangeShapes Go.WideShapes Go.ChangeAt Go.RowKit
theorem own : ownKnob Tryd.prog.godebug = none := by kernel_rfl
theorem laidOut : laidOutB Tryd.prog = true := by kernel_rfl
def laid7 : List (String × DataW Unit) := Rows.fnExactReadTuneRow.laid
set_option maxRecDepth 100000 in
theorem lifted (os : Os) (started : os.Started) (H : Type) (enc : TypeId × Value → H) :
    ReturnsInHanded {} Tryd.checked os 4 .any (fun w args => (Rows.fnExactReadTuneSpec.pre enc Tryd.prog Tryd.f4 [] false w args ∧ laidMetH Tryd.prog laid7 w) ∧ sizedMet enc Tryd.prog Tryd.f4 (OpenSpec.ofChange Rows.fnExactReadTuneSpec) false w args)
      (Rows.fnExactReadTuneSpec.post enc Tryd.prog Tryd.f4 false true false false) := by
  refine wrap_listed_shaped (C := Tryd.checked) (X := fun w _ => laidMetH Tryd.prog laid7 w) (fun _ _ _ hh h => h.of_heap hh) own started (by kernel_rfl) Tryd.func4
    (ChangeSpec.witness_shaped (enc := enc) (C := Tryd.checked) (os := os) (X := fun w _ => laidMetH Tryd.prog laid7 w) false (World.laidAll Tryd.prog os laid7) #[.string ⟨#[]⟩] 8 (World.laidAll_os _ _ _)
      (World.shaped_of_ZipB (by kernel_rfl) (by kernel_rfl)) (by kernel_rfl) (by kernel_rfl) (by kernel_rfl)
      (by rw [MakeChecks.laidMetH_plain _ _ _ (by kernel_rfl)]; exact laidMet_laidAll _ (by kernel_rfl) (by kernel_rfl))) ?_
  intro W base args ds gs before hval0 hW hL hsh
  have hval : ∀ (j : Nat) t v, Tryd.f4.params[j]? = some t → args[j]? = some v → Value.okWide Tryd.prog W .any base t v := hval0
  have hW' := hW
  have hlt := fun p (hp : p ∈ before) => hW.lt p hp
  obtain ⟨p, q, hA0, hV, rfl, hfz, hnd⟩ := hW
  have hA : DataW.TrodAll enc Tryd.prog W 0 (fun _ => true) true Tryd.f4.params.toList args.toList ds p := hA0
  obtain ⟨rfl, rfl⟩ := trodVars_none hV
  simp only [List.append_nil] at hlt hW'
  have hback := fun W' hb => trodAll_below (W' := W') laidOut hb (by rw [Tryd.params4]; decide +kernel) hlt hA
  rw [Tryd.params4] at hA hval
  obtain ⟨v0, vs0, d0, ds0, p0, q0, hargs, rfl, rfl, h0, r0⟩ := trodAll_cons hA
  obtain ⟨rfl, rfl, rfl⟩ := trodAll_nil r0
  obtain rfl : args = #[v0] := by cases args; simp_all
  obtain ⟨s0, rfl, rfl, rfl, wfs⟩ := Go.ChangeMaps.open_string Tryd.underlying9 (hval 0 _ _ rfl rfl) h0
  obtain ⟨s, rfl⟩ : ∃ l : List UInt8, s0 = ⟨l.toArray⟩ := ⟨s0.data.toList, by cases s0; simp⟩
  have hL3 : laidMet Tryd.prog (Rows.fnExactReadTuneRow.laid) W := by
    rw [← MakeChecks.laidMetH_plain _ _ _ (by kernel_rfl)]; exact hL
  refine (law_ReadTune s W (tabs_of (show laidMet Tryd.prog [("math/bits.deBruijn32tab", Rows.laid_math_bits_deBruijn32tab), ("math/bits.deBruijn64tab", Rows.laid_math_bits_deBruijn64tab), ("internal/strconv.uint64pow10", Rows.laid_internal_strconv_uint64pow10), ("unicode/utf8.acceptRanges", Rows.laid_unicode_utf8_acceptRanges), ("strconv.ErrRange", Rows.laid_strconv_ErrRange), ("strconv.ErrSyntax", Rows.laid_strconv_ErrSyntax), ("unicode/utf8.first", Rows.laid_unicode_utf8_first)] W from hL3) hsh)).mono fun e W' ⟨he, bel⟩ => ?_
  subst he
  exact ⟨_, rfl, _, _, _, [], _, [], hW', trodAll_mk1 (shut_bool Tryd.underlying4 _), hback W' bel, rfl, bel.frame _, fun h => by cases h⟩
theorem over : Rows.fnExactReadTuneRow.holds Tryd.pinned (OpenSpec.ofChange Rows.fnExactReadTuneSpec) :=
  OpenClaim.holds_of_wide 4 Tryd.f4 rfl rfl rfl rfl rfl rfl rfl ⟨rfl, rfl, rfl, rfl, rfl⟩ rfl rfl rfl rfl rfl (by kernel_rfl) Tryd.func4 (by kernel_rfl)
    (of_decide_eq_true (by kernel_rfl)) (by unfold Func.isWrapper; first | (rw [if_pos (by decide +kernel)]; kernel_rfl) | (rw [if_neg (by decide +kernel)]; exact ⟨rfl, rfl⟩))
    (fun os started H enc _ => lifted os started H enc)
theorem card : Rows.FnExactReadTuneCardSaid :=
  Claim7.holds_tied_plain_at .later [] [.data, .data, .data, .data, .sentinel, .sentinel, .pinned] true (true, "372ade598f50b72169eca84fd63f028f2abef8ad6bc77edf02b293c8f4700de0") true
    over (fun _ h => by cases h) (by kernel_rfl) (fun _ h => by cases h) fnExactReadTune_row_tie rfl ⟨rfl, rfl⟩ (by kernel_rfl) rfl
    (fun f fn hf hfn => by
      obtain rfl : f = 4 := Option.some.inj ((show Tryd.prog.funcNamed "loop.example/g01311/laws.FnExactReadTune" = some 4 by kernel_rfl).symm.trans hf) |>.symm
      obtain rfl : fn = Tryd.f4 := (Option.some.inj (Tryd.func4.symm.trans hfn)).symm
      exact ⟨by kernel_rfl, fun j t ht => by
        rw [Tryd.params4] at ht
        have hm : t ∈ [9] := by simpa using Array.mem_of_getElem? ht
        have hall : ([9].all fun u => !Tryd.prog.wantsStandIn u) = true := by kernel_rfl
        exact (show Tryd.prog.wantsStandIn t = false by simpa using List.all_eq_true.1 hall t hm)⟩)
    (by kernel_rfl)
end Go.Proofs.YtkjpiokmccnhdaaDoor.ofReadTune
namespace Go.Proofs.YtkjpiokmccnhdaaDoor
theorem fnExactReadTuneCard_holds : Rows.FnExactReadTuneCardSaid := ofReadTune.card
#print axioms fnExactReadTuneCard_holds
end Go.Proofs.YtkjpiokmccnhdaaDoor
