/-
  The statement FnTunesCardSaid: whatever bytes are given, the law's call returns true, and the bytes read as they did: what is said of tunes that are moved, transposed, played backward, cut, put together, inverted, stretched, made and read from their texts holds. What the row lists is tied to the program's text by the given tie.
-/
import Derived.Test.YtbdopmcjoncelaaGreatDoorRows
import Derived.Test.YtbdopmcjoncelaaGreatDoorCards
import Derived.Test.YtbdopmcjoncelaaGreatDoorTie
import Derived.Test.YtbdopmcjoncelaaGreatDoorOpen
import Derived.Test.YtbdopmcjoncelaaGreatDoorDataS
import Derived.Test.YtbdopmcjoncelaaGreatDoorShelfD
import Derived.ProofKit
import Derived.LaidMore
import Derived.Lay
import Derived.OpenShut
import Derived.Stop.Joined
import Derived.SevenTiedAt
import Derived.HandedShaped
import Derived.ChangeMaps5
import Derived.Lib.LaidTab
import Derived.Stop.LaidErr
import Derived.Lib.AppendIntMem
import Derived.Test.YtbdopmcjoncelaaGreatDoorOpenB
import Derived.Test.YtbdopmcjoncelaaGreatDoorPureW
import Derived.Test.YtbdopmcjoncelaaGreatDoorPure
import Derived.Test.YtbdopmcjoncelaaGreatDoorWalkSR
import Derived.Test.YtbdopmcjoncelaaGreatDoorWalkN
import Derived.Test.YtbdopmcjoncelaaGreatDoorWalkV
import Derived.Test.YtbdopmcjoncelaaGreatDoorWalkF
import Derived.Test.YtbdopmcjoncelaaGreatDoorWalkX
import Derived.Test.YtbdopmcjoncelaaGreatDoorWalkQ
import Derived.Test.YtbdopmcjoncelaaGreatDoorWalkY
import Derived.Test.YtbdopmcjoncelaaGreatDoorWalkE
import Derived.Test.YtbdopmcjoncelaaGreatDoorData
import Derived.Test.YtbdopmcjoncelaaGreatDoorWalkD
namespace Go.Proofs.YtbdopmcjoncelaaGreatDoor
open Go.RowKit
set_option linter.unusedVariables false
set_option linter.unusedSimpArgs false

/-- The kit's wrap for what a row lists, with the world's shape kept besides. -/
theorem wrap_listed_shaped {H : Type} {enc : TypeId × Value → H} {a : Assume} {C : Checked} {os : Os} {f : FuncId} {fn : Func} {s : ChangeSpec} {conds : List PathCond} {apart fresh handsOn again : Bool} {X : World → Array Value → Prop}
    (hX : ∀ (w w' : World) (args : Array Value), w.heap = w'.heap → X w args → X w' args)
    (own : ownKnob C.prog.godebug = none) (started : os.Started) (noInit : C.prog.inits.idxOf? f = none) (hfn : C.prog.funcs[f]? = some fn)
    (witness : ∃ (w : World) (tape : Tape) (i : Input), w.os = os ∧ (w.forCall tape i).Shaped C.prog ∧ i.vars = [] ∧ Input.okWide C.prog (w.forCall tape i) .any w.heap.size f i ∧
      ((s.pre enc C.prog fn conds apart (w.forCall tape i).memory i.args ∧ X (w.forCall tape i).memory i.args) ∧ sizedMet enc C.prog fn (OpenSpec.ofChange s) apart (w.forCall tape i).memory i.args) ∧ a.holds C.prog (lone (Frame.enter C.prog f i.args .normal) [] (w.forCall tape i)))
    (contract : ∀ (W : World) (base : Nat) (args : Array Value) (ds gs : List (DataW H)) (before : List MemPlace),
      (∀ (j : Nat) t v, fn.params[j]? = some t → args[j]? = some v → Value.okWide C.prog W .any base t v) →
      DataW.Whole enc C.prog fn.params.toList s.vars apart W args.toList ds gs before → X W args → W.ShapedOpen C.prog →
      Calls C.prog f args W fun e W' => ∃ v, e = .returned v ∧ s.post enc C.prog fn apart fresh handsOn again W args v W') :
    ReturnsInHanded a C os f .any (fun w args => (s.pre enc C.prog fn conds apart w args ∧ X w args) ∧ sizedMet enc C.prog fn (OpenSpec.ofChange s) apart w args) (s.post enc C.prog fn apart fresh handsOn again) := by
  refine returnsInHanded_of_calls own started noInit witness ?_
  intro w tape i _ hsh _ hok hpre _
  obtain ⟨_, _, _, fn', hfn', _, _, _, _, hval⟩ := hok
  obtain rfl : fn' = fn := Option.some.inj (hfn'.symm.trans hfn)
  obtain ⟨⟨⟨ds, gs, before, hw, _⟩, hx⟩, _⟩ := hpre
  refine (contract (w.forCall tape i) w.heap.size i.args ds gs before hval (DataW.Whole.of_heap (w' := w.forCall tape i) (by rfl) hw) (hX _ _ _ (by rfl) hx) hsh).mono fun e W' ⟨v, he, hp⟩ => ?_
  subst he
  exact ChangeSpec.post_blind hp

theorem tabs_of {W : World} (h : laidMet Tryz.prog [("math/bits.deBruijn32tab", Rows.laid_math_bits_deBruijn32tab), ("math/bits.deBruijn64tab", Rows.laid_math_bits_deBruijn64tab), ("internal/strconv.uint64pow10", Rows.laid_internal_strconv_uint64pow10), ("unicode/utf8.acceptRanges", Rows.laid_unicode_utf8_acceptRanges), ("strconv.ErrRange", Rows.laid_strconv_ErrRange), ("strconv.ErrSyntax", Rows.laid_strconv_ErrSyntax), ("unicode/utf8.first", Rows.laid_unicode_utf8_first)] W) (hsh : W.ShapedOpen Tryz.prog) : Tabs W := by
  have htab : Lib.TabIs Tryz.prog W "internal/strconv.uint64pow10" .u64 Lib.pow10Tab := Lib.tabIs_of_head gPow gPowT Tryz.underlying152 Tryz.underlying73 cells64 cells20 (show laidMet Tryz.prog (("internal/strconv.uint64pow10", Lib.tabData .u64 Lib.pow10Tab) :: _) W from h.tail.tail)
  obtain ⟨a0, s0, hv0, -, -, -⟩ := laid_sentinel h.tail.tail.tail.tail gER gERT Tryz.underlying78 rowES Tryz.underlying165 Tryz.underlying167 rfl rfl Tryz.underlying9 cellsES cellsStr
  obtain ⟨a1, s1, hv1, -, -, -⟩ := laid_sentinel h.tail.tail.tail.tail.tail gES gEST Tryz.underlying78 rowES Tryz.underlying165 Tryz.underlying167 rfl rfl Tryz.underlying9 cellsES cellsStr
  exact ⟨htab, ⟨_, _, by have h0 := World.var?_cell gER hv0 0; simpa using h0⟩, ⟨_, _, by have h0 := World.var?_cell gES hv1 0; simpa using h0⟩, Tryz.laysM146.s1_3 W hsh⟩

set_option maxRecDepth 100000 in
set_option maxHeartbeats 8000000 in
theorem law_Tunes (A B : Option Addr) (c d : Nat) (code more : List Int) (w : World) (h1 : At1 .u8 w A code) (h2 : At1 .u8 w B more) (hc1 : ∀ x ∈ code, 0 ≤ x ∧ x ≤ 255) (hc2 : ∀ x ∈ more, 0 ≤ x ∧ x ≤ 255) (htab : Tabs w) :
    Calls Tryz.prog 3 #[.slice A code.length c, .slice B more.length d] w fun e w' => e = .returned (.bool true) ∧ Below w.heap.size w w' := by
  have HTB := Lib.hid htab.tabsB
  have HC1 := Lib.hid hc1
  have HC2 := Lib.hid hc2
  have H2 := Lib.hid h2
  clear htab hc1 hc2 h2
  rcases hlong : (decide (3000 < code.length) || decide (3000 < more.length)) with _ | _
  · have hl1 : code.length ≤ 3000 := by simp at hlong; omega
    have hl2 : more.length ≤ 3000 := by simp at hlong; omega
    go_enter Tryz.func3, Tryz.ntmps3
    go_wp2_with fail
    refine (c_a2Long A B c d code.length more.length _).mono ?_
    rintro e w' ⟨rfl, rfl⟩
    rw [hlong]
    clear hlong
    go_wp2_with fail
    refine (c_A2Tune A c code _ h1 HC1.out (by omega)).mono ?_
    rintro e w1 ⟨gt, cT, t, rfl, hdt, ot, BC⟩
    have HT := Lib.hid ot.at_
    clear ot
    have HDT := Lib.hid hdt
    have HOT := Lib.hid hdt.1
    have ht : t.length ≤ 1073741824 := by have := hdt.2.1; omega
    have HWT := Lib.hid (wf_of_okN (fun x hx => okN_of_okT hdt.1 hx))
    have hd9 := hdt.2.1
    clear hdt
    have HRT := Lib.hid (tL_rTT HOT.out)
    have HRL := Lib.hid (rTT_len HOT.out)
    obtain ⟨TT, hTT⟩ : ∃ x, rTT t = x := ⟨_, rfl⟩
    rw [hTT] at HRT HRL
    have HTT := Lib.hid hTT
    clear hTT
    go_wp2_with fail
    refine (c_implTuneText (some ⟨gt, 0, none⟩) cT t _ HT.out HWT.out ht (Lib.tabBelow_of_tabIs (HTB.out.on BC).here.pow)).mono ?_
    rintro e w2 ⟨rfl, b⟩
    rw [HTT.out]
    replace HT := Lib.hid (HT.out.below b)
    replace BC := bstep BC b
    clear b
    go_wp2_with fail
    refine (c_implReadTune TT _ (by have := HRL.out; omega) (HTB.out.on BC).here).mono ?_
    rintro e w3 ⟨AB, cB, rfl, o, b⟩
    rw [HRT.out.1] at o ⊢
    rw [HRT.out.2]
    have ha := o.at_
    clear o
    replace HT := Lib.hid (HT.out.below b)
    replace BC := bstep BC b
    clear b
    have HB := Lib.hid ha
    clear ha
    go_wp2_with fail
    refine (c_a2At B d more 0 20 _ (H2.out.below BC) HC2.out (by decide)).mono ?_
    rintro e wx ⟨r, rfl, hrr, rfl⟩
    have hneg : IntKind.i64.wrap (-r) = -r := IntWalk.i64_in _ (by omega)
    have hrb : -9223372036854775808 ≤ r ∧ r ≤ 9223372036854775807 := by omega
    have hrc : -9223372036854775808 ≤ -r ∧ -r ≤ 9223372036854775807 := by omega
    have hf := move_facts HDT.out hrr
    obtain ⟨D, hDd⟩ : ∃ x, t.map (addG r 0) = x := ⟨_, rfl⟩
    rw [hDd] at hf
    have HWD := Lib.hid (wf_of_okN (fun x hx => okN_of_okT (hf.2.1) hx))
    have hD : D.length ≤ 1073741824 := by have := okT_len (hf.2.1); omega
    have HFD := Lib.hid hf
    clear hf hDd
    have hf := trans_facts HDT.out hrr
    obtain ⟨E, hEd⟩ : ∃ x, t.map (addG 0 r) = x := ⟨_, rfl⟩
    rw [hEd] at hf
    have HWE := Lib.hid (wf_of_okN (fun x hx => okN_of_okT (hf.2.1) hx))
    have hE : E.length ≤ 1073741824 := by have := okT_len (hf.2.1); omega
    have HFE := Lib.hid hf
    clear hf hEd
    go_wp2_with fail
    refine (c_implMoveTune (some ⟨gt, 0, none⟩) cT t r _ HT.out HWT.out ht hrb).mono ?_
    rintro e w4 ⟨v, rfl, o, b⟩
    obtain ⟨AM1, cM1, rfl, hx, ha⟩ := o.reads
    clear hx
    rw [HFD.out.1.2] at ha ⊢
    rw [HFD.out.1.1]
    clear o
    replace HT := Lib.hid (HT.out.below b)
    replace HB := Lib.hid (HB.out.below b)
    replace BC := bstep BC b
    clear b
    have HM1 := Lib.hid ha
    clear ha
    go_wp2_with fail
    refine (c_specMoveTune (some ⟨gt, 0, none⟩) cT t r _ HT.out HWT.out ht hrb).mono ?_
    rintro e w5 ⟨v, rfl, o, b⟩
    obtain ⟨AM2, cM2, rfl, hx, ha⟩ := o.reads
    clear hx
    rw [HFD.out.1.2] at ha ⊢
    rw [HFD.out.1.1]
    clear o
    replace HT := Lib.hid (HT.out.below b)
    replace HB := Lib.hid (HB.out.below b)
    replace HM1 := Lib.hid (HM1.out.below b)
    replace BC := bstep BC b
    clear b
    have HM2 := Lib.hid ha
    clear ha
    go_wp2_with fail
    refine (c_implMoveTune AM2 cM2 D (-r) _ HM2.out HWD.out hD hrc).mono ?_
    rintro e w6 ⟨v, rfl, o, b⟩
    obtain ⟨AM3, cM3, rfl, hx, ha⟩ := o.reads
    clear hx
    rw [HFD.out.2.2.2] at ha ⊢
    rw [HFD.out.2.2.1]
    clear o
    replace HT := Lib.hid (HT.out.below b)
    replace HB := Lib.hid (HB.out.below b)
    replace HM1 := Lib.hid (HM1.out.below b)
    replace HM2 := Lib.hid (HM2.out.below b)
    replace BC := bstep BC b
    clear b
    have HM3 := Lib.hid ha
    clear ha
    go_wp2_with fail
    refine (c_implTranspose (some ⟨gt, 0, none⟩) cT t r _ HT.out HWT.out ht hrb).mono ?_
    rintro e w7 ⟨v, rfl, o, b⟩
    obtain ⟨AP1, cP1, rfl, hx, ha⟩ := o.reads
    clear hx
    rw [HFE.out.1.2] at ha ⊢
    rw [HFE.out.1.1]
    clear o
    replace HT := Lib.hid (HT.out.below b)
    replace HB := Lib.hid (HB.out.below b)
    replace HM1 := Lib.hid (HM1.out.below b)
    replace HM2 := Lib.hid (HM2.out.below b)
    replace HM3 := Lib.hid (HM3.out.below b)
    replace BC := bstep BC b
    clear b
    have HP1 := Lib.hid ha
    clear ha
    go_wp2_with fail
    refine (c_specTranspose (some ⟨gt, 0, none⟩) cT t r _ HT.out HWT.out ht hrb).mono ?_
    rintro e w8 ⟨v, rfl, o, b⟩
    obtain ⟨AP2, cP2, rfl, hx, ha⟩ := o.reads
    clear hx
    rw [HFE.out.1.2] at ha ⊢
    rw [HFE.out.1.1]
    clear o
    replace HT := Lib.hid (HT.out.below b)
    replace HB := Lib.hid (HB.out.below b)
    replace HM1 := Lib.hid (HM1.out.below b)
    replace HM2 := Lib.hid (HM2.out.below b)
    replace HM3 := Lib.hid (HM3.out.below b)
    replace HP1 := Lib.hid (HP1.out.below b)
    replace BC := bstep BC b
    clear b
    have HP2 := Lib.hid ha
    clear ha
    go_wp2_with fail
    refine (c_implTranspose AP2 cP2 E (-r) _ HP2.out HWE.out hE hrc).mono ?_
    rintro e w9 ⟨v, rfl, o, b⟩
    obtain ⟨AP3, cP3, rfl, hx, ha⟩ := o.reads
    clear hx
    rw [HFE.out.2.2.2] at ha ⊢
    rw [HFE.out.2.2.1]
    clear o
    replace HT := Lib.hid (HT.out.below b)
    replace HB := Lib.hid (HB.out.below b)
    replace HM1 := Lib.hid (HM1.out.below b)
    replace HM2 := Lib.hid (HM2.out.below b)
    replace HM3 := Lib.hid (HM3.out.below b)
    replace HP1 := Lib.hid (HP1.out.below b)
    replace HP2 := Lib.hid (HP2.out.below b)
    replace BC := bstep BC b
    clear b
    have HP3 := Lib.hid ha
    clear ha
    go_wp2_with fail
    refine (c_implSameTune AB (some ⟨gt, 0, none⟩) cB cT t t _ HB.out HT.out ht ht).mono ?_
    rintro e w10 ⟨rfl, b⟩
    rw [eqL_self]
    replace HT := Lib.hid (HT.out.below b)
    replace HB := Lib.hid (HB.out.below b)
    replace HM1 := Lib.hid (HM1.out.below b)
    replace HM2 := Lib.hid (HM2.out.below b)
    replace HM3 := Lib.hid (HM3.out.below b)
    replace HP1 := Lib.hid (HP1.out.below b)
    replace HP2 := Lib.hid (HP2.out.below b)
    replace HP3 := Lib.hid (HP3.out.below b)
    replace BC := bstep BC b
    clear b
    go_wp2_with fail
    refine (c_specSameTune AB (some ⟨gt, 0, none⟩) cB cT t t _ HB.out HT.out ht ht).mono ?_
    rintro e w11 ⟨rfl, b⟩
    rw [eqL_self]
    replace HT := Lib.hid (HT.out.below b)
    replace HB := Lib.hid (HB.out.below b)
    replace HM1 := Lib.hid (HM1.out.below b)
    replace HM2 := Lib.hid (HM2.out.below b)
    replace HM3 := Lib.hid (HM3.out.below b)
    replace HP1 := Lib.hid (HP1.out.below b)
    replace HP2 := Lib.hid (HP2.out.below b)
    replace HP3 := Lib.hid (HP3.out.below b)
    replace BC := bstep BC b
    clear b
    go_wp2_with fail
    refine (c_ValidTune (some ⟨gt, 0, none⟩) cT t _ HT.out HWT.out ht).mono ?_
    rintro e w12 ⟨rfl, b⟩
    rw [HOT.out]
    replace HT := Lib.hid (HT.out.below b)
    replace HB := Lib.hid (HB.out.below b)
    replace HM1 := Lib.hid (HM1.out.below b)
    replace HM2 := Lib.hid (HM2.out.below b)
    replace HM3 := Lib.hid (HM3.out.below b)
    replace HP1 := Lib.hid (HP1.out.below b)
    replace HP2 := Lib.hid (HP2.out.below b)
    replace HP3 := Lib.hid (HP3.out.below b)
    replace BC := bstep BC b
    clear b
    go_wp2_with fail
    refine (c_specSameTune AM1 AM2 cM1 cM2 D D _ HM1.out HM2.out hD hD).mono ?_
    rintro e w13 ⟨rfl, b⟩
    rw [eqL_self]
    replace HT := Lib.hid (HT.out.below b)
    replace HB := Lib.hid (HB.out.below b)
    replace HM1 := Lib.hid (HM1.out.below b)
    replace HM2 := Lib.hid (HM2.out.below b)
    replace HM3 := Lib.hid (HM3.out.below b)
    replace HP1 := Lib.hid (HP1.out.below b)
    replace HP2 := Lib.hid (HP2.out.below b)
    replace HP3 := Lib.hid (HP3.out.below b)
    replace BC := bstep BC b
    clear b
    go_wp2_with fail
    refine (c_specSameTune AM3 (some ⟨gt, 0, none⟩) cM3 cT t t _ HM3.out HT.out ht ht).mono ?_
    rintro e w14 ⟨rfl, b⟩
    rw [eqL_self]
    replace HT := Lib.hid (HT.out.below b)
    replace HB := Lib.hid (HB.out.below b)
    replace HM1 := Lib.hid (HM1.out.below b)
    replace HM2 := Lib.hid (HM2.out.below b)
    replace HM3 := Lib.hid (HM3.out.below b)
    replace HP1 := Lib.hid (HP1.out.below b)
    replace HP2 := Lib.hid (HP2.out.below b)
    replace HP3 := Lib.hid (HP3.out.below b)
    replace BC := bstep BC b
    clear b
    go_wp2_with fail
    refine (c_specSameTune AP1 AP2 cP1 cP2 E E _ HP1.out HP2.out hE hE).mono ?_
    rintro e w15 ⟨rfl, b⟩
    rw [eqL_self]
    replace HT := Lib.hid (HT.out.below b)
    replace HB := Lib.hid (HB.out.below b)
    replace HM1 := Lib.hid (HM1.out.below b)
    replace HM2 := Lib.hid (HM2.out.below b)
    replace HM3 := Lib.hid (HM3.out.below b)
    replace HP1 := Lib.hid (HP1.out.below b)
    replace HP2 := Lib.hid (HP2.out.below b)
    replace HP3 := Lib.hid (HP3.out.below b)
    replace BC := bstep BC b
    clear b
    go_wp2_with fail
    refine (c_specSameTune AP3 (some ⟨gt, 0, none⟩) cP3 cT t t _ HP3.out HT.out ht ht).mono ?_
    rintro e w16 ⟨rfl, b⟩
    rw [eqL_self]
    replace HT := Lib.hid (HT.out.below b)
    replace HB := Lib.hid (HB.out.below b)
    replace HM1 := Lib.hid (HM1.out.below b)
    replace HM2 := Lib.hid (HM2.out.below b)
    replace HM3 := Lib.hid (HM3.out.below b)
    replace HP1 := Lib.hid (HP1.out.below b)
    replace HP2 := Lib.hid (HP2.out.below b)
    replace HP3 := Lib.hid (HP3.out.below b)
    replace BC := bstep BC b
    clear b
    go_upto_region 14 with fail
    clear HB HM1 HM2 HM3 HP1 HP2 HP3
    clear HFD HFE HWD HWE hD hE hneg hrb hrc hrr HRT HRL HTT
    have hf := back_facts HOT.out
    obtain ⟨O, hO0⟩ : ∃ x, rBack t = x := ⟨_, rfl⟩
    have HOD := Lib.hid hO0
    rw [hO0] at hf
    obtain ⟨G, hG0⟩ : ∃ x, rBack O = x := ⟨_, rfl⟩
    have HGD := Lib.hid hG0
    rw [hG0] at hf
    have HWO := Lib.hid (wf_of_okN (fun x hx => okN_of_okT (hf.2.1) hx))
    have hO : O.length ≤ 1073741824 := by have := okT_len (hf.2.1); omega
    have HWG := Lib.hid (wf_of_okN (fun x hx => okN_of_okT (hf.2.2.2.2.1) hx))
    have hG : G.length ≤ 1073741824 := by have := okT_len (hf.2.2.2.2.1); omega
    have HOO := Lib.hid hf.2.1
    have HFB := Lib.hid hf
    have HOL := Lib.hid hf.2.2.1
    clear hf hO0 hG0
    go_wp2_with fail
    refine (c_implBackward (some ⟨gt, 0, none⟩) cT t _ HT.out HWT.out ht).mono ?_
    rintro e w17 ⟨v, rfl, o, b⟩
    obtain ⟨AR1, cR1, rfl, hx, ha⟩ := o.reads
    clear hx
    rw [HOD.out] at ha ⊢
    rw [HFB.out.1]
    clear o
    replace HT := Lib.hid (HT.out.below b)
    replace BC := bstep BC b
    clear b
    have HR1 := Lib.hid ha
    clear ha
    go_wp2_with fail
    refine (c_specBackward (some ⟨gt, 0, none⟩) cT t _ HT.out HWT.out ht).mono ?_
    rintro e w18 ⟨v, rfl, o, b⟩
    obtain ⟨AO1, cO1, rfl, hx, ha⟩ := o.reads
    clear hx
    rw [HOD.out] at ha ⊢
    rw [HFB.out.1]
    clear o
    replace HT := Lib.hid (HT.out.below b)
    replace HR1 := Lib.hid (HR1.out.below b)
    replace BC := bstep BC b
    clear b
    have HO1 := Lib.hid ha
    clear ha
    go_wp2_with fail
    refine (c_implBackward AO1 cO1 O _ HO1.out HWO.out hO).mono ?_
    rintro e w19 ⟨v, rfl, o, b⟩
    obtain ⟨AG1, cG1, rfl, hx, ha⟩ := o.reads
    clear hx
    rw [HGD.out] at ha ⊢
    rw [HFB.out.2.2.2.1]
    clear o
    replace HT := Lib.hid (HT.out.below b)
    replace HR1 := Lib.hid (HR1.out.below b)
    replace HO1 := Lib.hid (HO1.out.below b)
    replace BC := bstep BC b
    clear b
    have HG1 := Lib.hid ha
    clear ha
    have HFL := Lib.hid (len_facts HDT.out)
    obtain ⟨Ln, hLn⟩ : ∃ x, lengthL t = x := ⟨_, rfl⟩
    rw [hLn] at HFL
    have HLN := Lib.hid hLn
    clear hLn
    go_wp2_with fail
    refine (c_implLengthOf (some ⟨gt, 0, none⟩) cT t _ HT.out HWT.out ht).mono ?_
    rintro e w20 ⟨rfl, b⟩
    rw [HFL.out.1, HFL.out.2.1]
    replace HT := Lib.hid (HT.out.below b)
    replace HR1 := Lib.hid (HR1.out.below b)
    replace HO1 := Lib.hid (HO1.out.below b)
    replace HG1 := Lib.hid (HG1.out.below b)
    replace BC := bstep BC b
    clear b
    go_upto_region 18 with fail
    go_cut [241] from 196 to 241 (fun s w' => s = .bool false ∧ Below w20.heap.size w20 w')
    case first => as_aux_lemma =>
      by_cases hp : 0 < t.length
      · have g1 : decide ((t.length : Int) > 0) = true := decide_eq_true (by omega)
        have g2 : (0 < t.length) = True := eq_true hp
        obtain ⟨bb, off, hab, hbl, hcc⟩ := HT.out.get hp
        simp only [Option.some.injEq, Addr.mk.injEq] at hab
        obtain ⟨rfl, rfl, _⟩ := hab
        obtain ⟨q, hq⟩ : ∃ q, t[0].1 = q := ⟨_, rfl⟩
        have HX1 := Lib.hid (show w20.cell? ⟨gt, 0, none⟩ = some (.int .i16 q) by have := (hcc 0 hp).1; rw [hq] at this; simpa using this)
        have HQ := Lib.hid hq
        clear hcc hq
        have HBL := Lib.hid hbl
        clear hbl
        go_wp2_with fail
        refine (c_specSameTune AR1 AO1 cR1 cO1 O O _ HR1.out HO1.out hO hO).mono ?_
        rintro e wy ⟨rfl, b⟩
        rw [eqL_self]
        have ho1 : ((O.length : Int) == (t.length : Int)) = true := by rw [HOL.out]; simp
        have ho2 : ((O.length : Int) = (t.length : Int)) = True := eq_true (by rw [HOL.out])
        have x1 := (b.cell (show (⟨gt, 0, none⟩ : Addr).block < w20.heap.size from HBL.out)).trans HX1.out
        by_cases hz : q = 0
        · have HGT := Lib.hid (show G = t from (HFB.out.2.2.2.2.2.resolve_left (by rintro rfl; simp at hp)) hp (by rw [HQ.out]; exact hz))
          subst hz
          go_wp2_with fail
          refine (c_specSameTune AG1 (some ⟨gt, 0, none⟩) cG1 cT G t _ (HG1.out.below b) (HT.out.below b) hG ht).mono ?_
          rintro e wz ⟨rfl, b2⟩
          rw [show eqL G t = true by rw [HGT.out, eqL_self]]
          go_wp2
          go_meet
          case rel => exact ⟨by rw [HOL.out]; simp, bstep b b2⟩
        · have g3 : (q == 0) = false := by simpa using hz
          have g4 : (q = 0) = False := eq_false hz
          clear hz
          go_wp2
          go_meet
          case rel => exact ⟨by rw [HOL.out]; simp, b⟩
      · have g1 : decide ((t.length : Int) > 0) = false := decide_eq_false (by omega)
        have g2 : (0 < t.length) = False := eq_false hp
        go_wp2_with fail
        refine (c_specSameTune AR1 AO1 cR1 cO1 O O _ HR1.out HO1.out hO hO).mono ?_
        rintro e wy ⟨rfl, b⟩
        rw [eqL_self]
        have ho1 : ((O.length : Int) == (t.length : Int)) = true := by rw [HOL.out]; simp
        have ho2 : ((O.length : Int) = (t.length : Int)) = True := eq_true (by rw [HOL.out])
        go_wp2
        go_meet
        case rel => exact ⟨by rw [HOL.out]; simp, b⟩
    obtain ⟨w21, rfl⟩ : ∃ x, x = wc := ⟨_, rfl⟩
    obtain ⟨rfl, b⟩ := hcut
    replace HT := Lib.hid (HT.out.below b)
    replace HO1 := Lib.hid (HO1.out.below b)
    replace BC := bstep BC b
    clear b HR1 HG1
    clear HGD HWG hG
    have hw1 : IntKind.i64.wrap (Ln + 1) = Ln + 1 := IntWalk.i64_in _ (by have := HFL.out.2.2; omega)
    go_wp2_with fail
    refine (c_a2At B d more 1 (Ln + 1) _ (H2.out.below BC) HC2.out (by have := HFL.out.2.2; omega)).mono ?_
    rintro e wx ⟨a, rfl, hra, rfl⟩
    have ha0 : 0 ≤ a ∧ a ≤ lengthL t := by rw [HLN.out]; omega
    have hf := cut_facts HDT.out ha0
    rw [HLN.out] at hf
    obtain ⟨F, hF0⟩ : ∃ x, cutL t 0 a = x := ⟨_, rfl⟩
    rw [hF0] at hf
    obtain ⟨R, hR0⟩ : ∃ x, cutL t a Ln = x := ⟨_, rfl⟩
    rw [hR0] at hf
    obtain ⟨V, hV0⟩ : ∃ x, R.map (addG a 0) = x := ⟨_, rfl⟩
    rw [hV0] at hf
    have HWF := Lib.hid (wf_of_okN (fun x hx => okN_of_okT (hf.2.2.1) hx))
    have hF : F.length ≤ 1073741824 := by have := okT_len (hf.2.2.1); omega
    have HWR := Lib.hid (wf_of_okN (fun x hx => okN_of_okT (hf.2.2.2.1) hx))
    have hR : R.length ≤ 1073741824 := by have := okT_len (hf.2.2.2.1); omega
    have HWV := Lib.hid (wf_of_okN (fun x hx => okN_of_okT (hf.2.2.2.2.2.1) hx))
    have hV : V.length ≤ 1073741824 := by have := okT_len (hf.2.2.2.2.2.1); omega
    have HFC := Lib.hid hf
    clear hf hF0 hR0 hV0
    have hab : -9223372036854775808 ≤ a ∧ a ≤ 9223372036854775807 := by have := HFL.out.2.2; omega
    have hlb : -9223372036854775808 ≤ Ln ∧ Ln ≤ 9223372036854775807 := by have := HFL.out.2.2; omega
    clear ha0
    go_wp2_with fail
    refine (c_implCutTune (some ⟨gt, 0, none⟩) cT t 0 a _ HT.out HWT.out ht (by decide) hab).mono ?_
    rintro e w22 ⟨v, rfl, o, b⟩
    obtain ⟨AL1, cL1, rfl, hx, ha⟩ := o.reads
    clear hx
    rw [HFC.out.1.2] at ha ⊢
    rw [HFC.out.1.1]
    clear o
    replace HT := Lib.hid (HT.out.below b)
    replace HO1 := Lib.hid (HO1.out.below b)
    replace BC := bstep BC b
    clear b
    have HL1 := Lib.hid ha
    clear ha
    go_wp2_with fail
    refine (c_implCutTune (some ⟨gt, 0, none⟩) cT t a Ln _ HT.out HWT.out ht hab hlb).mono ?_
    rintro e w23 ⟨v, rfl, o, b⟩
    obtain ⟨AL2, cL2, rfl, hx, ha⟩ := o.reads
    clear hx
    rw [HFC.out.2.1.2] at ha ⊢
    rw [HFC.out.2.1.1]
    clear o
    replace HT := Lib.hid (HT.out.below b)
    replace HO1 := Lib.hid (HO1.out.below b)
    replace HL1 := Lib.hid (HL1.out.below b)
    replace BC := bstep BC b
    clear b
    have HL2 := Lib.hid ha
    clear ha
    go_wp2_with fail
    refine (c_specCutTune (some ⟨gt, 0, none⟩) cT t 0 a _ HT.out HWT.out ht (by decide) hab).mono ?_
    rintro e w24 ⟨v, rfl, o, b⟩
    obtain ⟨AS1, cS1, rfl, hx, ha⟩ := o.reads
    clear hx
    rw [HFC.out.1.2] at ha ⊢
    rw [HFC.out.1.1]
    clear o
    replace HT := Lib.hid (HT.out.below b)
    replace HO1 := Lib.hid (HO1.out.below b)
    replace HL1 := Lib.hid (HL1.out.below b)
    replace HL2 := Lib.hid (HL2.out.below b)
    replace BC := bstep BC b
    clear b
    have HS1 := Lib.hid ha
    clear ha
    go_wp2_with fail
    refine (c_specCutTune (some ⟨gt, 0, none⟩) cT t a Ln _ HT.out HWT.out ht hab hlb).mono ?_
    rintro e w25 ⟨v, rfl, o, b⟩
    obtain ⟨AS2, cS2, rfl, hx, ha⟩ := o.reads
    clear hx
    rw [HFC.out.2.1.2] at ha ⊢
    rw [HFC.out.2.1.1]
    clear o
    replace HT := Lib.hid (HT.out.below b)
    replace HO1 := Lib.hid (HO1.out.below b)
    replace HL1 := Lib.hid (HL1.out.below b)
    replace HL2 := Lib.hid (HL2.out.below b)
    replace HS1 := Lib.hid (HS1.out.below b)
    replace BC := bstep BC b
    clear b
    have HS2 := Lib.hid ha
    clear ha
    go_wp2_with fail
    refine (c_specMoveTune AS2 cS2 R a _ HS2.out HWR.out hR hab).mono ?_
    rintro e w26 ⟨v, rfl, o, b⟩
    obtain ⟨AV1, cV1, rfl, hx, ha⟩ := o.reads
    clear hx
    rw [HFC.out.2.2.2.2.1.2] at ha ⊢
    rw [HFC.out.2.2.2.2.1.1]
    clear o
    replace HT := Lib.hid (HT.out.below b)
    replace HO1 := Lib.hid (HO1.out.below b)
    replace HL1 := Lib.hid (HL1.out.below b)
    replace HL2 := Lib.hid (HL2.out.below b)
    replace HS1 := Lib.hid (HS1.out.below b)
    replace HS2 := Lib.hid (HS2.out.below b)
    replace BC := bstep BC b
    clear b
    have HV1 := Lib.hid ha
    clear ha
    go_wp2_with fail
    refine (c_implTogether AS1 AV1 cS1 cV1 F V _ HS1.out HV1.out HWF.out HWV.out hF hV).mono ?_
    rintro e w27 ⟨v, rfl, o, b⟩
    obtain ⟨AW1, cW1, rfl, hx, ha⟩ := o.reads
    clear hx
    rw [HFC.out.2.2.2.2.2.2.2] at ha ⊢
    rw [HFC.out.2.2.2.2.2.2.1]
    clear o
    replace HT := Lib.hid (HT.out.below b)
    replace HO1 := Lib.hid (HO1.out.below b)
    replace HL1 := Lib.hid (HL1.out.below b)
    replace HL2 := Lib.hid (HL2.out.below b)
    replace HS1 := Lib.hid (HS1.out.below b)
    replace HS2 := Lib.hid (HS2.out.below b)
    replace HV1 := Lib.hid (HV1.out.below b)
    replace BC := bstep BC b
    clear b
    have HW1 := Lib.hid ha
    clear ha
    go_wp2_with fail
    refine (c_specSameTune AL1 AS1 cL1 cS1 F F _ HL1.out HS1.out hF hF).mono ?_
    rintro e w28 ⟨rfl, b⟩
    rw [eqL_self]
    replace HT := Lib.hid (HT.out.below b)
    replace HO1 := Lib.hid (HO1.out.below b)
    replace HL1 := Lib.hid (HL1.out.below b)
    replace HL2 := Lib.hid (HL2.out.below b)
    replace HS1 := Lib.hid (HS1.out.below b)
    replace HS2 := Lib.hid (HS2.out.below b)
    replace HV1 := Lib.hid (HV1.out.below b)
    replace HW1 := Lib.hid (HW1.out.below b)
    replace BC := bstep BC b
    clear b
    go_wp2_with fail
    refine (c_specSameTune AL2 AS2 cL2 cS2 R R _ HL2.out HS2.out hR hR).mono ?_
    rintro e w29 ⟨rfl, b⟩
    rw [eqL_self]
    replace HT := Lib.hid (HT.out.below b)
    replace HO1 := Lib.hid (HO1.out.below b)
    replace HL1 := Lib.hid (HL1.out.below b)
    replace HL2 := Lib.hid (HL2.out.below b)
    replace HS1 := Lib.hid (HS1.out.below b)
    replace HS2 := Lib.hid (HS2.out.below b)
    replace HV1 := Lib.hid (HV1.out.below b)
    replace HW1 := Lib.hid (HW1.out.below b)
    replace BC := bstep BC b
    clear b
    go_wp2_with fail
    refine (c_specSameTune AW1 (some ⟨gt, 0, none⟩) cW1 cT t t _ HW1.out HT.out ht ht).mono ?_
    rintro e w30 ⟨rfl, b⟩
    rw [eqL_self]
    replace HT := Lib.hid (HT.out.below b)
    replace HO1 := Lib.hid (HO1.out.below b)
    replace HL1 := Lib.hid (HL1.out.below b)
    replace HL2 := Lib.hid (HL2.out.below b)
    replace HS1 := Lib.hid (HS1.out.below b)
    replace HS2 := Lib.hid (HS2.out.below b)
    replace HV1 := Lib.hid (HV1.out.below b)
    replace HW1 := Lib.hid (HW1.out.below b)
    replace BC := bstep BC b
    clear b
    go_upto_region 29 with fail
    clear HL1 HL2 HS1 HS2 HV1 HW1
    clear HFC HWF HWR HWV hF hR hV hab hlb hw1
    go_wp2_with fail
    refine (c_a2At B d more 2 8 _ (H2.out.below BC) HC2.out (by decide)).mono ?_
    rintro e wx ⟨s0, rfl, hrs0, rfl⟩
    have hw2 : IntKind.i64.wrap (20 + s0) = 20 + s0 := IntWalk.i64_in _ (by omega)
    have hf := inv_facts HDT.out (s := 20 + s0) (by omega)
    have hsb : -9223372036854775808 ≤ 20 + s0 ∧ 20 + s0 ≤ 9223372036854775807 := by omega
    go_upto_region 30 with fail
    obtain ⟨s, hs⟩ : ∃ x, 20 + s0 = x := ⟨_, rfl⟩
    rw [hs] at hf hsb ⊢
    clear hw2 hs hrs0
    obtain ⟨I, hI0⟩ : ∃ x, rSort t (inB s 0 47) 4 (invG s) = x := ⟨_, rfl⟩
    rw [hI0] at hf
    have HID := Lib.hid hI0
    have HWI := Lib.hid (wf_of_okN (fun x hx => okN_of_okT (hf.2.1) hx))
    have hI : I.length ≤ 1073741824 := by have := okT_len (hf.2.1); omega
    have HFI := Lib.hid hf
    clear hf hI0
    go_wp2_with fail
    refine (c_implInverted (some ⟨gt, 0, none⟩) cT t s _ HT.out HWT.out ht hsb).mono ?_
    rintro e w31 ⟨v, rfl, o, b⟩
    obtain ⟨AI1, cI1, rfl, hx, ha⟩ := o.reads
    clear hx
    rw [HID.out] at ha ⊢
    rw [HFI.out.1]
    clear o
    replace HT := Lib.hid (HT.out.below b)
    replace HO1 := Lib.hid (HO1.out.below b)
    replace BC := bstep BC b
    clear b
    have HI1 := Lib.hid ha
    clear ha
    go_wp2_with fail
    refine (c_specInverted (some ⟨gt, 0, none⟩) cT t s _ HT.out HWT.out ht hsb).mono ?_
    rintro e w32 ⟨v, rfl, o, b⟩
    obtain ⟨AI2, cI2, rfl, hx, ha⟩ := o.reads
    clear hx
    rw [HID.out] at ha ⊢
    rw [HFI.out.1]
    clear o
    replace HT := Lib.hid (HT.out.below b)
    replace HO1 := Lib.hid (HO1.out.below b)
    replace HI1 := Lib.hid (HI1.out.below b)
    replace BC := bstep BC b
    clear b
    have HI2 := Lib.hid ha
    clear ha
    go_wp2_with fail
    refine (c_implInverted AI2 cI2 I s _ HI2.out HWI.out hI hsb).mono ?_
    rintro e w33 ⟨v, rfl, o, b⟩
    obtain ⟨AI3, cI3, rfl, hx, ha⟩ := o.reads
    clear hx
    rw [HFI.out.2.2.2] at ha ⊢
    rw [HFI.out.2.2.1]
    clear o
    replace HT := Lib.hid (HT.out.below b)
    replace HO1 := Lib.hid (HO1.out.below b)
    replace HI1 := Lib.hid (HI1.out.below b)
    replace HI2 := Lib.hid (HI2.out.below b)
    replace BC := bstep BC b
    clear b
    have HI3 := Lib.hid ha
    clear ha
    have hf := str_facts HDT.out
    obtain ⟨W, hW0⟩ : ∃ x, t.map (strG 3 1) = x := ⟨_, rfl⟩
    rw [hW0] at hf
    have HWW := Lib.hid (wf_of_okN (fun x hx => okN_of_okT (hf.2.1) hx))
    have hW : W.length ≤ 1073741824 := by have := okT_len (hf.2.1); omega
    have HFS := Lib.hid hf
    clear hf hW0
    go_wp2_with fail
    refine (c_implStretched (some ⟨gt, 0, none⟩) cT t 3 1 _ HT.out HWT.out ht (by decide) (by decide)).mono ?_
    rintro e w34 ⟨v, rfl, o, b⟩
    obtain ⟨AN1, cN1, rfl, hx, ha⟩ := o.reads
    clear hx
    rw [HFS.out.1.2] at ha ⊢
    rw [HFS.out.1.1]
    clear o
    replace HT := Lib.hid (HT.out.below b)
    replace HO1 := Lib.hid (HO1.out.below b)
    replace HI1 := Lib.hid (HI1.out.below b)
    replace HI2 := Lib.hid (HI2.out.below b)
    replace HI3 := Lib.hid (HI3.out.below b)
    replace BC := bstep BC b
    clear b
    have HN1 := Lib.hid ha
    clear ha
    go_wp2_with fail
    refine (c_implStretched AN1 cN1 W 1 3 _ HN1.out HWW.out hW (by decide) (by decide)).mono ?_
    rintro e w35 ⟨v, rfl, o, b⟩
    obtain ⟨AN2, cN2, rfl, hx, ha⟩ := o.reads
    clear hx
    rw [HFS.out.2.2.2] at ha ⊢
    rw [HFS.out.2.2.1]
    clear o
    replace HT := Lib.hid (HT.out.below b)
    replace HO1 := Lib.hid (HO1.out.below b)
    replace HI1 := Lib.hid (HI1.out.below b)
    replace HI2 := Lib.hid (HI2.out.below b)
    replace HI3 := Lib.hid (HI3.out.below b)
    replace HN1 := Lib.hid (HN1.out.below b)
    replace BC := bstep BC b
    clear b
    have HN2 := Lib.hid ha
    clear ha
    have HMF := Lib.hid (make_facts HOO.out)
    obtain ⟨OO, hOO⟩ : ∃ x, O ++ O = x := ⟨_, rfl⟩
    have HOOW := Lib.hid (show Wf OO by rw [← hOO]; exact wf_of_okN (okN_two HOO.out HOO.out))
    have hOOl : OO.length ≤ 1073741824 := by rw [← hOO, List.length_append]; have := okT_len HOO.out; omega
    have HOOD := Lib.hid hOO
    rw [hOO] at HMF
    clear hOO
    go_upto_region 35 with fail
    have hown2 := Own2.lit0 (k1 := .i16) (k2 := .i8) (E := 40) (w := w35) (base := w35.heap.size) (Nat.le_refl _)
    have hOa := HO1.out.alloc (.cells #[] 40)
    have hBa := balloc (Below.refl _ w35) (.cells #[] 40)
    have hbs := hBa.size
    have hn2 : ([] : List (Int × Int)).length + O.length ≤ 1073741824 := by simpa using hO
    have hn3 : O.length + O.length ≤ 1073741824 := by have := okT_len HOO.out; omega
    go_upto_region 36 with (at_builtin; refine append_pairsU rfl (.tmp 357) (.tmp 358) 24 25 rfl 40 40 .i16 .i8 4 Tryz.underlying24 Tryz.underlying25 info_Note (by decide) w35.heap.size _ [] rfl hown2 _ _ O rfl hOa hn2 hbs ?_; intro Aa ca wa hoa hga; rw [List.nil_append] at hoa ⊢)
    have hba := bgrown hBa hga (fun j hj => hown2.low hj)
    have hOb := HO1.out.below hba
    have hbs2 := hba.size
    clear hga hown2 hOa hBa hbs
    go_upto_region 37 with (at_builtin; refine append_pairsU rfl (.tmp 360) (.tmp 361) 24 25 rfl 40 40 .i16 .i8 4 Tryz.underlying24 Tryz.underlying25 info_Note (by decide) w35.heap.size _ O rfl hoa _ _ O rfl hOb hn3 hbs2 ?_; intro Ab cb wb hob hgb; rw [HOOD.out] at hob ⊢)
    obtain ⟨w36, rfl⟩ : ∃ x, x = wb := ⟨_, rfl⟩
    have b := bgrown hba hgb (fun j hj => hoa.low hj)
    have HQ := Lib.hid hob.at_
    clear hba hOb hbs2 hoa hgb hob hn2 hn3
    replace HT := Lib.hid (HT.out.below b)
    replace HO1 := Lib.hid (HO1.out.below b)
    replace HI1 := Lib.hid (HI1.out.below b)
    replace HI2 := Lib.hid (HI2.out.below b)
    replace HI3 := Lib.hid (HI3.out.below b)
    replace HN1 := Lib.hid (HN1.out.below b)
    replace HN2 := Lib.hid (HN2.out.below b)
    replace BC := bstep BC b
    clear b
    go_wp2_with fail
    refine (c_implMakeTune Ab cb OO _ HQ.out HOOW.out hOOl).mono ?_
    rintro e w37 ⟨v, rfl, o, b⟩
    obtain ⟨AK1, cK1, rfl, hx, ha⟩ := o.reads
    clear hx
    rw [HMF.out.2] at ha ⊢
    rw [HMF.out.1]
    clear o
    replace HT := Lib.hid (HT.out.below b)
    replace HO1 := Lib.hid (HO1.out.below b)
    replace HI1 := Lib.hid (HI1.out.below b)
    replace HI2 := Lib.hid (HI2.out.below b)
    replace HI3 := Lib.hid (HI3.out.below b)
    replace HN1 := Lib.hid (HN1.out.below b)
    replace HN2 := Lib.hid (HN2.out.below b)
    replace BC := bstep BC b
    clear b
    have HK1 := Lib.hid ha
    clear ha
    go_wp2_with fail
    refine (c_specSameTune AI1 AI2 cI1 cI2 I I _ HI1.out HI2.out hI hI).mono ?_
    rintro e w38 ⟨rfl, b⟩
    rw [eqL_self]
    replace HT := Lib.hid (HT.out.below b)
    replace HO1 := Lib.hid (HO1.out.below b)
    replace HI1 := Lib.hid (HI1.out.below b)
    replace HI2 := Lib.hid (HI2.out.below b)
    replace HI3 := Lib.hid (HI3.out.below b)
    replace HN1 := Lib.hid (HN1.out.below b)
    replace HN2 := Lib.hid (HN2.out.below b)
    replace HK1 := Lib.hid (HK1.out.below b)
    replace BC := bstep BC b
    clear b
    go_wp2_with fail
    refine (c_specSameTune AI3 (some ⟨gt, 0, none⟩) cI3 cT t t _ HI3.out HT.out ht ht).mono ?_
    rintro e w39 ⟨rfl, b⟩
    rw [eqL_self]
    replace HT := Lib.hid (HT.out.below b)
    replace HO1 := Lib.hid (HO1.out.below b)
    replace HI1 := Lib.hid (HI1.out.below b)
    replace HI2 := Lib.hid (HI2.out.below b)
    replace HI3 := Lib.hid (HI3.out.below b)
    replace HN1 := Lib.hid (HN1.out.below b)
    replace HN2 := Lib.hid (HN2.out.below b)
    replace HK1 := Lib.hid (HK1.out.below b)
    replace BC := bstep BC b
    clear b
    go_wp2_with fail
    refine (c_specSameTune AN2 (some ⟨gt, 0, none⟩) cN2 cT t t _ HN2.out HT.out ht ht).mono ?_
    rintro e w40 ⟨rfl, b⟩
    rw [eqL_self]
    replace HT := Lib.hid (HT.out.below b)
    replace HO1 := Lib.hid (HO1.out.below b)
    replace HI1 := Lib.hid (HI1.out.below b)
    replace HI2 := Lib.hid (HI2.out.below b)
    replace HI3 := Lib.hid (HI3.out.below b)
    replace HN1 := Lib.hid (HN1.out.below b)
    replace HN2 := Lib.hid (HN2.out.below b)
    replace HK1 := Lib.hid (HK1.out.below b)
    replace BC := bstep BC b
    clear b
    go_wp2_with fail
    refine (c_specSameTune AK1 AO1 cK1 cO1 O O _ HK1.out HO1.out hO hO).mono ?_
    rintro e w41 ⟨rfl, b⟩
    rw [eqL_self]
    replace HT := Lib.hid (HT.out.below b)
    replace HO1 := Lib.hid (HO1.out.below b)
    replace HI1 := Lib.hid (HI1.out.below b)
    replace HI2 := Lib.hid (HI2.out.below b)
    replace HI3 := Lib.hid (HI3.out.below b)
    replace HN1 := Lib.hid (HN1.out.below b)
    replace HN2 := Lib.hid (HN2.out.below b)
    replace HK1 := Lib.hid (HK1.out.below b)
    replace BC := bstep BC b
    clear b
    go_wp2
    go_ret
    exact ⟨rfl, BC⟩
  · go_enter Tryz.func3, Tryz.ntmps3
    go_wp2_with fail
    refine (c_a2Long A B c d code.length more.length _).mono ?_
    rintro e w' ⟨rfl, rfl⟩
    rw [hlong]
    go_wp2
    go_ret
    exact ⟨rfl, Below.refl _ _⟩
end Go.Proofs.YtbdopmcjoncelaaGreatDoor
namespace Go.Proofs.YtbdopmcjoncelaaGreatDoor.ofTunes
open Go.ChangeShapes Go.WideShapes Go.ChangeAt Go.RowKit
theorem own : ownKnob Tryz.prog.godebug = none := by kernel_rfl
theorem laidOut : laidOutB Tryz.prog = true := by kernel_rfl
def laid7 : List (String × DataW Unit) := Rows.fnTunesRow.laid
set_option maxRecDepth 100000 in
theorem lifted (os : Os) (started : os.Started) (H : Type) (enc : TypeId × Value → H) :
    ReturnsInHanded {} Tryz.checked os 3 .any (fun w args => (Rows.fnTunesSpec.pre enc Tryz.prog Tryz.f3 [] false w args ∧ laidMetH Tryz.prog laid7 w) ∧ sizedMet enc Tryz.prog Tryz.f3 (OpenSpec.ofChange Rows.fnTunesSpec) false w args)
      (Rows.fnTunesSpec.post enc Tryz.prog Tryz.f3 false true false false) := by
  refine wrap_listed_shaped (C := Tryz.checked) (X := fun w _ => laidMetH Tryz.prog laid7 w) (fun _ _ _ hh h => h.of_heap hh) own started (by kernel_rfl) Tryz.func3
    (ChangeSpec.witness_shaped (enc := enc) (C := Tryz.checked) (os := os) (X := fun w _ => laidMetH Tryz.prog laid7 w) false (World.laidAll Tryz.prog os laid7) #[.slice none 0 0, .slice none 0 0] 8 (World.laidAll_os _ _ _)
      (World.shaped_of_ZipB (by kernel_rfl) (by kernel_rfl)) (by kernel_rfl) (by kernel_rfl) (by kernel_rfl)
      (by rw [MakeChecks.laidMetH_plain _ _ _ (by kernel_rfl)]; exact laidMet_laidAll _ (by kernel_rfl) (by kernel_rfl))) ?_
  intro W base args ds gs before hval0 hW hL hsh
  have hval : ∀ (j : Nat) t v, Tryz.f3.params[j]? = some t → args[j]? = some v → Value.okWide Tryz.prog W .any base t v := hval0
  have hW' := hW
  have hlt := fun p (hp : p ∈ before) => hW.lt p hp
  obtain ⟨p, q, hA0, hV, rfl, hfz, hnd⟩ := hW
  have hA : DataW.TrodAll enc Tryz.prog W 0 (fun _ => true) true Tryz.f3.params.toList args.toList ds p := hA0
  obtain ⟨rfl, rfl⟩ := trodVars_none hV
  simp only [List.append_nil] at hlt hW'
  have hback := fun W' hb => trodAll_below (W' := W') laidOut hb (by rw [Tryz.params3]; decide +kernel) hlt hA
  rw [Tryz.params3] at hA hval
  obtain ⟨v0, vs0, d0, ds0, p0, q0, hargs, rfl, rfl, h0, r0⟩ := trodAll_cons hA
  obtain ⟨v1, vs1, d1, ds1, p1, q1, rfl, rfl, rfl, h1, r1⟩ := trodAll_cons r0
  obtain ⟨rfl, rfl, rfl⟩ := trodAll_nil r1
  obtain rfl : args = #[v0, v1] := by cases args; simp_all
  obtain ⟨A, ka, code, rfl, hnl, hra, hca⟩ := open_bytes1 Tryz.underlying22 Tryz.underlying5 (by kernel_rfl) (hval 0 _ _ rfl rfl) h0
  obtain ⟨B, kb, more, rfl, hnm, hrb, hcb⟩ := open_bytes1 Tryz.underlying22 Tryz.underlying5 (by kernel_rfl) (hval 1 _ _ rfl rfl) h1
  have hL3 : laidMet Tryz.prog (Rows.fnTunesRow.laid) W := by
    rw [← MakeChecks.laidMetH_plain _ _ _ (by kernel_rfl)]; exact hL
  refine (law_Tunes A B ka kb code more W hra hrb hca hcb (tabs_of (show laidMet Tryz.prog [("math/bits.deBruijn32tab", Rows.laid_math_bits_deBruijn32tab), ("math/bits.deBruijn64tab", Rows.laid_math_bits_deBruijn64tab), ("internal/strconv.uint64pow10", Rows.laid_internal_strconv_uint64pow10), ("unicode/utf8.acceptRanges", Rows.laid_unicode_utf8_acceptRanges), ("strconv.ErrRange", Rows.laid_strconv_ErrRange), ("strconv.ErrSyntax", Rows.laid_strconv_ErrSyntax), ("unicode/utf8.first", Rows.laid_unicode_utf8_first)] W from hL3) hsh)).mono fun e W' ⟨he, bel⟩ => ?_
  subst he
  exact ⟨_, rfl, _, _, _, [], _, [], hW', trodAll_mk1 (shut_bool Tryz.underlying4 _), hback W' bel, rfl, bel.frame _, fun h => by cases h⟩
theorem over : Rows.fnTunesRow.holds Tryz.pinned (OpenSpec.ofChange Rows.fnTunesSpec) :=
  OpenClaim.holds_of_wide 3 Tryz.f3 rfl rfl rfl rfl rfl rfl rfl ⟨rfl, rfl, rfl, rfl, rfl⟩ rfl rfl rfl rfl rfl (by kernel_rfl) Tryz.func3 (by kernel_rfl)
    (of_decide_eq_true (by kernel_rfl)) (by unfold Func.isWrapper; first | (rw [if_pos (by decide +kernel)]; kernel_rfl) | (rw [if_neg (by decide +kernel)]; exact ⟨rfl, rfl⟩))
    (fun os started H enc _ => lifted os started H enc)
theorem card : Rows.FnTunesCardSaid :=
  Claim7.holds_tied_plain_at .later [] [.data, .data, .data, .data, .sentinel, .sentinel, .pinned] true (true, "5c4dc6ce3db3ba346c876856a5e4af5517e00bbc1e839e2c6f81ca6d09d00b3a") true
    over (fun _ h => by cases h) (by kernel_rfl) (fun _ h => by cases h) fnTunes_row_tie rfl ⟨rfl, rfl⟩ (by kernel_rfl) rfl
    (fun f fn hf hfn => by
      obtain rfl : f = 3 := Option.some.inj ((show Tryz.prog.funcNamed "loop.example/g01311/laws.FnTunes" = some 3 by kernel_rfl).symm.trans hf) |>.symm
      obtain rfl : fn = Tryz.f3 := (Option.some.inj (Tryz.func3.symm.trans hfn)).symm
      exact ⟨by kernel_rfl, fun j t ht => by
        rw [Tryz.params3] at ht
        have hm : t ∈ [22] := by simpa using Array.mem_of_getElem? ht
        have hall : ([22].all fun u => !Tryz.prog.wantsStandIn u) = true := by kernel_rfl
        exact (show Tryz.prog.wantsStandIn t = false by simpa using List.all_eq_true.1 hall t hm)⟩)
    (by kernel_rfl)
end Go.Proofs.YtbdopmcjoncelaaGreatDoor.ofTunes
namespace Go.Proofs.YtbdopmcjoncelaaGreatDoor
theorem fnTunesCard_holds : Rows.FnTunesCardSaid := ofTunes.card
#print axioms fnTunesCard_holds
end Go.Proofs.YtbdopmcjoncelaaGreatDoor
