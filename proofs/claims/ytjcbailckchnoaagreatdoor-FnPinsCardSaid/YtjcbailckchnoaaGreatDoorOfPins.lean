/-
  The statement FnPinsCardSaid: whatever bytes are given, the law's call returns true, and the bytes read as they did: what is said of free places, clashes, counted pins, pictures and frames that are read from their texts holds. What the row lists is tied to the program's text by the given tie.
-/
import Derived.Test.YtjcbailckchnoaaGreatDoorRows
import Derived.Test.YtjcbailckchnoaaGreatDoorCards
import Derived.Test.YtjcbailckchnoaaGreatDoorTie
import Derived.Test.YtjcbailckchnoaaGreatDoorOpen
import Derived.Test.YtjcbailckchnoaaGreatDoorDataS
import Derived.Test.YtjcbailckchnoaaGreatDoorShelfD
import Derived.ProofKit
import Derived.LaidMore
import Derived.Lay
import Derived.OpenShut
import Derived.Stop.Joined
import Derived.SevenTiedAt
import Derived.HandedShaped
import Derived.ChangeMaps5
import Derived.Lib.LaidTab
import Derived.Stop.LaidErr
import Derived.Lib.AppendIntMem
import Derived.Test.YtjcbailckchnoaaGreatDoorOpenB
import Derived.Test.YtjcbailckchnoaaGreatDoorPurePF
import Derived.Test.YtjcbailckchnoaaGreatDoorWalkFD
import Derived.Test.YtjcbailckchnoaaGreatDoorWalkRF
import Derived.Test.YtjcbailckchnoaaGreatDoorWalkFT
import Derived.Test.YtjcbailckchnoaaGreatDoorWalkDV
import Derived.Test.YtjcbailckchnoaaGreatDoorWalkDW
import Derived.Test.YtjcbailckchnoaaGreatDoorWalkPIC
import Derived.Test.YtjcbailckchnoaaGreatDoorWalkDC
import Derived.Test.YtjcbailckchnoaaGreatDoorWalkDH
import Derived.Test.YtjcbailckchnoaaGreatDoorWalkDL
import Derived.Test.YtjcbailckchnoaaGreatDoorWalkEB
import Derived.Test.YtjcbailckchnoaaGreatDoorWalkDZ
import Derived.Test.YtjcbailckchnoaaGreatDoorWalkDJ
import Derived.Test.YtjcbailckchnoaaGreatDoorWalkDQ
import Derived.Test.YtjcbailckchnoaaGreatDoorWalkSR
import Derived.Test.YtjcbailckchnoaaGreatDoorData
import Derived.ChangeSlices
import Derived.Deep.CutRange
namespace Go.Proofs.YtjcbailckchnoaaGreatDoor
open Go.RowKit Go.ChangeShapes Go.WideShapes Go.Deep
set_option linter.unusedVariables false
set_option linter.unusedSimpArgs false

/-- The kit's wrap for what a row lists, with the world's shape kept besides. -/
theorem wrap_listed_shaped {H : Type} {enc : TypeId × Value → H} {a : Assume} {C : Checked} {os : Os} {f : FuncId} {fn : Func} {s : ChangeSpec} {conds : List PathCond} {apart fresh handsOn again : Bool} {X : World → Array Value → Prop}
    (hX : ∀ (w w' : World) (args : Array Value), w.heap = w'.heap → X w args → X w' args)
    (own : ownKnob C.prog.godebug = none) (started : os.Started) (noInit : C.prog.inits.idxOf? f = none) (hfn : C.prog.funcs[f]? = some fn)
    (witness : ∃ (w : World) (tape : Tape) (i : Input), w.os = os ∧ (w.forCall tape i).Shaped C.prog ∧ i.vars = [] ∧ Input.okWide C.prog (w.forCall tape i) .any w.heap.size f i ∧
      ((s.pre enc C.prog fn conds apart (w.forCall tape i).memory i.args ∧ X (w.forCall tape i).memory i.args) ∧ sizedMet enc C.prog fn (OpenSpec.ofChange s) apart (w.forCall tape i).memory i.args) ∧ a.holds C.prog (lone (Frame.enter C.prog f i.args .normal) [] (w.forCall tape i)))
    (contract : ∀ (W : World) (base : Nat) (args : Array Value) (ds gs : List (DataW H)) (before : List MemPlace),
      (∀ (j : Nat) t v, fn.params[j]? = some t → args[j]? = some v → Value.okWide C.prog W .any base t v) →
      DataW.Whole enc C.prog fn.params.toList s.vars apart W args.toList ds gs before → X W args → W.ShapedOpen C.prog →
      Calls C.prog f args W fun e W' => ∃ v, e = .returned v ∧ s.post enc C.prog fn apart fresh handsOn again W args v W') :
    ReturnsInHanded a C os f .any (fun w args => (s.pre enc C.prog fn conds apart w args ∧ X w args) ∧ sizedMet enc C.prog fn (OpenSpec.ofChange s) apart w args) (s.post enc C.prog fn apart fresh handsOn again) := by
  refine returnsInHanded_of_calls own started noInit witness ?_
  intro w tape i _ hsh _ hok hpre _
  obtain ⟨_, _, _, fn', hfn', _, _, _, _, hval⟩ := hok
  obtain rfl : fn' = fn := Option.some.inj (hfn'.symm.trans hfn)
  obtain ⟨⟨⟨ds, gs, before, hw, _⟩, hx⟩, _⟩ := hpre
  refine (contract (w.forCall tape i) w.heap.size i.args ds gs before hval (DataW.Whole.of_heap (w' := w.forCall tape i) (by rfl) hw) (hX _ _ _ (by rfl) hx) hsh).mono fun e W' ⟨v, he, hp⟩ => ?_
  subst he
  exact ChangeSpec.post_blind hp

theorem tabs_of {W : World} (h : laidMet Tryz.prog [("math/bits.deBruijn32tab", Rows.laid_math_bits_deBruijn32tab), ("math/bits.deBruijn64tab", Rows.laid_math_bits_deBruijn64tab), ("internal/strconv.uint64pow10", Rows.laid_internal_strconv_uint64pow10), ("unicode/utf8.acceptRanges", Rows.laid_unicode_utf8_acceptRanges), ("strconv.ErrRange", Rows.laid_strconv_ErrRange), ("strconv.ErrSyntax", Rows.laid_strconv_ErrSyntax), ("unicode/utf8.first", Rows.laid_unicode_utf8_first)] W) (hsh : W.ShapedOpen Tryz.prog) : Tabs W := by
  have htab : Lib.TabIs Tryz.prog W "internal/strconv.uint64pow10" .u64 Lib.pow10Tab := Lib.tabIs_of_head gPow gPowT Tryz.underlying149 Tryz.underlying97 cells64 cells20 (show laidMet Tryz.prog (("internal/strconv.uint64pow10", Lib.tabData .u64 Lib.pow10Tab) :: _) W from h.tail.tail)
  obtain ⟨a0, s0, hv0, -, -, -⟩ := laid_sentinel h.tail.tail.tail.tail gER gERT Tryz.underlying102 rowES Tryz.underlying158 Tryz.underlying160 rfl rfl Tryz.underlying9 cellsES cellsStr
  obtain ⟨a1, s1, hv1, -, -, -⟩ := laid_sentinel h.tail.tail.tail.tail.tail gES gEST Tryz.underlying102 rowES Tryz.underlying158 Tryz.underlying160 rfl rfl Tryz.underlying9 cellsES cellsStr
  exact ⟨htab, ⟨_, _, by have h0 := World.var?_cell gER hv0 0; simpa using h0⟩, ⟨_, _, by have h0 := World.var?_cell gES hv1 0; simpa using h0⟩, Tryz.laysM146.s1_3 W hsh⟩

theorem undef_bool {b : Bool} (h : some undef = some (Value.bool b)) : False := by
  have h2 := Option.some.inj h
  cases h2
theorem wpList_idxC {P : Program} {ops : Array Oper} {rest : List Oper} {o : Oper} {a : Act} {w : World} {Q : Exit → Act → World → Prop} {t : TypeId} {x y : Operand} (p : List UInt8) (k : Nat) (hk : k < p.length) (v : Int) (hv : ((p[k]'hk).toNat : Int) = v) (hw : Region.wanted o (yielded ops a.tmps) = true) (ho : o.op = .index t x y)
    (ht : P.underlying t = some .string) (hx : a.eval x = txt p) (hy : a.eval y = .int .i64 (k : Int))
    (h : wpList P ops Q rest (a.put o.dst (.int .u8 v)) w) : wpList P ops Q (o :: rest) a w := wpList_idxS p k hk hw ho ht hx hy (by rw [hv]; exact h)
set_option maxRecDepth 100000 in
set_option maxHeartbeats 8000000 in
theorem law_Pins (A B : Option Addr) (kc km : Nat) (code more : List Int) (w : World) (h1 : At1 .u8 w A code) (h2 : At1 .u8 w B more) (hc1 : ∀ x ∈ code, 0 ≤ x ∧ x ≤ 255) (hc2 : ∀ x ∈ more, 0 ≤ x ∧ x ≤ 255) (htab : Tabs w) :
    Calls Tryz.prog 3 #[.slice A code.length kc, .slice B more.length km] w fun e w' => e = .returned (.bool true) ∧ Below w.heap.size w w' := by
  have hst := Tryz.underlying9
  rcases hlong : (decide (3000 < code.length) || decide (3000 < more.length)) with _ | _
  · have hl1 : code.length ≤ 3000 := by simp at hlong; omega
    have hl2 : more.length ≤ 3000 := by simp at hlong; omega
    have HC1 := Lib.hid hc1
    have HC2 := Lib.hid hc2
    have H1 := Lib.hid h1
    have H2 := Lib.hid h2
    have HTB := Lib.hid htab.tabsB
    clear hc1 hc2 h1 h2 htab
    go_enter Tryz.func3, Tryz.ntmps3
    go_wp2_with fail
    refine (c_a2Long A B kc km code.length more.length _).mono ?_
    rintro e w' ⟨rfl, rfl⟩
    rw [hlong]
    clear hlong
    go_upto_region 3 with fail
    go_cut [5] from 44 to 45 (fun x w' => ∃ g s Af cf l, x = .pointer (some ⟨g, 0, none⟩) ∧ Var w' g #[.int .i16 s, .slice Af l.length cf] 27 ∧ DrawnF s l ∧ At2 .i8 .i8 w' Af l ∧ Below w.heap.size w w')
    case first => as_aux_lemma =>
      go_wp2_with fail
      refine (c_A2Frame A kc code _ H1.out HC1.out (by omega)).mono ?_
      rintro e w1 ⟨s, Af, cf, l, rfl, hF, of, b1⟩
      have HF := Lib.hid hF
      have HO := Lib.hid of.at_
      clear hF of
      go_wp2_with fail
      go_meet
      case rel => exact ⟨_, s, Af, cf, l, rfl, Var.new _ _ _, HF.out, HO.out.below (balloc (Below.refl _ _) _), balloc b1 _⟩
    obtain ⟨g5, s, Af, cf, l, rfl, v, hF, hT, b1⟩ := hcut
    obtain ⟨w1, rfl⟩ : ∃ x, x = wc := ⟨_, rfl⟩
    replace H1 := Lib.hid (H1.out.below b1)
    replace H2 := Lib.hid (H2.out.below b1)
    have HB := Lib.hid b1
    clear b1
    obtain ⟨n, rfl⟩ := Int.eq_ofNat_of_zero_le (show 0 ≤ s by have := hF.1; omega)
    have V5 := Lib.hid v
    have HF := Lib.hid hF
    have HT := Lib.hid hT
    obtain ⟨⟨n1, n2⟩, l1, l2⟩ := drawn_n hF
    clear v hF hT
    go_upto_region 4 with fail
    go_cut [6] from 46 to 48 (fun x w' => ∃ g d, x = .pointer (some ⟨g, 0, none⟩) ∧ Var w' g (drumV d) 31 ∧ DrumIn (n : Int) l d 11 ∧ Below w1.heap.size w1 w')
    case first => as_aux_lemma =>
      have y1 := V5.out.cell (i := 0) rfl
      have y2 := V5.out.cell (i := 1) rfl
      go_wp2_with fail
      refine (c_A2Drum B km more (n : Int) Af cf l _ H2.out HC2.out (by omega) HT.out HF.out).mono ?_
      rintro e ww ⟨d, rfl, hD, bb⟩
      have HD := Lib.hid hD
      have hd := hD.2.1
      clear hD y1 y2
      go_wp2_with (first | (refine wpList_alloc_row rfl 31 rfl (.agg (drumV zD)) zero_Drum ?_) | (refine wpList_storeD rfl rfl (Var.new ww (drumV zD) 31) rfl rfl size_Drum hd zD_len ?_))
      go_meet
      case rel => exact ⟨_, d, rfl, (Var.new _ _ _).row _, HD.out, brow (balloc bb _) bb.size _⟩
    obtain ⟨g6, d, rfl, v, hD, b2⟩ := hcut
    obtain ⟨w2, rfl⟩ : ∃ x, x = wc := ⟨_, rfl⟩
    replace H1 := Lib.hid (H1.out.below b2)
    replace H2 := Lib.hid (H2.out.below b2)
    replace V5 := Lib.hid (V5.out.below b2)
    replace HT := Lib.hid (HT.out.below b2)
    replace HB := Lib.hid (bstep HB.out b2)
    clear b2
    have V6 := Lib.hid v
    have HD := Lib.hid hD
    have LD := hD.2.1
    clear v hD
    clear H1 H2 HC1 HC2
    have HW := Lib.hid HF.out.w16
    have HH := Lib.hid HF.out.whs
    have WD := Lib.hid HD.out.1
    have hl30 : l.length ≤ 1073741824 := by omega
    have hf := base_facts HF.out HD.out
    have hb5 := frame_back HF.out.ok (fun p hp => by have := HF.out.2.2 p hp; omega)
    obtain ⟨TX, hTX⟩ : ∃ x, rFT (n : Int) l = x := ⟨_, rfl⟩
    rw [hTX] at hb5
    obtain ⟨K, hK⟩ : ∃ x, rCl (n : Int) l d = x := ⟨_, rfl⟩
    rw [hK] at hf
    obtain ⟨k1, k2, k3, k4, k5, k6, k7, k8, k9, k10, k11, k12⟩ := hf
    obtain ⟨t1, t2, t3, t4⟩ := hb5
    obtain ⟨pl, hpl⟩ : ∃ x, rPlay (n : Int) l d = x := ⟨_, rfl⟩
    obtain ⟨zc, hzc⟩ : ∃ x, cFirst (n : Int) l d = x := ⟨_, rfl⟩
    obtain ⟨v1, hv1⟩ : ∃ x, rFirst1 (n : Int) l d = x := ⟨_, rfl⟩
    obtain ⟨v2, hv2⟩ : ∃ x, rFirst2 (n : Int) l d = x := ⟨_, rfl⟩
    obtain ⟨PL, hPL⟩ : ∃ x, rPic (n : Int) l d = x := ⟨_, rfl⟩
    obtain ⟨BY, hBY⟩ : ∃ x, rCnt (n : Int) l d = x := ⟨_, rfl⟩
    obtain ⟨SN, hSN⟩ : ∃ x, sumN (fun t => cntT d t n) l.length = x := ⟨_, rfl⟩
    rw [hpl] at k4
    rw [hzc] at k5
    rw [hv1] at k6
    rw [hv2] at k7
    rw [hPL] at k8
    rw [hSN] at k9
    rw [hBY] at k10
    have lPL : PL.length = l.length := by rw [k8, picL_len]; omega
    have lBY : BY.length = l.length := by rw [k10]; unfold cntU; simp
    have hSN2 : SN = csN d n l.length := hSN.symm
    have HTX_ := Lib.hid hTX
    have HK_ := Lib.hid hK
    have K1_ := Lib.hid k1
    have K2_ := Lib.hid k2
    have K3_ := Lib.hid k3
    have K4_ := Lib.hid k4
    have K5_ := Lib.hid k5
    have K6_ := Lib.hid k6
    have K7_ := Lib.hid k7
    have K8_ := Lib.hid k8
    have K9_ := Lib.hid k9
    have K10_ := Lib.hid k10
    have K11_ := Lib.hid k11
    have T1_ := Lib.hid t1
    have T2_ := Lib.hid t2
    have T3_ := Lib.hid t3
    have HPL_ := Lib.hid hpl
    have HZC_ := Lib.hid hzc
    have HV1_ := Lib.hid hv1
    have HV2_ := Lib.hid hv2
    have HPLX_ := Lib.hid hPL
    have HBY_ := Lib.hid hBY
    have HSN2_ := Lib.hid hSN2
    have LPL_ := Lib.hid lPL
    have LBY_ := Lib.hid lBY
    clear hTX hK k1 k2 k3 k4 k5 k6 k7 k8 k9 k10 k11 t1 t2 t3 hpl hzc hv1 hv2 hPL hBY hSN hSN2 lPL lBY
    go_upto_region 5 with fail
    go_cut [7, 8] from 49 to 54 (fun x y w' => ∃ g Az cz, x = .pointer (some ⟨g, 0, none⟩) ∧ y = .int .i64 0 ∧ Var w' g #[.int .i16 (n : Int), .slice Az l.length cz] 27 ∧ At2 .i8 .i8 w' Az l ∧ Below w2.heap.size w2 w')
    case first => as_aux_lemma =>
      have y1 := V5.out.cell (i := 0) rfl
      have y2 := V5.out.cell (i := 1) rfl
      go_wp2_with fail
      refine (c_implFrameText (n : Int) Af cf l _ HT.out HW.out HH.out hl30).mono ?_
      rintro e ww ⟨rfl, bb⟩
      rw [HTX_.out]
      clear y1 y2
      go_wp2_with fail
      refine (c_implReadFrame TX _ t4 (HTB.out.on (bstep HB.out bb)).here).mono ?_
      rintro e wx ⟨Az, cz, rfl, oz, bx⟩
      have HO := Lib.hid oz.at_
      clear oz
      rw [T2_.out] at HO ⊢
      rw [T1_.out, T3_.out]
      go_wp2_with fail
      go_meet
      case rel => exact ⟨_, Az, cz, rfl, rfl, Var.new _ _ _, HO.out.below (balloc (Below.refl _ _) _), balloc (bstep bb bx) _⟩
    obtain ⟨g7, A7, c7, rfl, rfl, v, ha, b3⟩ := hcut
    obtain ⟨w3, rfl⟩ : ∃ x, x = wc := ⟨_, rfl⟩
    replace V5 := Lib.hid (V5.out.below b3)
    replace HT := Lib.hid (HT.out.below b3)
    replace V6 := Lib.hid (V6.out.below b3)
    replace HB := Lib.hid (bstep HB.out b3)
    clear b3
    have V7 := Lib.hid v
    have O7 := Lib.hid ha
    clear v ha
    go_upto_region 6 with fail
    go_cut [9, 10] from 55 to 60 (fun x y w' => ∃ Az cz, x = .slice Az K.length cz ∧ y = .int .i64 0 ∧ At2 .i64 .i64 w' Az K ∧ Below w3.heap.size w3 w')
    case first => as_aux_lemma =>
      have y1 := V5.out.cell (i := 0) rfl
      have y2 := V5.out.cell (i := 1) rfl
      go_wp2_with (first | (refine wpList_loadD (by rfl) rfl V6.out rfl Tryz.underlying31 size_Drum LD ?_))
      refine (c_implClashesOf (n : Int) Af cf l d _ HT.out HW.out HH.out hl30 LD WD.out).mono ?_
      rintro e ww ⟨Az, cz, rfl, oz, bb⟩
      have HO := Lib.hid oz.at_
      clear oz y1 y2
      rw [HK_.out] at HO ⊢
      rw [K3_.out]
      go_wp2
      go_meet
      case rel => exact ⟨Az, cz, rfl, rfl, HO.out, bb⟩
    obtain ⟨A9, c9, rfl, rfl, ha, b4⟩ := hcut
    obtain ⟨w4, rfl⟩ : ∃ x, x = wc := ⟨_, rfl⟩
    replace V5 := Lib.hid (V5.out.below b4)
    replace HT := Lib.hid (HT.out.below b4)
    replace V6 := Lib.hid (V6.out.below b4)
    replace V7 := Lib.hid (V7.out.below b4)
    replace O7 := Lib.hid (O7.out.below b4)
    replace HB := Lib.hid (bstep HB.out b4)
    clear b4
    have O9 := Lib.hid ha
    clear ha
    go_upto_region 7 with fail
    go_cut [11, 12] from 61 to 66 (fun x y w' => ∃ Az cz, x = .slice Az K.length cz ∧ y = .int .i64 0 ∧ At2 .i64 .i64 w' Az K ∧ Below w4.heap.size w4 w')
    case first => as_aux_lemma =>
      have y1 := V5.out.cell (i := 0) rfl
      have y2 := V5.out.cell (i := 1) rfl
      go_wp2_with (first | (refine wpList_loadD (by rfl) rfl V6.out rfl Tryz.underlying31 size_Drum LD ?_))
      refine (c_specClashesOf (n : Int) Af cf l d _ HT.out HW.out HH.out hl30 LD WD.out).mono ?_
      rintro e ww ⟨Az, cz, rfl, oz, bb⟩
      have HO := Lib.hid oz.at_
      clear oz y1 y2
      rw [HK_.out] at HO ⊢
      rw [K3_.out]
      go_wp2
      go_meet
      case rel => exact ⟨Az, cz, rfl, rfl, HO.out, bb⟩
    obtain ⟨A11, c11, rfl, rfl, ha, b5⟩ := hcut
    obtain ⟨w5, rfl⟩ : ∃ x, x = wc := ⟨_, rfl⟩
    replace V5 := Lib.hid (V5.out.below b5)
    replace HT := Lib.hid (HT.out.below b5)
    replace V6 := Lib.hid (V6.out.below b5)
    replace V7 := Lib.hid (V7.out.below b5)
    replace O7 := Lib.hid (O7.out.below b5)
    replace O9 := Lib.hid (O9.out.below b5)
    replace HB := Lib.hid (bstep HB.out b5)
    clear b5
    have O11 := Lib.hid ha
    clear ha
    go_upto_region 8 with fail
    go_cut [13, 14] from 67 to 72 (fun x y w' => x = .bool pl ∧ y = .int .i64 0 ∧ Below w5.heap.size w5 w')
    case first => as_aux_lemma =>
      have y1 := V5.out.cell (i := 0) rfl
      have y2 := V5.out.cell (i := 1) rfl
      go_wp2_with (first | (refine wpList_loadD (by rfl) rfl V6.out rfl Tryz.underlying31 size_Drum LD ?_))
      refine (c_implIsPlayable (n : Int) Af cf l d _ HT.out HW.out HH.out hl30 LD WD.out).mono ?_
      rintro e ww ⟨rfl, bb⟩
      clear y1 y2
      rw [HPL_.out, K3_.out]
      go_wp2
      go_meet
      case rel => exact ⟨rfl, rfl, bb⟩
    obtain ⟨rfl, rfl, b6⟩ := hcut
    obtain ⟨w6, rfl⟩ : ∃ x, x = wc := ⟨_, rfl⟩
    replace V5 := Lib.hid (V5.out.below b6)
    replace HT := Lib.hid (HT.out.below b6)
    replace V6 := Lib.hid (V6.out.below b6)
    replace V7 := Lib.hid (V7.out.below b6)
    replace O7 := Lib.hid (O7.out.below b6)
    replace O9 := Lib.hid (O9.out.below b6)
    replace O11 := Lib.hid (O11.out.below b6)
    replace HB := Lib.hid (bstep HB.out b6)
    clear b6
    go_upto_region 9 with fail
    go_cut [15, 16, 17] from 73 to 79 (fun x y z w' => x = .int .i64 v1 ∧ y = .int .i64 v2 ∧ z = .int .i64 zc ∧ Below w6.heap.size w6 w')
    case first => as_aux_lemma =>
      have y1 := V5.out.cell (i := 0) rfl
      have y2 := V5.out.cell (i := 1) rfl
      go_wp2_with (first | (refine wpList_loadD (by rfl) rfl V6.out rfl Tryz.underlying31 size_Drum LD ?_))
      refine (c_implFirstClash (n : Int) Af cf l d _ HT.out HW.out HH.out hl30 LD WD.out).mono ?_
      rintro e ww ⟨rfl, bb⟩
      clear y1 y2
      rw [HV1_.out, HV2_.out, HZC_.out]
      go_wp2
      go_meet
      case rel => exact ⟨rfl, rfl, rfl, bb⟩
    obtain ⟨rfl, rfl, rfl, b7⟩ := hcut
    obtain ⟨w7, rfl⟩ : ∃ x, x = wc := ⟨_, rfl⟩
    replace V5 := Lib.hid (V5.out.below b7)
    replace HT := Lib.hid (HT.out.below b7)
    replace V6 := Lib.hid (V6.out.below b7)
    replace V7 := Lib.hid (V7.out.below b7)
    replace O7 := Lib.hid (O7.out.below b7)
    replace O9 := Lib.hid (O9.out.below b7)
    replace O11 := Lib.hid (O11.out.below b7)
    replace HB := Lib.hid (bstep HB.out b7)
    clear b7
    go_upto_region 10 with fail
    go_cut [18, 19] from 80 to 85 (fun x y w' => ∃ Az cz, x = .slice Az PL.length cz ∧ y = .int .i64 0 ∧ AtS w' Az PL ∧ Below w7.heap.size w7 w')
    case first => as_aux_lemma =>
      have y1 := V5.out.cell (i := 0) rfl
      have y2 := V5.out.cell (i := 1) rfl
      go_wp2_with (first | (refine wpList_loadD (by rfl) rfl V6.out rfl Tryz.underlying31 size_Drum LD ?_))
      refine (c_implDrumPicture (n : Int) Af cf l d _ HT.out HW.out HH.out hl30 LD WD.out).mono ?_
      rintro e ww ⟨Az, cz, rfl, oz, bb⟩
      have HO := Lib.hid oz.at_
      clear oz y1 y2
      rw [HPLX_.out] at HO ⊢
      rw [K3_.out]
      go_wp2
      go_meet
      case rel => exact ⟨Az, cz, rfl, rfl, HO.out, bb⟩
    obtain ⟨A18, c18, rfl, rfl, ha, b8⟩ := hcut
    obtain ⟨w8, rfl⟩ : ∃ x, x = wc := ⟨_, rfl⟩
    replace V5 := Lib.hid (V5.out.below b8)
    replace HT := Lib.hid (HT.out.below b8)
    replace V6 := Lib.hid (V6.out.below b8)
    replace V7 := Lib.hid (V7.out.below b8)
    replace O7 := Lib.hid (O7.out.below b8)
    replace O9 := Lib.hid (O9.out.below b8)
    replace O11 := Lib.hid (O11.out.below b8)
    replace HB := Lib.hid (bstep HB.out b8)
    clear b8
    have O18 := Lib.hid ha
    clear ha
    go_upto_region 11 with fail
    go_cut [168] from 86 to 168 (fun x w' => x = .bool false ∧ Below w8.heap.size w8 w')
    case first => as_aux_lemma =>
      have y1 := V7.out.cell (i := 0) rfl
      have y2 := V7.out.cell (i := 1) rfl
      have z1 := V5.out.cell (i := 0) rfl
      have z2 := V5.out.cell (i := 1) rfl
      have hpl := K4_.out
      have hzc := K5_.out
      have hv1 := K6_.out
      have hv2 := K7_.out
      have HPLK := Lib.hid (And.intro hpl (And.intro hzc (And.intro hv1 hv2)))
      clear hpl hzc hv1 hv2
      go_wp2_with fail
      refine (c_A2SameFrame (n : Int) A7 Af c7 cf l _ O7.out HT.out hl30).mono ?_
      rintro e wa ⟨rfl, ba⟩
      clear y1 y2 z1 z2
      have y1 := (V5.out.below ba).cell (i := 0) rfl
      have y2 := (V5.out.below ba).cell (i := 1) rfl
      go_wp2_with fail
      refine (c_ValidFrame (n : Int) Af cf l _ (HT.out.below ba) HW.out HH.out hl30).mono ?_
      rintro e wb ⟨rfl, bb⟩
      rw [K1_.out]
      have bb := bstep ba bb
      clear y1 y2
      have y1 := (V5.out.below bb).cell (i := 0) rfl
      have y2 := (V5.out.below bb).cell (i := 1) rfl
      have V6b := Lib.hid (V6.out.below bb)
      go_wp2_with fail
      (refine wpList_loadD (by rfl) rfl V6b.out rfl Tryz.underlying31 size_Drum LD ?_)
      go_wp2_with fail
      refine (c_implValidDrum (n : Int) Af cf l d _ (HT.out.below bb) HW.out HH.out hl30 LD WD.out).mono ?_
      rintro e wd ⟨rfl, bd⟩
      rw [K2_.out]
      have bd := bstep bb bd
      clear y1 y2
      go_wp2_with fail
      refine (c_A2SamePairs A9 A11 c9 c11 K _ (O9.out.below bd) (O11.out.below bd) (by omega)).mono ?_
      rintro e we ⟨rfl, be⟩
      have be := bstep bd be
      have y1 := (V5.out.below be).cell (i := 0) rfl
      have y2 := (V5.out.below be).cell (i := 1) rfl
      have e1 : ((PL.length : Int) != (l.length : Int)) = false := by simp [LPL_.out]
      have O11b := Lib.hid (O11.out.below be)
      clear ba bb bd V6b HPL_ HZC_ HV1_ HV2_ K4_ K5_ K6_ K7_ K8_ K9_ K10_ K11_ O18 V7 O7 V6 WD HD HF HTX_ HB HTB
      rcases Nat.eq_zero_or_pos K.length with h0 | h0
      · obtain rfl : K = [] := List.eq_nil_of_length_eq_zero h0
        obtain rfl : pl = true := by rw [HPLK.out.1]; rfl
        obtain rfl : zc = 6 := by rw [HPLK.out.2.1]; rfl
        go_wp2_with fail
        all_goals first | exact (undef_bool (by assumption)).elim | (go_meet; case rel => exact ⟨by first | rfl | (simp [LPL_.out]; done), be⟩)
      · obtain rfl : pl = false := by rw [HPLK.out.1]; exact decide_eq_false (by omega)
        obtain rfl : zc = 0 := by rw [HPLK.out.2.1, if_neg (by omega)]
        obtain ⟨gk, ok, hAe, hgl, hc⟩ := O11b.out.get h0
        have x1 : we.cell? ⟨gk, ok, none⟩ = some (.int .i64 v1) := by have := (hc 0 h0).1; rw [HPLK.out.2.2.1, List.getD_eq_getElem?_getD, List.getElem?_eq_getElem h0]; simpa using this
        have x2 : we.cell? ⟨gk, ok + 1, none⟩ = some (.int .i64 v2) := by have := (hc 0 h0).2; rw [HPLK.out.2.2.2, List.getD_eq_getElem?_getD, List.getElem?_eq_getElem h0]; simpa using this
        clear hc
        subst hAe
        have f1 : ((K.length : Int) == 0) = false := by simpa using (by omega : ¬ K.length = 0)
        have f2 : ((K.length : Int) = 0) = False := eq_false (by omega)
        have f3 : (K.length = 0) = False := eq_false (by omega)
        have f4 : (K = []) = False := eq_false (by rintro rfl; simp at h0)
        have f5 : (0 : Int) < (K.length : Int) := by omega
        go_wp2_with fail
        go_meet
        case rel => exact ⟨by first | rfl | (simp [LPL_.out]; done), be⟩
    obtain ⟨rfl, b9⟩ := hcut
    obtain ⟨w9, rfl⟩ : ∃ x, x = wc := ⟨_, rfl⟩
    replace V5 := Lib.hid (V5.out.below b9)
    replace HT := Lib.hid (HT.out.below b9)
    replace V6 := Lib.hid (V6.out.below b9)
    replace V7 := Lib.hid (V7.out.below b9)
    replace O7 := Lib.hid (O7.out.below b9)
    replace O9 := Lib.hid (O9.out.below b9)
    replace O11 := Lib.hid (O11.out.below b9)
    replace O18 := Lib.hid (O18.out.below b9)
    replace HB := Lib.hid (bstep HB.out b9)
    clear b9
    clear V7 O7 O9 O11 HPL_ HZC_ HV1_ HV2_ K4_ K5_ K6_ K7_ T1_ T2_ T3_ HTX_
    go_upto_region 13 with fail
    go_cut [20, 21] from 169 to 174 (fun x y w' => x = .int .i64 (SN : Int) ∧ y = .int .i64 0 ∧ Below w9.heap.size w9 w')
    case first => as_aux_lemma =>
      have y1 := V5.out.cell (i := 0) rfl
      have y2 := V5.out.cell (i := 1) rfl
      go_wp2_with (first | (refine wpList_loadD (by rfl) rfl V6.out rfl Tryz.underlying31 size_Drum LD ?_))
      refine (c_implCountPins (n : Int) Af cf l d _ HT.out HW.out HH.out hl30 LD WD.out).mono ?_
      rintro e ww ⟨rfl, bb⟩
      clear y1 y2
      rw [K9_.out, K3_.out]
      go_wp2
      go_meet
      case rel => exact ⟨rfl, rfl, bb⟩
    obtain ⟨rfl, rfl, b10⟩ := hcut
    obtain ⟨w10, rfl⟩ : ∃ x, x = wc := ⟨_, rfl⟩
    replace V5 := Lib.hid (V5.out.below b10)
    replace HT := Lib.hid (HT.out.below b10)
    replace V6 := Lib.hid (V6.out.below b10)
    replace O18 := Lib.hid (O18.out.below b10)
    replace HB := Lib.hid (bstep HB.out b10)
    clear b10
    go_upto_region 14 with fail
    go_cut [22, 23] from 175 to 180 (fun x y w' => ∃ Az cz, x = .slice Az BY.length cz ∧ y = .int .i64 0 ∧ At1 .i64 w' Az BY ∧ Below w10.heap.size w10 w')
    case first => as_aux_lemma =>
      have y1 := V5.out.cell (i := 0) rfl
      have y2 := V5.out.cell (i := 1) rfl
      go_wp2_with (first | (refine wpList_loadD (by rfl) rfl V6.out rfl Tryz.underlying31 size_Drum LD ?_))
      refine (c_implPinsByTrack (n : Int) Af cf l d _ HT.out HW.out HH.out hl30 LD WD.out).mono ?_
      rintro e ww ⟨Az, cz, rfl, oz, bb⟩
      have HO := Lib.hid oz.at_
      clear oz y1 y2
      rw [HBY_.out] at HO ⊢
      rw [K3_.out]
      go_wp2
      go_meet
      case rel => exact ⟨Az, cz, rfl, rfl, HO.out, bb⟩
    obtain ⟨A22, c22, rfl, rfl, ha, b11⟩ := hcut
    obtain ⟨w11, rfl⟩ : ∃ x, x = wc := ⟨_, rfl⟩
    replace V5 := Lib.hid (V5.out.below b11)
    replace HT := Lib.hid (HT.out.below b11)
    replace V6 := Lib.hid (V6.out.below b11)
    replace O18 := Lib.hid (O18.out.below b11)
    replace HB := Lib.hid (bstep HB.out b11)
    clear b11
    have O22 := Lib.hid ha
    clear ha
    go_upto_region 15 with fail
    go_cut [194] from 181 to 194 (fun x w' => x = .bool false ∧ Below w11.heap.size w11 w')
    case first => as_aux_lemma =>
      have y1 := V5.out.cell (i := 0) rfl
      have y2 := V5.out.cell (i := 1) rfl
      have e1 : ((BY.length : Int) != (l.length : Int)) = false := by simp [LBY_.out]
      go_wp2
      go_meet
      case rel => exact ⟨by first | rfl | (simp [LBY_.out]; done), Below.refl _ _⟩
    obtain ⟨rfl, b12⟩ := hcut
    obtain ⟨w12, rfl⟩ : ∃ x, x = wc := ⟨_, rfl⟩
    replace V5 := Lib.hid (V5.out.below b12)
    replace HT := Lib.hid (HT.out.below b12)
    replace V6 := Lib.hid (V6.out.below b12)
    replace O18 := Lib.hid (O18.out.below b12)
    replace O22 := Lib.hid (O22.out.below b12)
    replace HB := Lib.hid (bstep HB.out b12)
    clear b12
    go_upto_region 17 with fail
    go_cut [24] from 195 to 197 (fun x w' => x = .int .i64 (n : Int) ∧ Below w12.heap.size w12 w')
    case first => as_aux_lemma =>
      have y1 := V5.out.cell (i := 0) rfl
      have y2 := V5.out.cell (i := 1) rfl
      have hws : IntKind.i64.wrap (n : Int) = (n : Int) := IntWalk.i64_in _ (by omega)
      go_wp2
      go_meet
      case rel => exact ⟨rfl, Below.refl _ _⟩
    obtain ⟨rfl, b13⟩ := hcut
    obtain ⟨w13, rfl⟩ : ∃ x, x = wc := ⟨_, rfl⟩
    replace V5 := Lib.hid (V5.out.below b13)
    replace HT := Lib.hid (HT.out.below b13)
    replace V6 := Lib.hid (V6.out.below b13)
    replace O18 := Lib.hid (O18.out.below b13)
    replace O22 := Lib.hid (O22.out.below b13)
    replace HB := Lib.hid (bstep HB.out b13)
    clear b13
    go_wp2_with fail
    go_loopw [25, 26, 27] (fun a b i w' => ∃ j : Nat, i = .int .i64 (j : Int) ∧ j ≤ l.length ∧ a = .int .i64 (csN d n j : Int) ∧ b = .int .i64 (mksN d n l j 0 : Int) ∧ Below w13.heap.size w13 w') (fun _ _ i _ => l.length - (intOf i).toNat)
    case atStart => exact ⟨0, rfl, by omega, rfl, rfl, Below.refl _ _⟩
    case round => as_aux_lemma =>
      obtain ⟨j, rfl, hj, rfl, rfl, hb⟩ := hrel
      have HL := Lib.hid hb
      replace V5 := Lib.hid (V5.out.below hb)
      replace HT := Lib.hid (HT.out.below hb)
      replace V6 := Lib.hid (V6.out.below hb)
      replace O18 := Lib.hid (O18.out.below hb)
      replace O22 := Lib.hid (O22.out.below hb)
      replace HB := Lib.hid (bstep HB.out hb)
      clear hb
      by_cases hlt : j < l.length
      · have i1 : (j : Int) < (l.length : Int) := by omega
        have i2 : (0 : Int) ≤ (j : Int) := by omega
        have y1 := V5.out.cell (i := 0) rfl
        have y2 := V5.out.cell (i := 1) rfl
        go_upto_region 23 with fail
        clear y1 y2
        have hf := track_facts HF.out HD.out hlt
        obtain ⟨FR, hFR⟩ : ∃ x, frL d n l j n = x := ⟨_, rfl⟩
        rw [hFR] at hf
        obtain ⟨q1, q2, lFR⟩ := hf
        have Q1_ := Lib.hid q1
        have Q2_ := Lib.hid q2
        have HFR := Lib.hid hFR
        clear q1 q2 hFR
        go_cut [28, 29] from 205 to 211 (fun x y w' => ∃ Az cz, x = .slice Az FR.length cz ∧ y = .int .i64 0 ∧ At1 .i64 w' Az FR ∧ Below wr.heap.size wr w')
        case first => as_aux_lemma =>
          have y1 := V5.out.cell (i := 0) rfl
          have y2 := V5.out.cell (i := 1) rfl
          go_wp2_with (first | (refine wpList_loadD (by rfl) rfl V6.out rfl Tryz.underlying31 size_Drum LD ?_))
          refine (c_implFreePlaces (n : Int) Af cf l d (j : Int) _ HT.out HW.out HH.out hl30 LD WD.out (by omega)).mono ?_
          rintro e ww ⟨Az, cz, rfl, oz, bb⟩
          have HO := Lib.hid oz.at_
          clear oz y1 y2
          rw [Q2_.out] at HO ⊢
          rw [Q1_.out]
          go_wp2
          go_meet
          case rel => exact ⟨Az, cz, rfl, rfl, HO.out, bb⟩
        obtain ⟨A28, c28, rfl, rfl, ha, b14⟩ := hcut
        obtain ⟨w14, rfl⟩ : ∃ x, x = wc := ⟨_, rfl⟩
        replace V5 := Lib.hid (V5.out.below b14)
        replace HT := Lib.hid (HT.out.below b14)
        replace V6 := Lib.hid (V6.out.below b14)
        replace O18 := Lib.hid (O18.out.below b14)
        replace O22 := Lib.hid (O22.out.below b14)
        replace HB := Lib.hid (bstep HB.out b14)
        replace HL := Lib.hid (bstep HL.out b14)
        clear b14
        have O28 := Lib.hid ha
        clear ha
        go_upto_region 24 with fail
        go_cut [30, 31] from 212 to 218 (fun x y w' => ∃ Az cz, x = .slice Az FR.length cz ∧ y = .int .i64 0 ∧ At1 .i64 w' Az FR ∧ Below w14.heap.size w14 w')
        case first => as_aux_lemma =>
          have y1 := V5.out.cell (i := 0) rfl
          have y2 := V5.out.cell (i := 1) rfl
          go_wp2_with (first | (refine wpList_loadD (by rfl) rfl V6.out rfl Tryz.underlying31 size_Drum LD ?_))
          refine (c_specFreePlaces (n : Int) Af cf l d (j : Int) _ HT.out HW.out HH.out hl30 LD WD.out (by omega)).mono ?_
          rintro e ww ⟨Az, cz, rfl, oz, bb⟩
          have HO := Lib.hid oz.at_
          clear oz y1 y2
          rw [Q2_.out] at HO ⊢
          rw [Q1_.out]
          go_wp2
          go_meet
          case rel => exact ⟨Az, cz, rfl, rfl, HO.out, bb⟩
        obtain ⟨A30, c30, rfl, rfl, ha, b15⟩ := hcut
        obtain ⟨w15, rfl⟩ : ∃ x, x = wc := ⟨_, rfl⟩
        replace V5 := Lib.hid (V5.out.below b15)
        replace HT := Lib.hid (HT.out.below b15)
        replace V6 := Lib.hid (V6.out.below b15)
        replace O18 := Lib.hid (O18.out.below b15)
        replace O22 := Lib.hid (O22.out.below b15)
        replace O28 := Lib.hid (O28.out.below b15)
        replace HB := Lib.hid (bstep HB.out b15)
        replace HL := Lib.hid (bstep HL.out b15)
        clear b15
        have O30 := Lib.hid ha
        clear ha
        obtain ⟨RW, hRW⟩ : ∃ x, picR d n l j n = x := ⟨_, rfl⟩
        obtain ⟨q, hq⟩ : ∃ q, l.length - 1 - j = q := ⟨_, rfl⟩
        have hqi : (l.length : Int) - 1 - (j : Int) = (q : Int) := by omega
        have hqp : q < PL.length := by rw [LPL_.out]; omega
        have hRQ : PL[q] = RW := by
          have e1 : PL[q]? = some RW := by
            subst hq
            have h3 : l.length - 1 - j < (picL d n l 0).length := by rw [picL_len]; omega
            rw [K8_.out, List.getElem?_eq_getElem h3, pic_at hlt h3, hRW]
          exact Option.some.inj ((List.getElem?_eq_getElem hqp).symm.trans e1)
        have lRW : RW.length = n := by rw [← hRW, picR_len]
        have HRQ := Lib.hid hRQ
        have HRW := Lib.hid hRW
        have LRW := Lib.hid lRW
        clear hRQ hRW lRW hq
        go_upto_region 25 with fail
        go_cut [32] from 219 to 227 (fun x w' => x = txt RW ∧ Below w15.heap.size w15 w')
        case first => as_aux_lemma =>
          have y1 := V5.out.cell (i := 0) rfl
          have y2 := V5.out.cell (i := 1) rfl
          obtain ⟨gp, op, rfl, hgl, hc⟩ := O18.out.get (by omega)
          have x1 := hc q hqp
          rw [HRQ.out] at x1
          clear hc
          have hw1 : IntKind.i64.wrap ((l.length : Int) - 1) = (l.length : Int) - 1 := IntWalk.i64_in _ (by omega)
          have hw2 : IntKind.i64.wrap ((l.length : Int) - 1 - (j : Int)) = (q : Int) := by rw [hqi]; exact IntWalk.i64_in _ (by omega)
          have hq1 : (q : Int) < (PL.length : Int) := by omega
          have hq0 : (0 : Int) ≤ (q : Int) := by omega
          go_wp2
          go_meet
          case rel => exact ⟨rfl, Below.refl _ _⟩
        obtain ⟨rfl, b16⟩ := hcut
        obtain ⟨w16, rfl⟩ : ∃ x, x = wc := ⟨_, rfl⟩
        replace V5 := Lib.hid (V5.out.below b16)
        replace HT := Lib.hid (HT.out.below b16)
        replace V6 := Lib.hid (V6.out.below b16)
        replace O18 := Lib.hid (O18.out.below b16)
        replace O22 := Lib.hid (O22.out.below b16)
        replace O28 := Lib.hid (O28.out.below b16)
        replace O30 := Lib.hid (O30.out.below b16)
        replace HB := Lib.hid (bstep HB.out b16)
        replace HL := Lib.hid (bstep HL.out b16)
        clear b16
        go_upto_region 26 with fail
        go_cut [246] from 228 to 246 (fun x w' => x = .bool false ∧ Below w16.heap.size w16 w')
        case first => as_aux_lemma =>
          have e1 : ((RW.length : Int) != (n : Int)) = false := by simp [LRW.out]
          go_wp2_with fail
          refine (c_A2Same A28 A30 c28 c30 FR _ O28.out O30.out lFR).mono ?_
          rintro e ww ⟨rfl, bb⟩
          go_wp2
          go_meet
          case rel => exact ⟨by first | rfl | (simp [LRW.out]; done), bb⟩
        obtain ⟨rfl, b17⟩ := hcut
        obtain ⟨w17, rfl⟩ : ∃ x, x = wc := ⟨_, rfl⟩
        replace V5 := Lib.hid (V5.out.below b17)
        replace HT := Lib.hid (HT.out.below b17)
        replace V6 := Lib.hid (V6.out.below b17)
        replace O18 := Lib.hid (O18.out.below b17)
        replace O22 := Lib.hid (O22.out.below b17)
        replace O28 := Lib.hid (O28.out.below b17)
        replace O30 := Lib.hid (O30.out.below b17)
        replace HB := Lib.hid (bstep HB.out b17)
        replace HL := Lib.hid (bstep HL.out b17)
        clear b17
        clear O28
        go_wp2_with fail
        go_loopw [26, 33, 34] (fun b a i w' => ∃ k : Nat, i = .int .i64 (k : Int) ∧ k ≤ n ∧ a = .int .i64 (cntT d j k : Int) ∧ b = .int .i64 (mksN d n l j k : Int) ∧ Below w17.heap.size w17 w') (fun _ _ i _ => n - (intOf i).toNat)
        case atStart => exact ⟨0, rfl, by omega, rfl, rfl, Below.refl _ _⟩
        case round => as_aux_lemma =>
          obtain ⟨k, rfl, hk, rfl, rfl, hb⟩ := hrel
          have HM := Lib.hid hb
          replace V5 := Lib.hid (V5.out.below hb)
          replace HT := Lib.hid (HT.out.below hb)
          replace V6 := Lib.hid (V6.out.below hb)
          replace O18 := Lib.hid (O18.out.below hb)
          replace O22 := Lib.hid (O22.out.below hb)
          replace O30 := Lib.hid (O30.out.below hb)
          replace HB := Lib.hid (bstep HB.out hb)
          replace HL := Lib.hid (bstep HL.out hb)
          clear hb
          by_cases hkn : k < n
          · have i3 : (k : Int) < (n : Int) := by omega
            have i4 : (0 : Int) ≤ (k : Int) := by omega
            go_upto_region 32 with fail
            have hs := step_facts HF.out HD.out hkn hlt
            obtain ⟨pb, hpb⟩ : ∃ x, pinB d k j = x := ⟨_, rfl⟩
            rw [hpb, HFR.out, HK_.out] at hs
            obtain ⟨s1, s2, s3, s4⟩ := hs
            have hkr : k < RW.length := by rw [LRW.out]; exact hkn
            have hk2 : k < d.length := by omega
            have hcp : RW[k] = picB d n l k j := by
              have e1 : RW[k]? = some (picB d n l k j) := by rw [← HRW.out, List.getElem?_eq_getElem (by rw [picR_len]; exact hkn), picR_at hkn]
              exact Option.some.inj ((List.getElem?_eq_getElem hkr).symm.trans e1)
            obtain ⟨mb, hmb⟩ : ∃ x, (pinB d k j && clB d n l k j) = x := ⟨_, rfl⟩
            obtain ⟨cv, hcv⟩ : ∃ v : Int, ((RW[k]'hkr).toNat : Int) = v := ⟨_, rfl⟩
            have c46 : (cv == 46) = !pb := by rw [← hcv, hcp, pic_dot, hpb]
            have c33 : (cv == 33) = mb := by rw [← hcv, hcp, pic_mark, hmb]
            have hms := mksN_succ d n l j k
            rw [hmb] at hms
            have how := cntT_succ d j k
            rw [hpb] at how
            have hmk : mksN d n l j k ≤ 102 := by
              have a1 := mksN_le d n l j k
              have a2 := Nat.mul_le_mul (show n ≤ 17 by omega) (show j ≤ 5 by omega)
              omega
            have hcn := cntT_le d j k
            have hw1 : IntKind.i64.wrap ((mksN d n l j k : Int) + 1) = (mksN d n l j k : Int) + 1 := IntWalk.i64_in _ (by omega)
            have hw2 : IntKind.i64.wrap ((cntT d j k : Int) + 1) = (cntT d j k : Int) + 1 := IntWalk.i64_in _ (by omega)
            have HW1 := Lib.hid hw1
            have HW2 := Lib.hid hw2
            have hwk : IntKind.i64.wrap ((k : Int) + 1) = (k : Int) + 1 := IntWalk.i64_in _ (by omega)
            clear hmk hcn hw1 hw2
            have S1_ := Lib.hid s1
            have S2_ := Lib.hid s2
            have S3_ := Lib.hid s3
            have S4_ := Lib.hid s4
            have HPB_ := Lib.hid hpb
            have HMB_ := Lib.hid hmb
            have HCV_ := Lib.hid hcv
            have C46_ := Lib.hid c46
            have C33_ := Lib.hid c33
            have HMS_ := Lib.hid hms
            have HOW_ := Lib.hid how
            clear s1 s2 s3 s4 hpb hmb hcv c46 c33 hms how hcp
            go_cut [35, 36] from 252 to 259 (fun x y w' => x = .bool pb ∧ y = .int .i64 0 ∧ Below wr.heap.size wr w')
            case first => as_aux_lemma =>
              have y1 := V5.out.cell (i := 0) rfl
              have y2 := V5.out.cell (i := 1) rfl
              go_wp2_with (first | (refine wpList_loadD (by rfl) rfl V6.out rfl Tryz.underlying31 size_Drum LD ?_))
              refine (c_implHasPin (n : Int) Af cf l d (k : Int) (j : Int) _ HT.out HW.out HH.out hl30 LD WD.out (by omega) (by omega)).mono ?_
              rintro e ww ⟨rfl, bb⟩
              clear y1 y2
              rw [S2_.out, S1_.out]
              go_wp2
              go_meet
              case rel => exact ⟨rfl, rfl, bb⟩
            obtain ⟨rfl, rfl, b18⟩ := hcut
            obtain ⟨w18, rfl⟩ : ∃ x, x = wc := ⟨_, rfl⟩
            replace V5 := Lib.hid (V5.out.below b18)
            replace HT := Lib.hid (HT.out.below b18)
            replace V6 := Lib.hid (V6.out.below b18)
            replace O18 := Lib.hid (O18.out.below b18)
            replace O22 := Lib.hid (O22.out.below b18)
            replace O30 := Lib.hid (O30.out.below b18)
            replace HB := Lib.hid (bstep HB.out b18)
            replace HL := Lib.hid (bstep HL.out b18)
            replace HM := Lib.hid (bstep HM.out b18)
            clear b18
            go_upto_region 33 with fail
            go_cut [281] from 260 to 281 (fun x w' => x = .bool false ∧ Below w18.heap.size w18 w')
            case first => as_aux_lemma =>
              have x1 := V6.out.cell (drumV_get hk2)
              have h2 : (k : Int) < 96 := by omega
              have h3 : IntKind.u64.wrap (j : Int) = (j : Int) := IntWalk.u64_in _ (by omega)
              have h4 : min j 32 = j := by omega
              have hkR : (k : Int) < (RW.length : Int) := by omega
              have v0 : ((d[k] / 2 ^ j).tmod 2 == 1) = pb := by rw [tmod_two (div_bd (WD.out.get hk2) j).1, ← pinB_at hk2]; exact HPB_.out
              have c0 := C46_.out
              rcases pb with _ | _
              · have v1 : ((d[k] / 2 ^ j).tmod 2 = 1) = False := by simpa using v0
                have c1 : (cv = 46) = True := by simpa using c0
                go_wp2_with (refine wpList_idxC RW k hkr cv HCV_.out (by rfl) rfl hst rfl rfl ?_)
                go_meet
                case rel => exact ⟨by first | rfl | simp [v1, c1], Below.refl _ _⟩
              · have v1 : ((d[k] / 2 ^ j).tmod 2 = 1) = True := by simpa using v0
                have c1 : (cv = 46) = False := by simpa using c0
                go_wp2_with (refine wpList_idxC RW k hkr cv HCV_.out (by rfl) rfl hst rfl rfl ?_)
                go_meet
                case rel => exact ⟨by first | rfl | simp [v1, c1], Below.refl _ _⟩
            obtain ⟨rfl, b19⟩ := hcut
            obtain ⟨w19, rfl⟩ : ∃ x, x = wc := ⟨_, rfl⟩
            replace V5 := Lib.hid (V5.out.below b19)
            replace HT := Lib.hid (HT.out.below b19)
            replace V6 := Lib.hid (V6.out.below b19)
            replace O18 := Lib.hid (O18.out.below b19)
            replace O22 := Lib.hid (O22.out.below b19)
            replace O30 := Lib.hid (O30.out.below b19)
            replace HB := Lib.hid (bstep HB.out b19)
            replace HL := Lib.hid (bstep HL.out b19)
            replace HM := Lib.hid (bstep HM.out b19)
            clear b19
            go_upto_region 35 with fail
            go_cut [285] from 282 to 285 (fun x w' => x = .bool mb ∧ Below w19.heap.size w19 w')
            case first => as_aux_lemma =>
              have c0 := C33_.out
              have hkR : (k : Int) < (RW.length : Int) := by omega
              rcases mb with _ | _
              · have c1 : (cv = 33) = False := by simpa using c0
                go_wp2_with (refine wpList_idxC RW k hkr cv HCV_.out (by rfl) rfl hst rfl rfl ?_)
                go_meet
                case rel => exact ⟨by first | rfl | simp [c1], Below.refl _ _⟩
              · have c1 : (cv = 33) = True := by simpa using c0
                go_wp2_with (refine wpList_idxC RW k hkr cv HCV_.out (by rfl) rfl hst rfl rfl ?_)
                go_meet
                case rel => exact ⟨by first | rfl | simp [c1], Below.refl _ _⟩
            obtain ⟨rfl, b20⟩ := hcut
            obtain ⟨w20, rfl⟩ : ∃ x, x = wc := ⟨_, rfl⟩
            replace V5 := Lib.hid (V5.out.below b20)
            replace HT := Lib.hid (HT.out.below b20)
            replace V6 := Lib.hid (V6.out.below b20)
            replace O18 := Lib.hid (O18.out.below b20)
            replace O22 := Lib.hid (O22.out.below b20)
            replace O30 := Lib.hid (O30.out.below b20)
            replace HB := Lib.hid (bstep HB.out b20)
            replace HL := Lib.hid (bstep HL.out b20)
            replace HM := Lib.hid (bstep HM.out b20)
            clear b20
            go_upto_if 285 with fail
            go_cut [26] from 286 to 287 (fun x w' => x = .int .i64 (mksN d n l j (k + 1) : Int) ∧ Below w20.heap.size w20 w')
            case first => as_aux_lemma =>
              have hw1 := HW1.out
              rcases mb with _ | _
              · go_wp2
                go_meet
                case rel => exact ⟨by rw [HMS_.out]; simp, Below.refl _ _⟩
              · go_wp2
                go_meet
                case rel => exact ⟨by rw [HMS_.out]; simp, Below.refl _ _⟩
            obtain ⟨rfl, b21⟩ := hcut
            obtain ⟨w21, rfl⟩ : ∃ x, x = wc := ⟨_, rfl⟩
            replace V5 := Lib.hid (V5.out.below b21)
            replace HT := Lib.hid (HT.out.below b21)
            replace V6 := Lib.hid (V6.out.below b21)
            replace O18 := Lib.hid (O18.out.below b21)
            replace O22 := Lib.hid (O22.out.below b21)
            replace O30 := Lib.hid (O30.out.below b21)
            replace HB := Lib.hid (bstep HB.out b21)
            replace HL := Lib.hid (bstep HL.out b21)
            replace HM := Lib.hid (bstep HM.out b21)
            clear b21
            rcases pb with _ | _
            · obtain ⟨s5, wR, lR, s6, s7, s8⟩ := S4_.out rfl
              obtain ⟨R, hR⟩ : ∃ x, rW (n : Int) l d (k : Int) (j : Int) true = x := ⟨_, rfl⟩
              rw [hR] at wR lR s6 s7 s8
              obtain ⟨K2, hK2⟩ : ∃ x, rCl (n : Int) l R = x := ⟨_, rfl⟩
              rw [hK2] at s7 s8
              have S5_ := Lib.hid s5
              have WR_ := Lib.hid wR
              have S6_ := Lib.hid s6
              have S7_ := Lib.hid s7
              have S8_ := Lib.hid s8
              have HR_ := Lib.hid hR
              have HK2_ := Lib.hid hK2
              clear s5 wR s6 s7 s8 hR hK2
              go_upto_region 41 with fail
              go_cut [37, 38] from 294 to 301 (fun x y w' => ∃ g, x = .pointer (some ⟨g, 0, none⟩) ∧ y = .int .i64 0 ∧ Var w' g (drumV R) 31 ∧ Below w21.heap.size w21 w')
              case first => as_aux_lemma =>
                have y1 := V5.out.cell (i := 0) rfl
                have y2 := V5.out.cell (i := 1) rfl
                go_wp2_with (first | (refine wpList_loadD (by rfl) rfl V6.out rfl Tryz.underlying31 size_Drum LD ?_))
                refine (c_specWithPin (n : Int) Af cf l d (k : Int) (j : Int) _ HT.out HW.out HH.out hl30 LD WD.out (by omega) (by omega)).mono ?_
                rintro e ww ⟨rfl, bb⟩
                rw [HR_.out, S5_.out]
                clear y1 y2
                go_wp2_with (first | (refine wpList_alloc_row rfl 31 rfl (.agg (drumV zD)) zero_Drum ?_) | (refine wpList_storeD rfl rfl (Var.new ww (drumV zD) 31) rfl rfl size_Drum lR zD_len ?_))
                go_meet
                case rel => exact ⟨_, rfl, rfl, (Var.new _ _ _).row _, brow (balloc bb _) bb.size _⟩
              obtain ⟨g37, rfl, rfl, v, b22⟩ := hcut
              obtain ⟨w22, rfl⟩ : ∃ x, x = wc := ⟨_, rfl⟩
              replace V5 := Lib.hid (V5.out.below b22)
              replace HT := Lib.hid (HT.out.below b22)
              replace V6 := Lib.hid (V6.out.below b22)
              replace O18 := Lib.hid (O18.out.below b22)
              replace O22 := Lib.hid (O22.out.below b22)
              replace O30 := Lib.hid (O30.out.below b22)
              replace HB := Lib.hid (bstep HB.out b22)
              replace HL := Lib.hid (bstep HL.out b22)
              replace HM := Lib.hid (bstep HM.out b22)
              clear b22
              have V37 := Lib.hid v
              clear v
              go_upto_region 42 with fail
              go_cut [39, 40] from 302 to 307 (fun x y w' => ∃ Az cz, x = .slice Az K2.length cz ∧ y = .int .i64 0 ∧ At2 .i64 .i64 w' Az K2 ∧ Below w22.heap.size w22 w')
              case first => as_aux_lemma =>
                have y1 := V5.out.cell (i := 0) rfl
                have y2 := V5.out.cell (i := 1) rfl
                go_wp2_with (first | (refine wpList_loadD (by rfl) rfl V37.out rfl Tryz.underlying31 size_Drum lR ?_))
                refine (c_specClashesOf (n : Int) Af cf l R _ HT.out HW.out HH.out hl30 lR WR_.out).mono ?_
                rintro e ww ⟨Az, cz, rfl, oz, bb⟩
                have HO := Lib.hid oz.at_
                clear oz y1 y2
                rw [HK2_.out] at HO ⊢
                rw [S6_.out]
                go_wp2
                go_meet
                case rel => exact ⟨Az, cz, rfl, rfl, HO.out, bb⟩
              obtain ⟨A39, c39, rfl, rfl, ha, b23⟩ := hcut
              obtain ⟨w23, rfl⟩ : ∃ x, x = wc := ⟨_, rfl⟩
              replace V5 := Lib.hid (V5.out.below b23)
              replace HT := Lib.hid (HT.out.below b23)
              replace V6 := Lib.hid (V6.out.below b23)
              replace O18 := Lib.hid (O18.out.below b23)
              replace O22 := Lib.hid (O22.out.below b23)
              replace O30 := Lib.hid (O30.out.below b23)
              replace V37 := Lib.hid (V37.out.below b23)
              replace HB := Lib.hid (bstep HB.out b23)
              replace HL := Lib.hid (bstep HL.out b23)
              replace HM := Lib.hid (bstep HM.out b23)
              clear b23
              clear ha
              clear V37
              go_upto_region 43 with fail
              go_cut [336] from 308 to 336 (fun x w' => x = .bool false ∧ Below w23.heap.size w23 w')
              case first => as_aux_lemma =>
                by_cases hm : (k : Int) ∈ FR
                · have q0 := S7_.out hm
                  have e2 : ((K.length : Int) < (K2.length : Int)) = False := eq_false (by omega)
                  have e1 : decide ((K.length : Int) < (K2.length : Int)) = false := decide_eq_false (by omega)
                  clear q0
                  go_wp2_with fail
                  refine (c_A2Has A30 c30 FR (k : Int) _ O30.out lFR).mono ?_
                  rintro e wba ⟨rfl, ba⟩
                  rw [decide_eq_true hm]
                  go_wp2_with fail
                  refine (c_A2Has A30 c30 FR (k : Int) _ (O30.out.below ba) lFR).mono ?_
                  rintro e wbb ⟨rfl, bb⟩
                  rw [decide_eq_true hm]
                  go_wp2_with fail
                  go_meet
                  case rel => exact ⟨by first | rfl | simp, bstep ba bb⟩
                · have q0 := S8_.out hm
                  have e1 : ((K2.length : Int) == 0) = false := by simpa using (by omega : ¬ K2.length = 0)
                  have e2 : ((K2.length : Int) = 0) = False := eq_false (by omega)
                  have e3 : (K2.length = 0) = False := eq_false (by omega)
                  have e4 : (K2 = []) = False := eq_false (by rintro rfl; simp at q0)
                  clear q0
                  go_wp2_with fail
                  refine (c_A2Has A30 c30 FR (k : Int) _ O30.out lFR).mono ?_
                  rintro e wba ⟨rfl, ba⟩
                  rw [decide_eq_false hm]
                  go_wp2_with fail
                  refine (c_A2Has A30 c30 FR (k : Int) _ (O30.out.below ba) lFR).mono ?_
                  rintro e wbb ⟨rfl, bb⟩
                  rw [decide_eq_false hm]
                  go_wp2_with fail
                  go_meet
                  case rel => exact ⟨by first | rfl | simp, bstep ba bb⟩
              obtain ⟨rfl, b24⟩ := hcut
              obtain ⟨w24, rfl⟩ : ∃ x, x = wc := ⟨_, rfl⟩
              replace V5 := Lib.hid (V5.out.below b24)
              replace HT := Lib.hid (HT.out.below b24)
              replace V6 := Lib.hid (V6.out.below b24)
              replace O18 := Lib.hid (O18.out.below b24)
              replace O22 := Lib.hid (O22.out.below b24)
              replace O30 := Lib.hid (O30.out.below b24)
              replace HB := Lib.hid (bstep HB.out b24)
              replace HL := Lib.hid (bstep HL.out b24)
              replace HM := Lib.hid (bstep HM.out b24)
              clear b24
              go_wp2
              go_roundw
              case rel => exact ⟨k + 1, by go_num, by omega, by rw [HOW_.out]; simp, rfl, HM.out⟩
              case measure => simp [intOf]; omega
            · have hw2 := HW2.out
              have hnm := S3_.out rfl
              have NM := Lib.hid hnm
              clear hnm
              go_wp2_with fail
              refine (c_A2Has A30 c30 FR (k : Int) _ O30.out lFR).mono ?_
              rintro e wa ⟨rfl, ba⟩
              rw [decide_eq_false NM.out]
              go_wp2
              go_roundw
              case rel => exact ⟨k + 1, by go_num, by omega, by rw [HOW_.out]; simp, rfl, bstep HM.out ba⟩
              case measure => simp [intOf]; omega
          · have hnk : n = k := by omega
            subst hnk
            have hjb : j < BY.length := by rw [LBY_.out]; exact hlt
            obtain ⟨gb, ob, hAe, hgl, hc⟩ := O22.out.get (by omega)
            have x1 := hc j hjb
            have hby : BY[j] = (cntT d j n : Int) := by
              have e1 : BY[j]? = some (cntT d j n : Int) := by
                have h3 : j < (cntU d l.length n 0).length := by unfold cntU; simpa using hlt
                rw [K10_.out, List.getElem?_eq_getElem h3, cntU_get]; simp
              exact Option.some.inj ((List.getElem?_eq_getElem hjb).symm.trans e1)
            rw [hby] at x1
            clear hc hby
            subst hAe
            have hcs : csN d n j ≤ 85 := Nat.le_trans (csN_le d n j) (Nat.mul_le_mul (show n ≤ 17 by omega) (show j ≤ 5 by omega))
            have hcn := cntT_le d j n
            have hw1 : IntKind.i64.wrap ((csN d n j : Int) + (cntT d j n : Int)) = (csN d n j : Int) + (cntT d j n : Int) := IntWalk.i64_in _ (by omega)
            have hwj : IntKind.i64.wrap ((j : Int) + 1) = (j : Int) + 1 := IntWalk.i64_in _ (by omega)
            have hjB : (j : Int) < (BY.length : Int) := by omega
            clear hcs hcn
            go_wp2
            go_roundw
            case rel => exact ⟨j + 1, by go_num, by omega, by rw [csN_succ, Int.natCast_add], by rw [← mksN_next], HL.out⟩
            case measure => simp [intOf]; omega
      · obtain rfl : j = l.length := by omega
        have y1 := V5.out.cell (i := 0) rfl
        have y2 := V5.out.cell (i := 1) rfl
        have e1 : ((csN d n l.length : Int) == (SN : Int)) = true := by rw [HSN2_.out]; simp
        have e2 : ((mksN d n l l.length 0 : Int) == (K.length : Int)) = true := by rw [K11_.out, mksN_all]; simp
        have e3 : ((csN d n l.length : Int) = (SN : Int)) = True := eq_true (by rw [HSN2_.out])
        have e4 : ((mksN d n l l.length 0 : Int) = (K.length : Int)) = True := eq_true (by rw [K11_.out, mksN_all])
        go_wp2
        go_ret
        exact ⟨by first | rfl | simp [HSN2_.out, K11_.out, mksN_all], HB.out⟩
  · go_enter Tryz.func3, Tryz.ntmps3
    go_wp2_with fail
    refine (c_a2Long A B kc km code.length more.length _).mono ?_
    rintro e w' ⟨rfl, rfl⟩
    rw [hlong]
    go_wp2
    go_ret
    exact ⟨rfl, Below.refl _ _⟩
end Go.Proofs.YtjcbailckchnoaaGreatDoor
namespace Go.Proofs.YtjcbailckchnoaaGreatDoor.ofPins
open Go.ChangeShapes Go.WideShapes Go.ChangeAt Go.RowKit
theorem own : ownKnob Tryz.prog.godebug = none := by kernel_rfl
theorem laidOut : laidOutB Tryz.prog = true := by kernel_rfl
def laid7 : List (String × DataW Unit) := Rows.fnPinsRow.laid
set_option maxRecDepth 100000 in
theorem lifted (os : Os) (started : os.Started) (H : Type) (enc : TypeId × Value → H) :
    ReturnsInHanded {} Tryz.checked os 3 .any (fun w args => (Rows.fnPinsSpec.pre enc Tryz.prog Tryz.f3 [] false w args ∧ laidMetH Tryz.prog laid7 w) ∧ sizedMet enc Tryz.prog Tryz.f3 (OpenSpec.ofChange Rows.fnPinsSpec) false w args)
      (Rows.fnPinsSpec.post enc Tryz.prog Tryz.f3 false true false false) := by
  refine wrap_listed_shaped (C := Tryz.checked) (X := fun w _ => laidMetH Tryz.prog laid7 w) (fun _ _ _ hh h => h.of_heap hh) own started (by kernel_rfl) Tryz.func3
    (ChangeSpec.witness_shaped (enc := enc) (C := Tryz.checked) (os := os) (X := fun w _ => laidMetH Tryz.prog laid7 w) false (World.laidAll Tryz.prog os laid7) #[.slice none 0 0, .slice none 0 0] 8 (World.laidAll_os _ _ _)
      (World.shaped_of_ZipB (by kernel_rfl) (by kernel_rfl)) (by kernel_rfl) (by kernel_rfl) (by kernel_rfl)
      (by rw [MakeChecks.laidMetH_plain _ _ _ (by kernel_rfl)]; exact laidMet_laidAll _ (by kernel_rfl) (by kernel_rfl))) ?_
  intro W base args ds gs before hval0 hW hL hsh
  have hval : ∀ (j : Nat) t v, Tryz.f3.params[j]? = some t → args[j]? = some v → Value.okWide Tryz.prog W .any base t v := hval0
  have hW' := hW
  have hlt := fun p (hp : p ∈ before) => hW.lt p hp
  obtain ⟨p, q, hA0, hV, rfl, hfz, hnd⟩ := hW
  have hA : DataW.TrodAll enc Tryz.prog W 0 (fun _ => true) true Tryz.f3.params.toList args.toList ds p := hA0
  obtain ⟨rfl, rfl⟩ := trodVars_none hV
  simp only [List.append_nil] at hlt hW'
  have hback := fun W' hb => trodAll_below (W' := W') laidOut hb (by rw [Tryz.params3]; decide +kernel) hlt hA
  rw [Tryz.params3] at hA hval
  obtain ⟨v0, vs0, d0, ds0, p0, q0, hargs, rfl, rfl, h0, r0⟩ := trodAll_cons hA
  obtain ⟨v1, vs1, d1, ds1, p1, q1, rfl, rfl, rfl, h1, r1⟩ := trodAll_cons r0
  obtain ⟨rfl, rfl, rfl⟩ := trodAll_nil r1
  obtain rfl : args = #[v0, v1] := by cases args; simp_all
  obtain ⟨A, ka, code, rfl, hnl, hra, hca⟩ := open_bytes1 Tryz.underlying22 Tryz.underlying5 (by kernel_rfl) (hval 0 _ _ rfl rfl) h0
  obtain ⟨B, kb, more, rfl, hnm, hrb, hcb⟩ := open_bytes1 Tryz.underlying22 Tryz.underlying5 (by kernel_rfl) (hval 1 _ _ rfl rfl) h1
  have hL3 : laidMet Tryz.prog (Rows.fnPinsRow.laid) W := by
    rw [← MakeChecks.laidMetH_plain _ _ _ (by kernel_rfl)]; exact hL
  refine (law_Pins A B ka kb code more W hra hrb hca hcb (tabs_of (show laidMet Tryz.prog [("math/bits.deBruijn32tab", Rows.laid_math_bits_deBruijn32tab), ("math/bits.deBruijn64tab", Rows.laid_math_bits_deBruijn64tab), ("internal/strconv.uint64pow10", Rows.laid_internal_strconv_uint64pow10), ("unicode/utf8.acceptRanges", Rows.laid_unicode_utf8_acceptRanges), ("strconv.ErrRange", Rows.laid_strconv_ErrRange), ("strconv.ErrSyntax", Rows.laid_strconv_ErrSyntax), ("unicode/utf8.first", Rows.laid_unicode_utf8_first)] W from hL3) hsh)).mono fun e W' ⟨he, bel⟩ => ?_
  subst he
  exact ⟨_, rfl, _, _, _, [], _, [], hW', trodAll_mk1 (shut_bool Tryz.underlying4 _), hback W' bel, rfl, bel.frame _, fun h => by cases h⟩
theorem over : Rows.fnPinsRow.holds Tryz.pinned (OpenSpec.ofChange Rows.fnPinsSpec) :=
  OpenClaim.holds_of_wide 3 Tryz.f3 rfl rfl rfl rfl rfl rfl rfl ⟨rfl, rfl, rfl, rfl, rfl⟩ rfl rfl rfl rfl rfl (by kernel_rfl) Tryz.func3 (by kernel_rfl)
    (of_decide_eq_true (by kernel_rfl)) (by unfold Func.isWrapper; first | (rw [if_pos (by decide +kernel)]; kernel_rfl) | (rw [if_neg (by decide +kernel)]; exact ⟨rfl, rfl⟩))
    (fun os started H enc _ => lifted os started H enc)
theorem card : Rows.FnPinsCardSaid :=
  Claim7.holds_tied_plain_at .later [] [.data, .data, .data, .data, .sentinel, .sentinel, .pinned] true (true, "00c9fa5072123d0f33d6745ccb67ec9278b67ec3860be1c60251d224f55e622d") true
    over (fun _ h => by cases h) (by kernel_rfl) (fun _ h => by cases h) fnPins_row_tie rfl ⟨rfl, rfl⟩ (by kernel_rfl) rfl
    (fun f fn hf hfn => by
      obtain rfl : f = 3 := Option.some.inj ((show Tryz.prog.funcNamed "loop.example/g01311/laws.FnPins" = some 3 by kernel_rfl).symm.trans hf) |>.symm
      obtain rfl : fn = Tryz.f3 := (Option.some.inj (Tryz.func3.symm.trans hfn)).symm
      exact ⟨by kernel_rfl, fun j t ht => by
        rw [Tryz.params3] at ht
        have hm : t ∈ [22] := by simpa using Array.mem_of_getElem? ht
        have hall : ([22].all fun u => !Tryz.prog.wantsStandIn u) = true := by kernel_rfl
        exact (show Tryz.prog.wantsStandIn t = false by simpa using List.all_eq_true.1 hall t hm)⟩)
    (by kernel_rfl)
end Go.Proofs.YtjcbailckchnoaaGreatDoor.ofPins
namespace Go.Proofs.YtjcbailckchnoaaGreatDoor
theorem fnPinsCard_holds : Rows.FnPinsCardSaid := ofPins.card
#print axioms fnPinsCard_holds
end Go.Proofs.YtjcbailckchnoaaGreatDoor
