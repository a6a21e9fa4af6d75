/-
  The walks of ReadFrame, in the reference and in the program.
-/
import Derived.Test.YtjcbailckchnoaaGreatDoorWalkRE
import Derived.Test.YtjcbailckchnoaaGreatDoorWalkDB
import Derived.Test.YtjcbailckchnoaaGreatDoorWalkDC
import Derived.Test.YtjcbailckchnoaaGreatDoorData
namespace Go.Proofs.YtjcbailckchnoaaGreatDoor
open Go.RowKit
set_option linter.unusedVariables false
set_option linter.unusedSimpArgs false
set_option maxRecDepth 4000

theorem results_frame_int {P : Program} {fn : Func} {p r : Tmp} {tf : TypeId} {df : TypeDesc} (h : fn.results = #[.cell p tf, .tmp r]) (tmps : Array Value) (w : World) (g : Nat) (t : TypeId) (cs : Array Value)
    (hp : tmps.getD p undef = .pointer (some ⟨g, 0, none⟩)) (hg : Var w g cs t) (huf : P.underlying tf = some df) (hdf : (match df with | .struct _ | .array _ _ => true | _ => false) = true) (hif : (P.info? tf).map (·.size) = some cs.size) :
    (results fn tmps).run P w = .ok (.tuple #[.agg cs, tmps.getD r undef]) w := by
  have hp' : tmps[p]?.getD undef = .pointer (some ⟨g, 0, none⟩) := by simpa using hp
  simp [results, h, hp', asAddr, run_loadVar_row w g t tf cs (0, 0) _ hg huf hdf hif]
theorem AtS.drop {w : World} {b off : Nat} {x : List UInt8} {l : List (List UInt8)} (h : AtS w (some ⟨b, off, none⟩) (x :: l)) : AtS w (some ⟨b, off + 1, none⟩) l := by
  intro hne
  obtain ⟨b', off', e, hlt, hc⟩ := Row.get h (by simp)
  simp only [Option.some.injEq, Addr.mk.injEq] at e
  obtain ⟨rfl, rfl, _⟩ := e
  refine ⟨b, off + 1, rfl, hlt, fun j hj => ?_⟩
  have := hc (j + 1) (by simpa using hj)
  rw [show off + 1 + j = off + (j + 1) by omega, this]
  simp
/-- What a text of a frame reads as. -/
def fOK (s : List UInt8) : Bool := match spl 32 s with
  | [] => false
  | p0 :: R => (numI 96 p0).isSome && allO hamO R && okF (numZ (numI 96 p0)) (got hamO R R.length)
def fS (s : List UInt8) : Int := if fOK s then numZ (numI 96 ((spl 32 s).headD [])) else 0
def fL (s : List UInt8) : List (Int × Int) := if fOK s then got hamO (spl 32 s).tail (spl 32 s).tail.length else []
def fC (s : List UInt8) : Int := if fOK s then 0 else 5
theorem got_whs {R : List (List UInt8)} {k : Nat} : Whs (got hamO R k) := by
  intro p hp
  obtain ⟨t, ht⟩ := got_mem hp
  have := hamO_bd ht
  unfold Wh
  omega
theorem fL_len (s : List UInt8) (hs : s.length ≤ 1048576) : (fL s).length ≤ 1048577 := by
  unfold fL
  split
  · refine Nat.le_trans (got_len _ _ _) ?_
    have := spl_len 32 s
    rw [List.length_tail]; omega
  · simp


theorem cut_len (t : List UInt8) (c : UInt8) : (Lib.cut t [c]).1.length ≤ t.length ∧ (Lib.cut t [c]).2.1.length ≤ t.length := by
  rcases index_cases t c with h | ⟨i, h⟩
  · rw [cut_miss h]; simp
  · rw [cut_hit h]; simp; omega
theorem number_96 (t : List UInt8) (w : World) (hl : t.length ≤ 1048576) (ht : Tabs w) :
    Calls Tryz.prog 30 #[txt t, .int .i64 96] w fun e w' => e = .returned (numA 96 t) ∧ Below w.heap.size w w' := c_number t 96 w (by decide) hl ht
theorem number_20 (t : List UInt8) (w : World) (hl : t.length ≤ 1048576) (ht : Tabs w) :
    Calls Tryz.prog 30 #[txt t, .int .i64 20] w fun e w' => e = .returned (numA 20 t) ∧ Below w.heap.size w w' := c_number t 20 w (by decide) hl ht
set_option maxHeartbeats 1600000 in
theorem c_implReadFrame (s : List UInt8) (w : World) (hs : s.length ≤ 1048576) (ht : Tabs w) :
    Calls Tryz.prog 7 #[txt s] w fun e w' => ∃ A' c', e = .returned (.tuple #[.agg #[.int .i16 (fS s), .slice A' (fL s).length c'], .int .i64 (fC s)]) ∧ Own2 .i8 .i8 76 w' w.heap.size (.slice A' (fL s).length c') (fL s) ∧ Below w.heap.size w w' := by
  have hst := Tryz.underlying9
  have hu := Tryz.underlying76
  have hu2 := Tryz.underlying27
  have V0 := Lib.hid (Var.new w #[.int .i16 0, .slice none 0 0] 27)
  have B0 := balloc (Below.refl _ w) (.cells #[.int .i16 0, .slice none 0 0] 27)
  obtain ⟨P, hP⟩ : ∃ P, spl 32 s = P := ⟨_, rfl⟩
  have hPl : P.length ≤ 1048577 := by rw [← hP]; exact Nat.le_trans (spl_len 32 s) (by omega)
  have hpc : ∀ x ∈ P, x.length ≤ 1048576 := fun x hx => by rw [← hP] at hx; exact Nat.le_trans (spl_piece 32 s x hx) hs
  obtain ⟨p0, R, rfl⟩ : ∃ p0 R, P = p0 :: R := by
    cases P with
    | nil => exact absurd hP (spl_ne 32 s)
    | cons p0 R => exact ⟨p0, R, rfl⟩
  have hFO : fOK s = ((numI 96 p0).isSome && allO hamO R && okF (numZ (numI 96 p0)) (got hamO R R.length)) := by unfold fOK; rw [hP]
  have HFO := Lib.hid hFO
  have HP := Lib.hid hP
  have hp0 := hpc p0 (by simp)
  have hRl : R.length ≤ 1048576 := by simp at hPl; omega
  have HPC := Lib.hid (fun j (hj : j < R.length) => hpc R[j] (List.mem_cons_of_mem _ (List.getElem_mem hj)))
  clear hFO hPl hpc
  have HTB := Lib.hid ht.tabsB
  clear ht
  go_enter Tryz.func7, Tryz.ntmps7
  go_wp2_with fail
  refine (c_Split s 32 _ hs (HTB.out.on B0).here).mono ?_
  rintro e w1 ⟨Ap, rfl, hop, b1⟩
  rw [HP.out] at hop ⊢
  have V1 := Lib.hid (V0.out.below b1)
  have B1 := bstep B0 b1
  obtain ⟨bp, offp, rfl, hbl, hcell⟩ := hop.get (by simp)
  have HAT := Lib.hid hop
  have x0 := hcell 0 (by simp)
  have x0' : w1.cell? ⟨bp, offp, none⟩ = some (txt p0) := x0
  rw [show (p0 :: R).length = R.length + 1 from rfl]
  clear hop hcell x0 b1
  have hi0 : (0 : Int) < (R.length : Int) + 1 := by omega
  go_wp2_with fail
  refine (number_96 p0 _ hp0 (HTB.out.on B1).here).mono ?_
  rintro e w2 ⟨rfl, b2⟩
  have VR := Lib.hid (V1.out.below b2)
  have BR := Lib.hid (bstep B1 b2)
  clear x0'
  obtain ⟨z, okz, hz, hz1, hz2, hz3⟩ : ∃ (z : Int) (okz : Bool), numA 96 p0 = .tuple #[.int .i64 z, .bool okz] ∧ z = numZ (numI 96 p0) ∧ okz = (numI 96 p0).isSome ∧ 0 ≤ z ∧ z ≤ 96 := by
    refine ⟨_, _, rfl, rfl, rfl, ?_⟩
    cases hq : numI 96 p0 with
    | none => simp [numZ]
    | some n => have := (numI_some.1 hq).2; simp [numZ]; omega
  rw [hz]
  have HZV := Lib.hid hz1
  have HOZ := Lib.hid hz2
  have ww : IntKind.i16.wrap z = z := IntWalk.i16_in _ (by omega)
  have HZR := Lib.hid hz3
  have v7 := Lib.hid (Var.new w2 #[.int .i16 z, .slice none 0 0] 27)
  have b7 := balloc b2 (.cells #[.int .i16 z, .slice none 0 0] 27)
  have hg7 : w1.heap.size ≤ w2.heap.size := b2.size
  have HR1 := Lib.hid HAT.out.drop
  clear hz hz1 hz2 hz3 VR BR
  have hbadz : okz = false → fOK s = false := fun h => by rw [HFO.out, ← HOZ.out, h]; rfl
  have HBZ := Lib.hid hbadz
  clear hbadz
  by_cases hR0 : R = []
  · subst hR0
    have hbad : fOK s = false := by
      rw [HFO.out]
      have : okF (numZ (numI 96 p0)) (got hamO [] ([] : List (List UInt8)).length) = false := by
        cases h : okF (numZ (numI 96 p0)) (got hamO [] ([] : List (List UInt8)).length) with
        | false => rfl
        | true => have := (okF_iff.1 h).2.1.1; simp [got] at this
      rw [this]; simp
    have HBAD := Lib.hid hbad
    have hokf : okF z [] = false := by
      cases h : okF z [] with
      | false => rfl
      | true => have := (okF_iff.1 h).2.1.1; simp at this
    clear hbad
    go_wp2
    obtain ⟨g7, hg7e⟩ : ∃ g, g = w2.heap.size := ⟨_, rfl⟩
    rw [← hg7e] at v7 hg7 ⊢
    go_loopw [32] (fun i w' => i = .int .i64 0 ∧ Var w' g7 #[.int .i16 z, .slice none 0 0] 27 ∧ Below w1.heap.size w1 w') (fun i _ => 1 - (intOf i).toNat)
    case atStart => exact ⟨rfl, v7.out, b7⟩
    case round =>
      clear hg7e b7
      obtain ⟨rfl, hV7, hb⟩ := hrel
      have VR := Lib.hid (V1.out.below hb)
      have BR := Lib.hid (bstep B1 hb)
      have y0 := hV7.cell (i := 0) rfl
      have y1 := hV7.cell (i := 1) rfl
      clear v7 hV7
      go_wp2_with fail
      refine (c_ValidFrame z none 0 [] _ (At2.nil _ _ _ _) (by unfold W16; have := HZR.out; omega) (fun p hp => by cases hp) (by simp)).mono ?_
      rintro e w3 ⟨rfl, b3⟩
      rw [hokf]
      have VR := Lib.hid (VR.out.below b3)
      have BR := Lib.hid (bstep BR.out b3)
      clear b3 y0 y1
      have HB := Lib.hid (show fOK s = false by exact HBAD.out)
      have HS := Lib.hid (show fS s = 0 by unfold fS; rw [HB.out]; rfl)
      have HL := Lib.hid (show fL s = [] by unfold fL; rw [HB.out]; rfl)
      have HC := Lib.hid (show fC s = 5 by unfold fC; rw [HB.out]; rfl)
      have zf := VR.out.cell (i := 0) rfl
      have zg := VR.out.cell (i := 1) rfl
      have zh := VR.out.frozen 0
      have zi := VR.out.frozen 1
      have Z2 := Lib.hid ((VR.out.set 0 (.int .i16 0)).set 1 (.slice none 0 0))
      have BB := Lib.hid (bset (bset BR.out (p := ⟨w.heap.size, 0, none⟩) (by simp) (.int .i16 0)) (p := ⟨w.heap.size, 1, none⟩) (by simp) (.slice none 0 0))
      go_wp2
      refine bodyPost_ret (results_frame_int Tryz.results7 _ _ w.heap.size 27 _ rfl Z2.out hu2 rfl (by kernel_rfl)) rfl ⟨none, 0, ?_, ?_, BB.out⟩
      · rw [HS.out, HL.out, HC.out]; rfl
      · rw [HL.out]; exact World.ownsRow_nil _ _ _ _
  · have hRp : 0 < R.length := List.length_pos_iff.2 hR0
    have f1 : (R.length = 0) = False := eq_false (by omega)
    have f2 : (R = []) = False := eq_false hR0
    clear hR0
    go_wp2
    obtain ⟨g7, hg7e⟩ : ∃ g, g = w2.heap.size := ⟨_, rfl⟩
    rw [← hg7e] at v7 hg7 ⊢
    go_loopw [32] (fun i w' => ∃ (j : Nat) (A' : Option Addr) (c' : Nat), i = .int .i64 (j : Int) ∧ j ≤ R.length ∧ RowKit.Hid (∀ i (hi : i < R.length), i < j → (hamO R[i]).isSome = true) ∧ RowKit.Hid (okz = true ∨ j = 0) ∧ Var w' g7 #[.int .i16 z, .slice A' (got hamO R j).length c'] 27 ∧ Own2 .i8 .i8 76 w' w1.heap.size (.slice A' (got hamO R j).length c') (got hamO R j) ∧ Below w1.heap.size w1 w') (fun i _ => R.length - (intOf i).toNat)
    case atStart => exact ⟨0, none, 0, rfl, by omega, Lib.hid (fun i _ h => absurd h (by omega)), Lib.hid (.inr rfl), v7.out, World.ownsRow_nil _ _ _ _, b7⟩
    case round =>
      clear v7 b7 hg7e b2
      obtain ⟨j, A1, c1, rfl, hj, HZ, HOJ, hV7, hO7, hb⟩ := hrel
      have V7 := Lib.hid hV7
      have O7 := Lib.hid hO7
      have VR := Lib.hid (V1.out.below hb)
      have BR := Lib.hid (bstep B1 hb)
      clear hV7 hO7
      by_cases hlt : j < R.length
      · have hd1 : decide ((j : Int) < (R.length : Int)) = true := decide_eq_true (by omega)
        have i1 : (0 : Int) ≤ (j : Int) := by omega
        have i2 : (j : Int) < (R.length : Int) := by omega
        obtain ⟨bq, offq, heq, hbl2, hcell⟩ := (HR1.out.below hb).get (by omega)
        simp only [Option.some.injEq, Addr.mk.injEq] at heq
        obtain ⟨rfl, rfl, _⟩ := heq
        have xj : wr.cell? ⟨bp, offp + 1 + j, none⟩ = some (txt R[j]) := hcell j hlt
        have hpl := HPC.out j hlt
        obtain ⟨T, hT⟩ : ∃ T, R[j] = T := ⟨_, rfl⟩
        rw [hT] at xj hpl
        have HT := Lib.hid hT
        have HH := Lib.hid (hamO_cut T)
        obtain ⟨hc1, hc2⟩ := cut_len T 47
        clear hcell hT
        go_wp2_with fail
        refine (c_Cut T 47 _ hpl (HTB.out.on BR.out).here).mono ?_
        rintro e w3 ⟨rfl, b3⟩
        obtain ⟨ta, hta⟩ : ∃ x, (Lib.cut T [47]).1 = x := ⟨_, rfl⟩
        obtain ⟨tb, htb⟩ : ∃ x, (Lib.cut T [47]).2.1 = x := ⟨_, rfl⟩
        obtain ⟨tc, htc⟩ : ∃ x, (Lib.cut T [47]).2.2 = x := ⟨_, rfl⟩
        rw [hta, htb] at HH
        rw [hta] at hc1
        rw [htb] at hc2
        rw [hta, htb, htc]
        have BR3 := Lib.hid (bstep BR.out b3)
        clear xj hta htb htc
        go_wp2_with fail
        refine (c_readPitch ta _).mono ?_
        rintro e w4 ⟨rfl, b4⟩
        have BR4 := Lib.hid (bstep BR3.out b4)
        obtain ⟨za, oka, hza, hoka⟩ : ∃ (za : Int) (oka : Bool), za = numZ (pit ta) ∧ oka = (pit ta).isSome := ⟨_, _, rfl, rfl⟩
        rw [← hza, ← hoka]
        have HZA := Lib.hid hza
        have HOA := Lib.hid hoka
        clear hza hoka
        go_wp2_with fail
        refine (number_20 tb _ (by omega) (HTB.out.on BR4.out).here).mono ?_
        rintro e w5 ⟨rfl, b5⟩
        unfold numA
        obtain ⟨zb, okb, hzb, hokb⟩ : ∃ (zb : Int) (okb : Bool), zb = numZ (numI 20 tb) ∧ okb = (numI 20 tb).isSome := ⟨_, _, rfl, rfl⟩
        rw [← hzb, ← hokb]
        have HZB := Lib.hid hzb
        have HOB := Lib.hid hokb
        clear hzb hokb
        have V75 := Lib.hid (((V7.out.below b3).below b4).below b5)
        have O75 := Lib.hid (((O7.out.below b3).below b4).below b5)
        have VR := Lib.hid (((VR.out.below b3).below b4).below b5)
        have BR := Lib.hid (bstep BR4.out b5)
        have hb5 := bstep (bstep (bstep hb b3) b4) b5
        clear b3 b4 b5 V7 O7 BR3 BR4 hc1 hc2 hpl
        by_cases hgood : okz = true ∧ oka = true ∧ okb = true
        · obtain ⟨hgz, hga, hgb⟩ := hgood
          have e1 := hga
          have e2 := hgb
          rw [HOA.out] at hga
          rw [HOB.out] at hgb
          obtain ⟨x, hx⟩ := Option.isSome_iff_exists.1 hga
          obtain ⟨y, hy⟩ := Option.isSome_iff_exists.1 hgb
          have hx48 := (pit_inv hx).1
          have hy20 := (numI_some.1 hy).2
          have e3 : za = (x : Int) := by rw [HZA.out, hx]; rfl
          have e4 : zb = (y : Int) := by rw [HZB.out, hy]; rfl
          have hgd : hamO R[j] = some ((x : Int), (y : Int)) := by rw [HT.out, ← HH.out, hx, hy]; rfl
          clear HZA HOA HZB HOB hga hgb hx hy
          subst e1 e2 e3 e4 hgz
          have wx : IntKind.i8.wrap (x : Int) = (x : Int) := IntWalk.i8_in _ (by omega)
          have wy : IntKind.i8.wrap (y : Int) = (y : Int) := IntWalk.i8_in _ (by omega)
          have HG := Lib.hid (got_succ hlt hgd)
          have HZ2 := Lib.hid (show ∀ i (hi : i < R.length), i < j + 1 → (hamO R[i]).isSome = true from fun i hi hij => by
            by_cases e : i = j
            · subst e; rw [hgd]; rfl
            · exact HZ.out i hi (by omega))
          have hkw : IntKind.i64.wrap ((j : Int) + 1) = (j : Int) + 1 := IntWalk.i64_in _ (by omega)
          have y1 := V75.out.cell (i := 1) rfl
          have hown2 := O75.out.alloc (.cells #[.int .i8 (x : Int), .int .i8 (y : Int)] 76)
          have V76 := Lib.hid (V75.out.old (.cells #[.int .i8 (x : Int), .int .i8 (y : Int)] 76))
          have B3 := balloc hb5 (.cells #[.int .i8 (x : Int), .int .i8 (y : Int)] 76)
          have hbs := B3.size
          have z1 := cell_new w5 #[.int .i8 (x : Int), .int .i8 (y : Int)] 76 (i := 0) rfl
          have z2 := cell_new w5 #[.int .i8 (x : Int), .int .i8 (y : Int)] 76 (i := 1) rfl
          have hlen2 : (got hamO R j).length ≤ 1073741824 := Nat.le_trans (got_len _ _ _) (by omega)
          clear hgd
          go_wp2_with (at_builtin; refine append_pair rfl (.tmp 64) (.tmp 70) 25 rfl 76 .i8 .i8 2 Tryz.underlying25 info_Hammer (by decide) w1.heap.size _ _ rfl hown2 _ _ ((x : Int), (y : Int)) rfl z1 z2 hlen2 hbs ?_; intro A3 c3 w6 ho3 hg3; have hv3 := V76.out.grownH hg3 (own_ne_var hown2 V76.out (by decide)); have q1 := hv3.cell (i := 1) rfl; have q2 := hv3.frozen 1)
          have B4 := bgrown B3 hg3 (fun j hj => hown2.low hj)
          go_roundw
          case rel => exact ⟨j + 1, A3, c3, by go_num, by omega, HZ2, by first | exact Lib.hid (.inl rfl) | exact Lib.hid (.inl trivial) | exact Lib.hid (by simp), by rw [HG.out, List.length_append]; exact hv3.set 1 _, by rw [HG.out]; exact ho3.beside hv3 (by decide) 1 _, bset B4 (by simpa using hg7) _⟩
          case measure => simp [intOf] <;> omega
        · have hbad : fOK s = false := by
            cases h1 : okz with
            | false => exact HBZ.out h1
            | true =>
              have : allO hamO R = false := allO_bad hlt (by
                rw [HT.out, ← HH.out]
                cases h2 : pit ta with
                | none => exact both_none1 _
                | some x =>
                  cases h3 : numI 20 tb with
                  | none => exact both_none2 _
                  | some y => exact absurd ⟨h1, by rw [HOA.out, h2]; rfl, by rw [HOB.out, h3]; rfl⟩ hgood)
              rw [HFO.out, this]; simp
          have HBAD := Lib.hid hbad
          clear hbad HZA HOA HZB HOB
          have hb3 : (!okz || (!oka || !okb)) = true := by revert hgood; cases okz <;> cases oka <;> cases okb <;> simp
          clear hgood
          cases okz <;> cases oka <;> cases okb
          all_goals first
            | exact absurd hb3 (by decide)
            | (clear hb3
               have HB := Lib.hid (show fOK s = false by exact HBAD.out)
               have HS := Lib.hid (show fS s = 0 by unfold fS; rw [HB.out]; rfl)
               have HL := Lib.hid (show fL s = [] by unfold fL; rw [HB.out]; rfl)
               have HC := Lib.hid (show fC s = 5 by unfold fC; rw [HB.out]; rfl)
               have zf := VR.out.cell (i := 0) rfl
               have zg := VR.out.cell (i := 1) rfl
               have zh := VR.out.frozen 0
               have zi := VR.out.frozen 1
               have Z2 := Lib.hid ((VR.out.set 0 (.int .i16 0)).set 1 (.slice none 0 0))
               have BB := Lib.hid (bset (bset BR.out (p := ⟨w.heap.size, 0, none⟩) (by simp) (.int .i16 0)) (p := ⟨w.heap.size, 1, none⟩) (by simp) (.slice none 0 0))
               go_wp2
               refine bodyPost_ret (results_frame_int Tryz.results7 _ _ w.heap.size 27 _ rfl Z2.out hu2 rfl (by kernel_rfl)) rfl ⟨none, 0, ?_, ?_, BB.out⟩
               · rw [HS.out, HL.out, HC.out]; rfl
               · rw [HL.out]; exact World.ownsRow_nil _ _ _ _)
      · obtain rfl : j = R.length := by omega
        have hokz : okz = true := by
          rcases HOJ.out with h | h
          · exact h
          · omega
        have hall : allO hamO R = true := allO_ok (fun k hk => HZ.out k hk hk)
        have hd1 : decide ((R.length : Int) < (R.length : Int)) = false := decide_eq_false (by omega)
        obtain ⟨n, hn⟩ := Option.isSome_iff_exists.1 (HOZ.out.symm.trans hokz)
        have hzn : z = (n : Int) := by rw [HZV.out, hn]; rfl
        have HNI := Lib.hid hn
        have hn96 : n ≤ 96 := (numI_some.1 hn).2
        have y0 := V7.out.cell (i := 0) rfl
        have y1 := V7.out.cell (i := 1) rfl
        clear hn
        subst hzn hokz
        obtain ⟨GL, hGL⟩ : ∃ x, got hamO R R.length = x := ⟨_, rfl⟩
        have hgw : Whs GL := by rw [← hGL]; exact got_whs
        have hgl : GL.length ≤ 1073741824 := by rw [← hGL]; exact Nat.le_trans (got_len _ _ _) (by omega)
        rw [hGL] at V7 O7 y1
        have HGL := Lib.hid hGL
        clear hGL
        go_wp2_with fail
        refine (c_ValidFrame (n : Int) A1 c1 GL _ O7.out.at_ (by unfold W16; omega) hgw hgl).mono ?_
        rintro e w3 ⟨rfl, b3⟩
        have V73 := Lib.hid (V7.out.below b3)
        have O73 := Lib.hid (O7.out.below b3)
        have VR := Lib.hid (VR.out.below b3)
        have BR := Lib.hid (bstep BR.out b3)
        clear b3 V7 O7 y0 y1
        cases hok : okF (n : Int) GL with
        | false =>
          have HB := Lib.hid (show fOK s = false by rw [HFO.out, HNI.out, HGL.out]; simp only [numZ, hok]; simp)
          have HS := Lib.hid (show fS s = 0 by unfold fS; rw [HB.out]; rfl)
          have HL := Lib.hid (show fL s = [] by unfold fL; rw [HB.out]; rfl)
          have HC := Lib.hid (show fC s = 5 by unfold fC; rw [HB.out]; rfl)
          have zf := VR.out.cell (i := 0) rfl
          have zg := VR.out.cell (i := 1) rfl
          have zh := VR.out.frozen 0
          have zi := VR.out.frozen 1
          have Z2 := Lib.hid ((VR.out.set 0 (.int .i16 0)).set 1 (.slice none 0 0))
          have BB := Lib.hid (bset (bset BR.out (p := ⟨w.heap.size, 0, none⟩) (by simp) (.int .i16 0)) (p := ⟨w.heap.size, 1, none⟩) (by simp) (.slice none 0 0))
          go_wp2
          refine bodyPost_ret (results_frame_int Tryz.results7 _ _ w.heap.size 27 _ rfl Z2.out hu2 rfl (by kernel_rfl)) rfl ⟨none, 0, ?_, ?_, BB.out⟩
          · rw [HS.out, HL.out, HC.out]; rfl
          · rw [HL.out]; exact World.ownsRow_nil _ _ _ _
        | true =>
          have hfo : fOK s = true := by rw [HFO.out, HNI.out, hall, HGL.out]; simp only [numZ, hok]; rfl
          have HS := Lib.hid (show fS s = (n : Int) by unfold fS; rw [hfo, HP.out]; rw [if_pos rfl, List.headD_cons, HNI.out]; rfl)
          have HL := Lib.hid (show fL s = GL by unfold fL; rw [hfo, HP.out]; exact HGL.out)
          have HC := Lib.hid (show fC s = 0 by unfold fC; rw [hfo]; rfl)
          have y0 := V73.out.cell (i := 0) rfl
          have y1 := V73.out.cell (i := 1) rfl
          have zf := VR.out.cell (i := 0) rfl
          have zg := VR.out.cell (i := 1) rfl
          have zh := VR.out.frozen 0
          have zi := VR.out.frozen 1
          have Z2 := Lib.hid ((VR.out.set 0 (.int .i16 (n : Int))).set 1 (.slice A1 GL.length c1))
          have O2 := Lib.hid (((O73.out.base_le B1.size).beside VR.out (by decide) 0 (.int .i16 (n : Int))).beside (VR.out.set 0 (.int .i16 (n : Int))) (by decide) 1 (.slice A1 GL.length c1))
          have BB := Lib.hid (bset (bset BR.out (p := ⟨w.heap.size, 0, none⟩) (by simp) (.int .i16 (n : Int))) (p := ⟨w.heap.size, 1, none⟩) (by simp) (.slice A1 GL.length c1))
          clear hok hfo hall VR BR V73 O73
          go_wp2
          refine bodyPost_ret (results_frame_int Tryz.results7 _ _ w.heap.size 27 _ rfl Z2.out hu2 rfl (by kernel_rfl)) rfl ⟨A1, c1, ?_, ?_, BB.out⟩
          · rw [HS.out, HL.out, HC.out]; rfl
          · rw [HL.out]; exact O2.out

end Go.Proofs.YtjcbailckchnoaaGreatDoor
