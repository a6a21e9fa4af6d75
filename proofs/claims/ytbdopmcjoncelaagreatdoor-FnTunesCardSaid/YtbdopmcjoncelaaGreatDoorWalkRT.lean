/-
  The walks of ReadTune, in the reference and in the program.
-/
import Derived.Test.YtbdopmcjoncelaaGreatDoorWalkRE
import Derived.Test.YtbdopmcjoncelaaGreatDoorWalkB
import Derived.Test.YtbdopmcjoncelaaGreatDoorWalkD
import Derived.Test.YtbdopmcjoncelaaGreatDoorData
namespace Go.Proofs.YtbdopmcjoncelaaGreatDoor
open Go.RowKit
set_option linter.unusedVariables false
set_option linter.unusedSimpArgs false
set_option maxRecDepth 4000

theorem number_199 (t : List UInt8) (w : World) (hl : t.length ≤ 1048576) (ht : Tabs w) :
    Calls Tryz.prog 30 #[txt t, .int .i64 199] w fun e w' => e = .returned (numA 199 t) ∧ Below w.heap.size w w' := c_number t 199 w (by decide) hl ht
theorem cut_lenT (t : List UInt8) (c : UInt8) : (Lib.cut t [c]).1.length ≤ t.length ∧ (Lib.cut t [c]).2.1.length ≤ t.length := by
  rcases index_cases t c with h | ⟨i, h⟩
  · rw [cut_miss h]; simp
  · rw [cut_hit h]; simp; omega
theorem c_SplitO (s : List UInt8) (c : UInt8) (w : World) (hs : s.length ≤ 1048576) (ht : Tabs w) :
    Calls Tryz.prog 28 #[txt s, txt [c]] w fun e w' => ∃ A', e = .returned (.slice A' (spl c s).length (spl c s).length) ∧ OwnS 9 w' w.heap.size (.slice A' (spl c s).length (spl c s).length) (spl c s) ∧ Below w.heap.size w w' := by
  obtain ⟨m, hm⟩ := ht.len
  have h := Tryz.strings_Split ⟨s.toArray⟩ ⟨[c].toArray⟩ m w (by simp [ByteArray.size]; omega) hm (by simp [ByteArray.size])
  have hl : Lib.countB ⟨s.toArray⟩ ⟨[c].toArray⟩ + 1 = (spl c s).length := (count_spl c s).symm
  have hc : (Lib.splitB ⟨[c].toArray⟩ 0 (Lib.countB ⟨s.toArray⟩ ⟨[c].toArray⟩) ⟨s.toArray⟩).map Value.string = (spl c s).map txt := by
    have h1 := Lib.splitB_data ⟨[c].toArray⟩ 0 (Lib.countB ⟨s.toArray⟩ ⟨[c].toArray⟩) ⟨s.toArray⟩
    have h2 : Lib.splitK (ByteArray.mk [c].toArray).data.toList 0 (Lib.countB ⟨s.toArray⟩ ⟨[c].toArray⟩) (ByteArray.mk s.toArray).data.toList = spl c s := split_spl c s
    rw [h2] at h1
    rw [← h1, List.map_map]
    refine List.map_congr_left fun x _ => ?_
    cases x; simp [txt]
  rw [hl, hc] at h
  refine h.mono ?_
  rintro e w' ⟨rfl, rfl⟩
  have hlen := spl_len c s
  refine ⟨_, rfl, ?_, balloc (Below.refl _ _) _⟩
  have := World.ownsRow_lit (base := w.heap.size) (e := 9) (size := 1) w ((spl c s).map txt).toArray (spl c s).length (Nat.le_refl _) (by unfold maxLen; omega) (by simp)
  unfold OwnS
  simpa using this
theorem c_checkedR (A : Option Addr) (c : Nat) (l : List (Int × Int)) (z : Int) (w : World) (h : At2 .i16 .i8 w A l) (hw : Wf l) (hn : l.length ≤ 1073741824) :
    Calls Tryz.prog 32 #[.slice A l.length c, .int .i64 z] w fun e w' => e = .returned (.tuple #[if okT l then .slice A l.length c else .slice none 0 0, .int .i64 (if okT l then 0 else z)]) ∧ Below w.heap.size w w' := by
  rcases hok : okT l with _ | _
  all_goals
    go_enter Tryz.func32, Tryz.ntmps32
    go_wp2_with fail
    refine (c_ValidTune A c l _ h hw hn).mono ?_
    rintro e w1 ⟨rfl, b1⟩
    rw [hok]
    go_wp2
    go_ret2
    exact ⟨rfl, b1⟩
/-- What a text of a tune reads as. -/
noncomputable def tOK (s : List UInt8) : Bool := allO notO (spl 32 s) && okT (got notO (spl 32 s) (spl 32 s).length)
noncomputable def tL (s : List UInt8) : List (Int × Int) := if s ≠ [] ∧ tOK s = true then got notO (spl 32 s) (spl 32 s).length else []
noncomputable def tC (s : List UInt8) : Int := if s = [] ∨ tOK s = true then 0 else 5
theorem got_wf {R : List (List UInt8)} {k : Nat} : Wf (got notO R k) := by
  intro p hp
  obtain ⟨t, ht⟩ := got_mem hp
  have := notO_bd ht
  unfold Wn
  omega
theorem got_full {f : List UInt8 → Option (Int × Int)} {P : List (List UInt8)} : ∀ k, k ≤ P.length → (∀ i (hi : i < P.length), i < k → (f P[i]).isSome = true) → (got f P k).length = k
  | 0, _, _ => rfl
  | k + 1, hk, h => by
    obtain ⟨p, hp⟩ := Option.isSome_iff_exists.1 (h k (by omega) (by omega))
    rw [got_succ (by omega) hp, List.length_append, got_full k (by omega) (fun i hi hik => h i hi (by omega))]
    rfl
theorem many_bad {P : List (List UInt8)} (h : 120 < P.length) : (allO notO P && okT (got notO P P.length)) = false := by
  cases ha : allO notO P with
  | false => rfl
  | true =>
    cases hk : okT (got notO P P.length) with
    | false => rfl
    | true =>
      have h1 := okT_len hk
      rw [got_full P.length (Nat.le_refl _) (fun i hi _ => by
        unfold allO at ha
        exact (List.all_eq_true.1 ha) _ (List.getElem_mem hi))] at h1
      omega
theorem tL_len (s : List UInt8) : (tL s).length ≤ 120 := by
  unfold tL
  split
  · rename_i h
    have := h.2
    unfold tOK at this
    simp only [Bool.and_eq_true] at this
    exact okT_len this.2
  · simp


set_option maxHeartbeats 1600000 in
theorem c_implReadTune (s : List UInt8) (w : World) (hs : s.length ≤ 1048576) (ht : Tabs w) :
    Calls Tryz.prog 6 #[txt s] w fun e w' => ∃ A' c', e = .returned (.tuple #[.slice A' (tL s).length c', .int .i64 (tC s)]) ∧ Own2 .i16 .i8 40 w' w.heap.size (.slice A' (tL s).length c') (tL s) ∧ Below w.heap.size w w' := by
  have hst := Tryz.underlying9
  have hu := Tryz.underlying40
  have HTB := Lib.hid ht.tabsB
  clear ht
  by_cases hne : s = []
  · have HL := Lib.hid (show tL s = [] by unfold tL; simp [hne])
    have HC := Lib.hid (show tC s = 0 by unfold tC; simp [hne])
    have g1 : (s == ([] : List UInt8)) = true := by simpa using hne
    have g1b : (s = ([] : List UInt8)) = True := eq_true hne
    clear hne
    go_enter Tryz.func6, Tryz.ntmps6
    go_wp2
    go_ret2
    rw [HL.out, HC.out]
    exact ⟨_, _, rfl, Own2.lit0 (Nat.le_refl _), balloc (Below.refl _ _) _⟩
  · have HNE := Lib.hid hne
    have g1 : (s == ([] : List UInt8)) = false := by simpa using hne
    have g1b : (s = ([] : List UInt8)) = False := eq_false hne
    clear hne
    obtain ⟨P, hP⟩ : ∃ P, spl 32 s = P := ⟨_, rfl⟩
    have hPl : P.length ≤ 1048577 := by rw [← hP]; exact Nat.le_trans (spl_len 32 s) (by omega)
    have HPC := Lib.hid (show ∀ j (hj : j < P.length), P[j].length ≤ 1048576 from fun j hj => Nat.le_trans (spl_piece 32 s P[j] (by rw [hP]; exact List.getElem_mem hj)) hs)
    have HTO := Lib.hid (show tOK s = (allO notO P && okT (got notO P P.length)) by unfold tOK; rw [hP])
    have HP := Lib.hid hP
    have HPL := Lib.hid hPl
    clear hP
    have o0 := Lib.hid (Own2.lit0 (k1 := .i16) (k2 := .i8) (E := 40) (w := w) (base := w.heap.size) (Nat.le_refl _))
    have B0 := balloc (Below.refl _ w) (.cells #[] 40)
    go_enter Tryz.func6, Tryz.ntmps6
    go_wp2_with fail
    refine (c_SplitO s 32 _ hs (HTB.out.on B0).here).mono ?_
    rintro e w1 ⟨Ap, rfl, hop, b1⟩
    rw [HP.out] at hop ⊢
    obtain ⟨cp, hcp⟩ : ∃ cp, P.length = cp ∧ OwnS 9 w1 w.heap.size (.slice Ap P.length cp) P := ⟨_, rfl, hop.base_le B0.size⟩
    have OP1 := Lib.hid hcp.2
    have HCP := Lib.hid hcp.1
    have o1 := Lib.hid (o0.out.below b1)
    have B1 := bstep B0 b1
    clear hop b1 hcp
    have hsl : Value.slice Ap P.length P.length = Value.slice Ap P.length cp := by rw [HCP.out]
    rw [hsl]
    clear hsl
    go_wp2
    go_loopw [4, 21] (fun v i w' => ∃ (j : Nat) (A' : Option Addr) (c' : Nat), i = .int .i64 (j : Int) ∧ v = .slice A' (got notO P j).length c' ∧ j ≤ P.length ∧ RowKit.Hid (∀ i (hi : i < P.length), i < j → (notO P[i]).isSome = true) ∧ Own2 .i16 .i8 40 w' w.heap.size v (got notO P j) ∧ OwnS 9 w' w.heap.size (.slice Ap P.length cp) P ∧ Below w.heap.size w w') (fun _ i _ => P.length - (intOf i).toNat)
    case atStart => exact ⟨0, _, _, rfl, rfl, by omega, Lib.hid (fun i _ h => absurd h (by omega)), o1.out, OP1.out, B1⟩
    case round =>
      clear o1 OP1 B1
      obtain ⟨j, A1, c1, rfl, rfl, hj, HZ, hO, hOP, hb⟩ := hrel
      have O1 := Lib.hid hO
      have OP := Lib.hid hOP
      have BR := Lib.hid hb
      clear hO hOP
      by_cases hlt : j < P.length
      · have hd1 : decide ((j : Int) < (P.length : Int)) = true := decide_eq_true (by omega)
        have i1 : (0 : Int) ≤ (j : Int) := by omega
        have i2 : (j : Int) < (P.length : Int) := by omega
        obtain ⟨bp, offp, heq, hbl, hcell⟩ := OP.out.at_.get (by omega)
        subst heq
        have xj : wr.cell? ⟨bp, offp + j, none⟩ = some (txt P[j]) := hcell j hlt
        have hpl := HPC.out j hlt
        obtain ⟨T, hT⟩ : ∃ T, P[j] = T := ⟨_, rfl⟩
        rw [hT] at xj hpl
        have HT := Lib.hid hT
        have HH := Lib.hid (notO_cut T)
        obtain ⟨hc1, hc2⟩ := cut_lenT T 58
        clear hcell hT
        go_wp2_with fail
        refine (c_Cut T 58 _ hpl (HTB.out.on BR.out).here).mono ?_
        rintro e w3 ⟨rfl, b3⟩
        obtain ⟨ta, hta⟩ : ∃ x, (Lib.cut T [58]).1 = x := ⟨_, rfl⟩
        obtain ⟨tb, htb⟩ : ∃ x, (Lib.cut T [58]).2.1 = x := ⟨_, rfl⟩
        obtain ⟨tc, htc⟩ : ∃ x, (Lib.cut T [58]).2.2 = x := ⟨_, rfl⟩
        rw [hta, htb] at HH
        rw [hta] at hc1
        rw [htb] at hc2
        rw [hta, htb, htc]
        have BR3 := Lib.hid (bstep BR.out b3)
        clear xj hta htb htc
        go_wp2_with fail
        refine (number_199 ta _ (by omega) (HTB.out.on BR3.out).here).mono ?_
        rintro e w4 ⟨rfl, b4⟩
        unfold numA
        obtain ⟨za, oka, hza, hoka⟩ : ∃ (za : Int) (oka : Bool), za = numZ (numI 199 ta) ∧ oka = (numI 199 ta).isSome := ⟨_, _, rfl, rfl⟩
        rw [← hza, ← hoka]
        have HZA := Lib.hid hza
        have HOA := Lib.hid hoka
        clear hza hoka
        go_wp2_with fail
        refine (c_readPitch tb _).mono ?_
        rintro e w5 ⟨rfl, b5⟩
        obtain ⟨zb, okb, hzb, hokb⟩ : ∃ (zb : Int) (okb : Bool), zb = numZ (pit tb) ∧ okb = (pit tb).isSome := ⟨_, _, rfl, rfl⟩
        rw [← hzb, ← hokb]
        have HZB := Lib.hid hzb
        have HOB := Lib.hid hokb
        have O5 := Lib.hid (((O1.out.below b3).below b4).below b5)
        have OP5 := Lib.hid (((OP.out.below b3).below b4).below b5)
        have BR := Lib.hid (bstep (bstep BR3.out b4) b5)
        clear b3 b4 b5 O1 OP BR3 hc1 hc2 hpl hzb hokb hb
        have HLJ := Lib.hid (got_full (f := notO) (P := P) j (by omega) HZ.out)
        by_cases hgood : oka = true ∧ okb = true
        · obtain ⟨hga, hgb⟩ := hgood
          obtain ⟨x, hx⟩ := Option.isSome_iff_exists.1 (HOA.out.symm.trans hga)
          obtain ⟨y, hy⟩ := Option.isSome_iff_exists.1 (HOB.out.symm.trans hgb)
          have hx199 := (numI_some.1 hx).2
          have hy48 := (pit_inv hy).1
          have e3 : za = (x : Int) := by rw [HZA.out, hx]; rfl
          have e4 : zb = (y : Int) := by rw [HZB.out, hy]; rfl
          have hgd : notO P[j] = some ((x : Int), (y : Int)) := by rw [HT.out, ← HH.out, hx, hy]; rfl
          clear HZA HOA HZB HOB hx hy
          subst hga hgb e3 e4
          by_cases h120 : j = 120
          · have HBAD := Lib.hid (show tOK s = false by rw [HTO.out]; exact many_bad (by omega))
            have f1 : ((got notO P j).length = 120) = True := eq_true (by rw [HLJ.out]; exact h120)
            have f2 : (((got notO P j).length : Int) == 120) = true := by rw [HLJ.out, h120]; rfl
            clear h120 hgd
            have HB := Lib.hid (show tOK s = false by exact HBAD.out)
            have HL := Lib.hid (show tL s = [] by unfold tL; rw [HB.out]; simp)
            have HC := Lib.hid (show tC s = 5 by unfold tC; rw [HB.out]; simp [HNE.out])
            go_wp2
            go_ret2
            rw [HL.out, HC.out]
            exact ⟨none, 0, rfl, World.ownsRow_nil _ _ _ _, BR.out⟩
          · have f1 : ((got notO P j).length = 120) = False := eq_false (by rw [HLJ.out]; exact h120)
            have f2 : (((got notO P j).length : Int) == 120) = false := by rw [HLJ.out]; simp; omega
            clear h120
            have wx : IntKind.i16.wrap (x : Int) = (x : Int) := IntWalk.i16_in _ (by omega)
            have wy : IntKind.i8.wrap (y : Int) = (y : Int) := IntWalk.i8_in _ (by omega)
            have HG := Lib.hid (got_succ hlt hgd)
            have HZ2 := Lib.hid (show ∀ i (hi : i < P.length), i < j + 1 → (notO P[i]).isSome = true from fun i hi hij => by
              by_cases e : i = j
              · subst e; rw [hgd]; rfl
              · exact HZ.out i hi (by omega))
            have hkw : IntKind.i64.wrap ((j : Int) + 1) = (j : Int) + 1 := IntWalk.i64_in _ (by omega)
            have hown2 := O5.out.alloc (.cells #[.int .i16 (x : Int), .int .i8 (y : Int)] 40)
            have hownp := OP5.out.alloc (.cells #[.int .i16 (x : Int), .int .i8 (y : Int)] 40)
            have B3 := balloc BR.out (.cells #[.int .i16 (x : Int), .int .i8 (y : Int)] 40)
            have hbs := B3.size
            have z1 := cell_new w5 #[.int .i16 (x : Int), .int .i8 (y : Int)] 40 (i := 0) rfl
            have z2 := cell_new w5 #[.int .i16 (x : Int), .int .i8 (y : Int)] 40 (i := 1) rfl
            have hlen2 : (got notO P j).length ≤ 1073741824 := Nat.le_trans (got_len _ _ _) (by omega)
            clear hgd
            go_wp2_with (at_builtin; refine append_pair rfl (.tmp 52) (.tmp 58) 25 rfl 40 .i16 .i8 4 Tryz.underlying25 info_Note (by decide) w.heap.size _ _ rfl hown2 _ _ ((x : Int), (y : Int)) rfl z1 z2 hlen2 hbs ?_; intro A3 c3 w6 ho3 hg3)
            have B4 := bgrown B3 hg3 (fun j hj => hown2.low hj)
            have hp3 := hownp.apart hg3 (own_ne_own hownp hown2 (by decide))
            go_roundw
            case rel => exact ⟨j + 1, A3, c3, by go_num, by rw [HG.out, List.length_append]; rfl, by omega, HZ2, by rw [HG.out]; rw [List.length_append] at ho3; exact ho3, hp3, B4⟩
            case measure => simp [intOf] <;> omega
        · have hbad : allO notO P = false := allO_bad hlt (by
            rw [HT.out, ← HH.out]
            cases h2 : numI 199 ta with
            | none => exact both_none1 _
            | some x =>
              cases h3 : pit tb with
              | none => exact both_none2 _
              | some y => exact absurd ⟨by rw [HOA.out, h2]; rfl, by rw [HOB.out, h3]; rfl⟩ hgood)
          have HBAD := Lib.hid (show tOK s = false by rw [HTO.out, hbad]; rfl)
          clear hbad HZA HOA HZB HOB
          cases oka
          · clear hgood
            have HB := Lib.hid (show tOK s = false by exact HBAD.out)
            have HL := Lib.hid (show tL s = [] by unfold tL; rw [HB.out]; simp)
            have HC := Lib.hid (show tC s = 5 by unfold tC; rw [HB.out]; simp [HNE.out])
            go_wp2
            go_ret2
            rw [HL.out, HC.out]
            exact ⟨none, 0, rfl, World.ownsRow_nil _ _ _ _, BR.out⟩
          · cases okb
            · clear hgood
              have HB := Lib.hid (show tOK s = false by exact HBAD.out)
              have HL := Lib.hid (show tL s = [] by unfold tL; rw [HB.out]; simp)
              have HC := Lib.hid (show tC s = 5 by unfold tC; rw [HB.out]; simp [HNE.out])
              go_wp2
              go_ret2
              rw [HL.out, HC.out]
              exact ⟨none, 0, rfl, World.ownsRow_nil _ _ _ _, BR.out⟩
            · exact absurd ⟨rfl, rfl⟩ hgood
      · obtain rfl : j = P.length := by omega
        have hall : allO notO P = true := allO_ok (fun k hk => HZ.out k hk hk)
        have hd1 : decide ((P.length : Int) < (P.length : Int)) = false := decide_eq_false (by omega)
        have HALL := Lib.hid hall
        clear hall
        obtain ⟨GL, hGL⟩ : ∃ x, got notO P P.length = x := ⟨_, rfl⟩
        have hgw : Wf GL := by rw [← hGL]; exact got_wf
        have hgl : GL.length ≤ 1073741824 := by rw [← hGL]; exact Nat.le_trans (got_len _ _ _) (by have := HPL.out; omega)
        rw [hGL] at O1 ⊢
        have HGL := Lib.hid hGL
        clear hGL hb
        go_wp2_with fail
        refine (c_checkedR A1 c1 GL 5 _ O1.out.at_ hgw hgl).mono ?_
        rintro e w3 ⟨rfl, b3⟩
        have O3 := Lib.hid (O1.out.below b3)
        have BR := Lib.hid (bstep BR.out b3)
        clear b3 O1
        cases hok : okT GL with
        | false =>
          simp only [Bool.false_eq_true, if_false]
          have HB := Lib.hid (show tOK s = false by rw [HTO.out, HGL.out, hok]; simp)
          have HL := Lib.hid (show tL s = [] by unfold tL; rw [HB.out]; simp)
          have HC := Lib.hid (show tC s = 5 by unfold tC; rw [HB.out]; simp [HNE.out])
          go_wp2
          go_ret2
          rw [HL.out, HC.out]
          exact ⟨none, 0, rfl, World.ownsRow_nil _ _ _ _, BR.out⟩
        | true =>
          have hto : tOK s = true := by rw [HTO.out, HGL.out, hok, HALL.out]; rfl
          have HL := Lib.hid (show tL s = GL by unfold tL; rw [if_pos ⟨HNE.out, hto⟩, HP.out]; exact HGL.out)
          have HC := Lib.hid (show tC s = 0 by unfold tC; rw [if_pos (.inr hto)])
          simp only [if_true]
          clear hok hto
          go_wp2
          go_ret2
          rw [HL.out, HC.out]
          exact ⟨A1, c1, rfl, O3.out, BR.out⟩

end Go.Proofs.YtbdopmcjoncelaaGreatDoor
