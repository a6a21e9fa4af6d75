/-
  TuneOf, in the reference and in the program.
-/
import Derived.Test.YtnakdlfjjeligaaGreatWalkTN
import Derived.Test.YtnakdlfjjeligaaGreatWalkDF
import Derived.Test.YtnakdlfjjeligaaGreatData
import Derived.Test.YtnakdlfjjeligaaGreatWalkS
import Derived.Test.YtnakdlfjjeligaaGreatWalkT
namespace Go.Proofs.YtnakdlfjjeligaaGreat
open Go.RowKit
set_option linter.unusedVariables false
set_option linter.unusedSimpArgs false
set_option maxRecDepth 4000


set_option maxHeartbeats 800000 in
theorem c_l02Tune (bf bd n : Nat) (A : Option Addr) (c : Nat) (l : List (Int × Int)) (d : List Int) (w : World) (h : At2 .i8 .i8 w A l) (hf : FrameAt w bf (n : Int) A c l) (hd : DrumAt w bd d) (hr : Wd d) (hn96 : n ≤ 96) (hl : l.length ≤ 32) :
    Calls Tryz.prog 41 #[.pointer (some ⟨bf, 0, none⟩), .pointer (some ⟨bd, 0, none⟩)] w fun z w' => ∃ A' c', z = .returned (.slice A' (sortU (tuA d l n)).length c') ∧ Own2 .i16 .i8 111 w' w.heap.size (.slice A' (sortU (tuA d l n)).length c') (sortU (tuA d l n)) ∧ Below w.heap.size w w' := by
  have hu := Tryz.underlying111
  have HF := Lib.hid hf
  have HD := Lib.hid hd
  clear hf hd
  go_enter Tryz.func41, Tryz.ntmps41
  go_wp2
  go_loopw [5, 6] (fun v i w' => ∃ (k : Nat) (A' : Option Addr) (c' : Nat), i = .int .i64 (k : Int) ∧ v = .slice A' (tuA d l k).length c' ∧ k ≤ n ∧ Own2 .i16 .i8 111 w' w.heap.size v (tuA d l k) ∧ Below w.heap.size w w') (fun _ i _ => n - (intOf i).toNat)
  case atStart => exact ⟨0, _, _, rfl, by rw [tuA_zero]; rfl, by omega, by rw [tuA_zero]; exact Own2.lit0 (Nat.le_refl _), balloc (Below.refl _ _) _⟩
  case round =>
    obtain ⟨k, A1, c1, rfl, rfl, hk, hown, hb⟩ := hrel
    have HO := Lib.hid hown
    clear hown
    have f1 := (HF.out.below hb).2.1
    by_cases hlt : k < n
    · have hle : decide ((k : Int) < (n : Int)) = true := decide_eq_true (by omega)
      go_wp2
      go_loopw [5, 7] (fun v i w' => ∃ (t : Nat) (A' : Option Addr) (c' : Nat), i = .int .i64 (t : Int) ∧ v = .slice A' (tuU d l k t).length c' ∧ t ≤ l.length ∧ Own2 .i16 .i8 111 w' w.heap.size v (tuU d l k t) ∧ Below w.heap.size w w') (fun _ i _ => l.length - (intOf i).toNat)
      case atStart => exact ⟨0, A1, c1, rfl, by rw [tuU_zero], by omega, by rw [tuU_zero]; exact HO.out, hb⟩
      case round =>
        clear f1
        obtain ⟨t, A2, c2, rfl, rfl, ht, hown, hb2⟩ := hrel
        have HO2 := Lib.hid hown
        clear hown
        have f2 := (HF.out.below hb2).2.2
        by_cases hlt2 : t < l.length
        · rcases hq : pinB d k t with _ | _
          · have HQ := Lib.hid hq
            have HS := Lib.hid (tuU_no (l := l) hq)
            clear hq
            go_wp2_with fail
            refine (c_l02Pin bd k t d _ (HD.out.below hb2) hr (by omega) (by omega)).mono ?_
            rintro z w1 ⟨rfl, rfl⟩
            rw [HQ.out]
            go_wp2
            go_roundw
            case rel => exact ⟨t + 1, A2, c2, by go_num, by rw [HS.out], by omega, by rw [HS.out]; exact HO2.out, hb2⟩
            case measure => simp [intOf]; omega
          · have HQ := Lib.hid hq
            have HS := Lib.hid (tuU_yes hlt2 hq)
            clear hq
            have hlen2 : (tuU d l k t).length ≤ 1073741824 := Nat.le_trans (tuU_len d l (k := k) (t := t) (by omega) (by omega) hl) (by decide)
            obtain ⟨b, off, hAe, hbl, hc⟩ := (h.below hb2).get (by omega)
            subst hAe
            have y1 := (hc t hlt2).1
            clear hc
            have hw16 : IntKind.i16.wrap (k : Int) = (k : Int) := IntWalk.i16_in _ (by omega)
            have hown2 := HO2.out.alloc (.cells #[.int .i16 (k : Int), .int .i8 l[t].1] 111)
            have B3 := balloc hb2 (.cells #[.int .i16 (k : Int), .int .i8 l[t].1] 111)
            have hbs := B3.size
            have z1 := cell_new wr #[.int .i16 (k : Int), .int .i8 l[t].1] 111 (i := 0) rfl
            have z2 := cell_new wr #[.int .i16 (k : Int), .int .i8 l[t].1] 111 (i := 1) rfl
            go_wp2_with fail
            refine (c_l02Pin bd k t d _ (HD.out.below hb2) hr (by omega) (by omega)).mono ?_
            rintro z w1 ⟨rfl, rfl⟩
            rw [HQ.out]
            go_wp2_with (at_builtin; refine append_pair rfl (.tmp 31) (.tmp 43) 37 rfl 111 .i16 .i8 4 Tryz.underlying37 info_Note (by decide) w.heap.size _ _ rfl hown2 _ _ ((k : Int), l[t].1) rfl z1 z2 hlen2 hbs ?_; intro A3 c3 w3 ho3 hg3)
            have B4 := bgrown B3 hg3 (fun j hj => hown2.low hj)
            go_roundw
            case rel => exact ⟨t + 1, A3, c3, by go_num, by rw [HS.out, List.length_append]; rfl, by omega, by rw [HS.out]; rw [List.length_append] at ho3; exact ho3, B4⟩
            case measure => simp [intOf]; omega
        · obtain rfl : t = l.length := by omega
          have HE := Lib.hid (tuU_end d l k)
          go_wp2
          go_roundw
          case rel => exact ⟨k + 1, A2, c2, by go_num, by rw [HE.out], by omega, by rw [← HE.out]; exact HO2.out, hb2⟩
          case measure => simp [intOf]; omega
    · obtain rfl : k = n := by omega
      have hle : decide ((k : Int) < (k : Int)) = false := decide_eq_false (by omega)
      have hbd := tuA_len d l (k := k) hn96 hl
      obtain ⟨M, hM⟩ : ∃ M, tuA d l k = M := ⟨_, rfl⟩
      rw [hM] at HO hbd ⊢
      have HM := Lib.hid hM
      clear hM
      go_wp2_with fail
      refine (c_l01Sorted A1 c1 M _ HO.out.at_ (by omega)).mono ?_
      rintro e w5 ⟨g5, c5, rfl, o5, b5⟩
      have O5 := Lib.hid (o5.base_le hb.size)
      clear o5 f1
      obtain ⟨S, hS⟩ : ∃ S, sortU M = S := ⟨_, rfl⟩
      rw [hS] at O5 ⊢
      have HS := Lib.hid hS
      clear hS
      go_wp2
      go_ret
      rw [HM.out, HS.out]
      exact ⟨_, _, rfl, O5.out, bstep hb b5⟩

/-- What is known while the program looks at pin after pin. -/
def TuS (w0 : World) (pb n : Nat) (A : Option Addr) (c : Nat) (l : List (Int × Int)) (d : List Int) (k t : Nat) (w' : World) : Prop :=
  Var w' w0.heap.size #[.int .i16 (n : Int), .slice A l.length c] 27 ∧ (Var w' (w0.heap.size + 1 + 1) #[.int .i64 0] 2 ∧ Var w' (w0.heap.size + 1 + 1 + 1) #[.int .i64 (n : Int)] 2) ∧
  Var w' pb #[.int .i16 (n : Int), .slice A l.length c] 27 ∧ Var w' (pb + 1) (drumV d) 31 ∧
  (∃ A' c', Var w' (w0.heap.size + 1 + 1 + 1 + 1 + 1) #[.slice A' (tuU d l k t).length c'] 37 ∧ Own2 .i16 .i8 111 w' w0.heap.size (.slice A' (tuU d l k t).length c') (tuU d l k t)) ∧ Below w0.heap.size w0 w'
theorem TuS.below {w0 : World} {pb n : Nat} {A : Option Addr} {c : Nat} {l : List (Int × Int)} {d : List Int} {k t : Nat} {u v : World} (h : TuS w0 pb n A c l d k t u) (hb : Below u.heap.size u v) : TuS w0 pb n A c l d k t v := by
  obtain ⟨h1, ⟨h2, h2'⟩, h3, h4, ⟨A', c', h5, h6⟩, h7⟩ := h
  exact ⟨h1.below hb, ⟨h2.below hb, h2'.below hb⟩, h3.below hb, h4.below hb, ⟨A', c', h5.below hb, h6.below hb⟩, bstep h7 hb⟩

set_option maxHeartbeats 800000 in
theorem c_played1 (w0 : World) (pb n : Nat) (A : Option Addr) (c : Nat) (l : List (Int × Int)) (d : List Int) (k t : Nat) (w : World) (h : At2 .i8 .i8 w0 A l) (hn96 : n ≤ 96) (hk : k < n) (ht : t < l.length) (hl : l.length ≤ 32) (hp : pinB d k t = true) (hpb : w0.heap.size + 1 + 1 + 1 + 1 + 1 < pb) (hS : TuS w0 pb n A c l d k t w) :
    Calls Tryz.prog 73 #[.int .i64 (k : Int), .int .i64 (t : Int), .pointer (some ⟨w0.heap.size + 1 + 1, 0, none⟩), .pointer (some ⟨w0.heap.size + 1 + 1 + 1, 0, none⟩), .pointer (some ⟨w0.heap.size + 1 + 1 + 1 + 1 + 1, 0, none⟩), .pointer (some ⟨w0.heap.size, 0, none⟩)] w fun z w' => z = .returned (.tuple #[]) ∧ TuS w0 pb n A c l d k (t + 1) w' := by
  have hu2 := Tryz.underlying27
  have hu := Tryz.underlying111
  have HE := Lib.hid (tuU_yes ht hp)
  obtain ⟨b, off, hAe, hbl, hc⟩ := h.get (by omega)
  subst hAe
  have yA := (hc t ht).1
  clear hc
  have f1 := hS.2.1.1.cell (i := 0) rfl
  have f2 := hS.2.1.2.cell (i := 0) rfl
  have HS := Lib.hid hS
  have hw0 : IntKind.i64.wrap (0 + (n : Int)) = (n : Int) := by rw [Int.zero_add]; exact IntWalk.i64_in _ (by omega)
  have hw1 : IntKind.i64.wrap ((n : Int) - 1) = (n : Int) - 1 := IntWalk.i64_in _ (by omega)
  have hw2 : IntKind.i64.wrap (k : Int) = (k : Int) := IntWalk.i64_in _ (by omega)
  have hw16 : IntKind.i16.wrap (k : Int) = (k : Int) := IntWalk.i16_in _ (by omega)
  have hin := Lib.hid (show inB (k : Int) 0 ((n : Int) - 1) = true from inB_iff.2 ⟨by omega, by omega⟩)
  have hlen2 : (tuU d l k t).length + [((k : Int), l[t].1)].length ≤ 1073741824 := by have := tuU_len d l (k := k) (t := t) (by omega) (by omega) hl; simp only [List.length_cons, List.length_nil]; omega
  have hti : (t : Int) < (l.length : Int) := by omega
  clear hS hp
  go_enter Tryz.func73, Tryz.ntmps73
  go_wp2_with fail
  refine (c_within _ _ _ _).mono ?_
  rintro e w' ⟨rfl, rfl⟩
  rw [hin.out]
  clear f1 f2
  go_upto_region 1 with fail
  obtain ⟨s1, ⟨s2, s2'⟩, s3, s4, ⟨A0, c0, s5, s6⟩, s7⟩ := HS.out
  refine wp_region_held_drew (S := fun w' => Var w' (w0.heap.size + 1 + 1) #[.int .i64 0] 2 ∧ Var w' w0.heap.size #[.int .i16 (n : Int), .slice (some ⟨b, off, none⟩) l.length c] 27 ∧ Below w0.heap.size w0 w') (by kernel_rfl) ⟨s2.drew, s1.drew, bdrew s7⟩ (fun hHeld => ?_)
  have V2b' := s2'.drew
  have V3' := s3.drew
  have V4' := s4.drew
  have V5' := s5.drew
  have HO' := s6.below (bdrew (Below.refl _ _))
  have hsz : w0.heap.size ≤ w.drew.heap.size := s7.size
  clear s1 s2 s2' s3 s4 s5 s6 s7 HS
  obtain ⟨wd, hwd⟩ : ∃ u, w.drew = u := ⟨_, rfl⟩
  rw [hwd] at hHeld V2b' V3' V4' V5' HO' hsz ⊢
  clear hwd
  have U2b := Lib.hid V2b'
  have U3 := Lib.hid V3'
  have U4 := Lib.hid V4'
  have U5 := Lib.hid V5'
  have V2b := Lib.hid (V2b'.old (.cells #[.int .i16 (k : Int), .int .i8 l[t].1] 111))
  have V3 := Lib.hid (V3'.old (.cells #[.int .i16 (k : Int), .int .i8 l[t].1] 111))
  have V4 := Lib.hid (V4'.old (.cells #[.int .i16 (k : Int), .int .i8 l[t].1] 111))
  have V5 := Lib.hid (V5'.old (.cells #[.int .i16 (k : Int), .int .i8 l[t].1] 111))
  have HO2 := Lib.hid (HO'.alloc (.cells #[.int .i16 (k : Int), .int .i8 l[t].1] 111))
  have hbs : w0.heap.size ≤ (wd.alloc (.cells #[.int .i16 (k : Int), .int .i8 l[t].1] 111)).heap.size := by simp; omega
  clear V2b' V3' V4' V5' HO'
  refine takeL (i := 1) (v := .int .i64 (k : Int)) rfl (by kernel_rfl) (by kernel_rfl) (by kernel_rfl) (fun _ _ _ h => h) (Or.inl ⟨by rfl, by intro w' hS; clear hS; go_simp⟩) hHeld ?_
  simp only [Act.put, List.setIfInBounds_toArray, List.set_cons_zero, List.set_cons_succ]
  refine takeL (i := 2) (v := .int .i64 0) rfl (by kernel_rfl) (by kernel_rfl) (by kernel_rfl) (fun _ _ _ h => h) (Or.inl ⟨by rfl, by intro w' hS; have y1 := hS.1.cell (i := 0) rfl; clear hS; go_simp⟩) hHeld ?_
  simp only [Act.put, List.setIfInBounds_toArray, List.set_cons_zero, List.set_cons_succ]
  refine takeL (i := 3) (v := .int .i64 (k : Int)) rfl (by kernel_rfl) (by kernel_rfl) (by kernel_rfl) (fun _ _ _ h => h) (Or.inl ⟨by rfl, by intro w' hS; clear hS; go_simp⟩) hHeld ?_
  simp only [Act.put, List.setIfInBounds_toArray, List.set_cons_zero, List.set_cons_succ]
  refine takeL (i := 4) (v := .int .i16 (k : Int)) rfl (by kernel_rfl) (by kernel_rfl) (by kernel_rfl) (fun _ _ _ h => h) (Or.inl ⟨by rfl, by intro w' hS; clear hS; go_simp⟩) hHeld ?_
  simp only [Act.put, List.setIfInBounds_toArray, List.set_cons_zero, List.set_cons_succ]
  refine takeL (i := 5) (v := .pointer (some ⟨w0.heap.size, 1, none⟩)) rfl (by kernel_rfl) (by kernel_rfl) (by kernel_rfl) (fun _ _ _ h => h) (Or.inl ⟨by rfl, by intro w' hS; clear hS; go_simp⟩) hHeld ?_
  simp only [Act.put, List.setIfInBounds_toArray, List.set_cons_zero, List.set_cons_succ]
  refine takeL (i := 6) (v := .slice (some ⟨b, off, none⟩) l.length c) rfl (by kernel_rfl) (by kernel_rfl) (by kernel_rfl) (fun _ _ _ h => h) (Or.inl ⟨by rfl, by intro w' hS; have y1 := hS.2.1.cell (i := 1) rfl; clear hS; go_simp⟩) hHeld ?_
  simp only [Act.put, List.setIfInBounds_toArray, List.set_cons_zero, List.set_cons_succ]
  refine takeL (i := 7) (v := .int .i64 (t : Int)) rfl (by kernel_rfl) (by kernel_rfl) (by kernel_rfl) (fun _ _ _ h => h) (Or.inl ⟨by rfl, by intro w' hS; clear hS; go_simp⟩) hHeld ?_
  simp only [Act.put, List.setIfInBounds_toArray, List.set_cons_zero, List.set_cons_succ]
  refine takeL (i := 8) (v := .pointer (some ⟨b, off + t * 2, none⟩)) rfl (by kernel_rfl) (by kernel_rfl) (by kernel_rfl) (fun _ _ _ h => h) (Or.inl ⟨by rfl, by intro w' hS; clear hS; go_simp⟩) hHeld ?_
  simp only [Act.put, List.setIfInBounds_toArray, List.set_cons_zero, List.set_cons_succ]
  refine takeL (i := 9) (v := .pointer (some ⟨b, off + t * 2, none⟩)) rfl (by kernel_rfl) (by kernel_rfl) (by kernel_rfl) (fun _ _ _ h => h) (Or.inl ⟨by rfl, by intro w' hS; clear hS; go_simp⟩) hHeld ?_
  simp only [Act.put, List.setIfInBounds_toArray, List.set_cons_zero, List.set_cons_succ]
  refine takeL (i := 10) (v := .int .i8 l[t].1) rfl (by kernel_rfl) (by kernel_rfl) (by kernel_rfl) (fun _ _ _ h => h) (Or.inl ⟨by rfl, by intro w' hS; have y1 := keepc yA hS.2.2; clear hS; go_simp⟩) hHeld ?_
  simp only [Act.put, List.setIfInBounds_toArray, List.set_cons_zero, List.set_cons_succ]
  refine takeL (i := 11) (v := .agg #[.int .i16 (k : Int), .int .i8 l[t].1]) rfl (by kernel_rfl) (by kernel_rfl) (by kernel_rfl) (fun _ _ _ h => h) (Or.inl ⟨by rfl, by intro w' hS; clear hS; go_simp⟩) hHeld ?_
  simp only [Act.put, List.setIfInBounds_toArray, List.set_cons_zero, List.set_cons_succ]
  refine wpAnyH_ready (rs := [0, 12]) (by kernel_rfl) (by simp) ?_
  refine readyL rfl (fun K hK => ?_) (readyL rfl (fun K hK => ?_) AllReadyH.nil)
  · skip
    have g0 := U5.out.cell (i := 0) rfl
    go_simp
    refine hK.out _ _ (hHeld) (fun hHeld => ?_)
    clear hK K
    try simp only [Act.put, List.setIfInBounds_toArray, List.set_cons_zero, List.set_cons_succ]
    clear g0
    refine wpAnyH_ready (rs := [12]) (by kernel_rfl) (by simp) ?_
    refine readyL rfl (fun K hK => ?_) AllReadyH.nil
    go_simp
    have hOld := hHeld
    refine hK.out _ _ (⟨hHeld.1.old (.cells #[.int .i16 (k : Int), .int .i8 l[t].1] 111), hHeld.2.1.old (.cells #[.int .i16 (k : Int), .int .i8 l[t].1] 111), balloc hHeld.2.2 (.cells #[.int .i16 (k : Int), .int .i8 l[t].1] 111)⟩) (fun hHeld => ?_)
    clear hK K
    try simp only [Act.put, List.setIfInBounds_toArray, List.set_cons_zero, List.set_cons_succ]
    clear hOld
    refine wpAnyH_ready (rs := [13]) (by kernel_rfl) (by simp) ?_
    refine readyL rfl (fun K hK => ?_) AllReadyH.nil
    rw [if_pos (by rfl)]
    refine append_pairsW (.tmp 15) (.tmp 27) 37 37 rfl 111 111 .i16 .i8 4 Tryz.underlying37 Tryz.underlying37 info_Note (by decide) w0.heap.size _ _ rfl HO2.out _ _ [((k : Int), l[t].1)] rfl (At2.one wd ((k : Int), l[t].1) 111) hlen2 hbs ?_
    intro A3 c3 w3 ho3 hg3
    have q5 := V5.out.grown hg3 (HO2.out.ne_var V5.out (by decide))
    have q2 := V2b.out.grown hg3 (HO2.out.ne_var V2b.out (by decide))
    have q3 := V3.out.grown hg3 (HO2.out.ne_var V3.out (by decide))
    have q4 := V4.out.grown hg3 (HO2.out.ne_var V4.out (by decide))
    have HO3 := Lib.hid ho3
    have HG3 := Lib.hid hg3
    clear ho3
    refine hK.out _ _ (⟨hHeld.1.grown HG3.out (HO2.out.ne_var hHeld.1 (by decide)), hHeld.2.1.grown HG3.out (HO2.out.ne_var hHeld.2.1 (by decide)), bgrown hHeld.2.2 HG3.out (fun j hj => HO2.out.low hj)⟩) (fun hHeld => ?_)
    clear hK K
    try simp only [Act.put, List.setIfInBounds_toArray, List.set_cons_zero, List.set_cons_succ]
    refine wpAnyH_ready (rs := [14]) (by kernel_rfl) (by simp) ?_
    refine readyL rfl (fun K hK => ?_) AllReadyH.nil
    have g2 := q5.cell (i := 0) rfl
    have g3 := q5.frozen 0
    go_simp
    refine hK.out _ _ (⟨hHeld.1.other (by simp <;> omega) _, hHeld.2.1.other (by simp <;> omega) _, bset hHeld.2.2 (by simp <;> omega) _⟩) (fun hHeld => ?_)
    clear hK K
    try simp only [Act.put, List.setIfInBounds_toArray, List.set_cons_zero, List.set_cons_succ]
    refine wpAnyH_done (by kernel_rfl) ?_ _
    have HHELD := Lib.hid hHeld
    clear hHeld g2 g3
    go_wp2
    go_end0
    refine ⟨rfl, ?_⟩
    unfold TuS
    rw [HE.out]
    have hsl : (tuU d l k t ++ [((k : Int), l[t].1)]).length = (tuU d l k t).length + 1 := by simp
    have q6 := q5.set 0 (.slice A3 ((tuU d l k t).length + 1) c3)
    have ho3 := HO3.out
    rw [List.length_append] at ho3
    refine ⟨HHELD.out.2.1, ⟨HHELD.out.1, q2.other (by simp <;> omega) _⟩, q3.other (by simp <;> omega) _, q4.other (by simp <;> omega) _, ⟨A3, c3, ?_, ?_⟩, HHELD.out.2.2⟩
    · rw [hsl]; simpa using q6
    · rw [List.length_append]; exact ho3.beside q5 (by decide) 0 _
  · skip
    go_simp
    have hOld := hHeld
    refine hK.out _ _ (⟨hHeld.1.old (.cells #[.int .i16 (k : Int), .int .i8 l[t].1] 111), hHeld.2.1.old (.cells #[.int .i16 (k : Int), .int .i8 l[t].1] 111), balloc hHeld.2.2 (.cells #[.int .i16 (k : Int), .int .i8 l[t].1] 111)⟩) (fun hHeld => ?_)
    clear hK K
    try simp only [Act.put, List.setIfInBounds_toArray, List.set_cons_zero, List.set_cons_succ]
    clear hOld
    refine wpAnyH_ready (rs := [0]) (by kernel_rfl) (by simp) ?_
    refine readyL rfl (fun K hK => ?_) AllReadyH.nil
    have g0 := V5.out.cell (i := 0) rfl
    go_simp
    refine hK.out _ _ (hHeld) (fun hHeld => ?_)
    clear hK K
    try simp only [Act.put, List.setIfInBounds_toArray, List.set_cons_zero, List.set_cons_succ]
    clear g0
    refine wpAnyH_ready (rs := [13]) (by kernel_rfl) (by simp) ?_
    refine readyL rfl (fun K hK => ?_) AllReadyH.nil
    rw [if_pos (by rfl)]
    refine append_pairsW (.tmp 15) (.tmp 27) 37 37 rfl 111 111 .i16 .i8 4 Tryz.underlying37 Tryz.underlying37 info_Note (by decide) w0.heap.size _ _ rfl HO2.out _ _ [((k : Int), l[t].1)] rfl (At2.one wd ((k : Int), l[t].1) 111) hlen2 hbs ?_
    intro A3 c3 w3 ho3 hg3
    have q5 := V5.out.grown hg3 (HO2.out.ne_var V5.out (by decide))
    have q2 := V2b.out.grown hg3 (HO2.out.ne_var V2b.out (by decide))
    have q3 := V3.out.grown hg3 (HO2.out.ne_var V3.out (by decide))
    have q4 := V4.out.grown hg3 (HO2.out.ne_var V4.out (by decide))
    have HO3 := Lib.hid ho3
    have HG3 := Lib.hid hg3
    clear ho3
    refine hK.out _ _ (⟨hHeld.1.grown HG3.out (HO2.out.ne_var hHeld.1 (by decide)), hHeld.2.1.grown HG3.out (HO2.out.ne_var hHeld.2.1 (by decide)), bgrown hHeld.2.2 HG3.out (fun j hj => HO2.out.low hj)⟩) (fun hHeld => ?_)
    clear hK K
    try simp only [Act.put, List.setIfInBounds_toArray, List.set_cons_zero, List.set_cons_succ]
    refine wpAnyH_ready (rs := [14]) (by kernel_rfl) (by simp) ?_
    refine readyL rfl (fun K hK => ?_) AllReadyH.nil
    have g2 := q5.cell (i := 0) rfl
    have g3 := q5.frozen 0
    go_simp
    refine hK.out _ _ (⟨hHeld.1.other (by simp <;> omega) _, hHeld.2.1.other (by simp <;> omega) _, bset hHeld.2.2 (by simp <;> omega) _⟩) (fun hHeld => ?_)
    clear hK K
    try simp only [Act.put, List.setIfInBounds_toArray, List.set_cons_zero, List.set_cons_succ]
    refine wpAnyH_done (by kernel_rfl) ?_ _
    have HHELD := Lib.hid hHeld
    clear hHeld g2 g3
    go_wp2
    go_end0
    refine ⟨rfl, ?_⟩
    unfold TuS
    rw [HE.out]
    have hsl : (tuU d l k t ++ [((k : Int), l[t].1)]).length = (tuU d l k t).length + 1 := by simp
    have q6 := q5.set 0 (.slice A3 ((tuU d l k t).length + 1) c3)
    have ho3 := HO3.out
    rw [List.length_append] at ho3
    refine ⟨HHELD.out.2.1, ⟨HHELD.out.1, q2.other (by simp <;> omega) _⟩, q3.other (by simp <;> omega) _, q4.other (by simp <;> omega) _, ⟨A3, c3, ?_, ?_⟩, HHELD.out.2.2⟩
    · rw [hsl]; simpa using q6
    · rw [List.length_append]; exact ho3.beside q5 (by decide) 0 _

set_option maxHeartbeats 800000 in
/-- The notes that the program's drum plays. -/
theorem c_played (n : Nat) (A : Option Addr) (c : Nat) (l : List (Int × Int)) (d : List Int) (w : World) (h : At2 .i8 .i8 w A l) (hd : d.length = 96) (hr : Wd d) (hn2 : 2 ≤ n) (hn96 : n ≤ 96) (hl : l.length ≤ 32) :
    Calls Tryz.prog 40 #[.agg #[.int .i16 (n : Int), .slice A l.length c], .agg (drumV d), .int .i64 0, .int .i64 (n : Int)] w fun z w' => ∃ A' c', z = .returned (.slice A' (sortU (tuA d l n)).length c') ∧ Own2 .i16 .i8 111 w' w.heap.size (.slice A' (sortU (tuA d l n)).length c') (sortU (tuA d l n)) ∧ Below w.heap.size w w' := by
  have hu2 := Tryz.underlying27
  have s1 : (w.alloc (.cells #[.int .i16 (n : Int), .slice A l.length c] 27)).heap.size = w.heap.size + 1 := by simp
  have s2 : ((w.alloc (.cells #[.int .i16 (n : Int), .slice A l.length c] 27)).alloc (.cells (drumV d) 31)).heap.size = w.heap.size + 1 + 1 := by simp
  have s3 : (((w.alloc (.cells #[.int .i16 (n : Int), .slice A l.length c] 27)).alloc (.cells (drumV d) 31)).alloc (.cells #[.int .i64 0] 2)).heap.size = w.heap.size + 1 + 1 + 1 := by simp
  have s4 : ((((w.alloc (.cells #[.int .i16 (n : Int), .slice A l.length c] 27)).alloc (.cells (drumV d) 31)).alloc (.cells #[.int .i64 0] 2)).alloc (.cells #[.int .i64 (n : Int)] 2)).heap.size = w.heap.size + 1 + 1 + 1 + 1 := by simp
  have s5 : (((((w.alloc (.cells #[.int .i16 (n : Int), .slice A l.length c] 27)).alloc (.cells (drumV d) 31)).alloc (.cells #[.int .i64 0] 2)).alloc (.cells #[.int .i64 (n : Int)] 2)).alloc (.cells #[] 111)).heap.size = w.heap.size + 1 + 1 + 1 + 1 + 1 := by simp
  have s6 : ((((((w.alloc (.cells #[.int .i16 (n : Int), .slice A l.length c] 27)).alloc (.cells (drumV d) 31)).alloc (.cells #[.int .i64 0] 2)).alloc (.cells #[.int .i64 (n : Int)] 2)).alloc (.cells #[] 111)).alloc (.cells #[.slice (some ⟨w.heap.size + 1 + 1 + 1 + 1, 0, none⟩) 0 0] 37)).heap.size = w.heap.size + 1 + 1 + 1 + 1 + 1 + 1 := by simp
  have v0 : Var ((((((w.alloc (.cells #[.int .i16 (n : Int), .slice A l.length c] 27)).alloc (.cells (drumV d) 31)).alloc (.cells #[.int .i64 0] 2)).alloc (.cells #[.int .i64 (n : Int)] 2)).alloc (.cells #[] 111)).alloc (.cells #[.slice (some ⟨w.heap.size + 1 + 1 + 1 + 1, 0, none⟩) 0 0] 37)) w.heap.size #[.int .i16 (n : Int), .slice A l.length c] 27 := (((((Var.new w _ _).old _).old _).old _).old _).old _
  have v1 : Var ((((((w.alloc (.cells #[.int .i16 (n : Int), .slice A l.length c] 27)).alloc (.cells (drumV d) 31)).alloc (.cells #[.int .i64 0] 2)).alloc (.cells #[.int .i64 (n : Int)] 2)).alloc (.cells #[] 111)).alloc (.cells #[.slice (some ⟨w.heap.size + 1 + 1 + 1 + 1, 0, none⟩) 0 0] 37)) (w.heap.size + 1) (drumV d) 31 := by
    have := Var.new (w.alloc (.cells #[.int .i16 (n : Int), .slice A l.length c] 27)) (drumV d) 31
    rw [s1] at this
    exact (((this.old _).old _).old _).old _
  have v2 : Var ((((((w.alloc (.cells #[.int .i16 (n : Int), .slice A l.length c] 27)).alloc (.cells (drumV d) 31)).alloc (.cells #[.int .i64 0] 2)).alloc (.cells #[.int .i64 (n : Int)] 2)).alloc (.cells #[] 111)).alloc (.cells #[.slice (some ⟨w.heap.size + 1 + 1 + 1 + 1, 0, none⟩) 0 0] 37)) (w.heap.size + 1 + 1) #[.int .i64 0] 2 := by
    have := Var.new ((w.alloc (.cells #[.int .i16 (n : Int), .slice A l.length c] 27)).alloc (.cells (drumV d) 31)) #[.int .i64 0] 2
    rw [s2] at this
    exact ((this.old _).old _).old _
  have v3 : Var ((((((w.alloc (.cells #[.int .i16 (n : Int), .slice A l.length c] 27)).alloc (.cells (drumV d) 31)).alloc (.cells #[.int .i64 0] 2)).alloc (.cells #[.int .i64 (n : Int)] 2)).alloc (.cells #[] 111)).alloc (.cells #[.slice (some ⟨w.heap.size + 1 + 1 + 1 + 1, 0, none⟩) 0 0] 37)) (w.heap.size + 1 + 1 + 1) #[.int .i64 (n : Int)] 2 := by
    have := Var.new (((w.alloc (.cells #[.int .i16 (n : Int), .slice A l.length c] 27)).alloc (.cells (drumV d) 31)).alloc (.cells #[.int .i64 0] 2)) #[.int .i64 (n : Int)] 2
    rw [s3] at this
    exact (this.old _).old _
  have v5 : Var ((((((w.alloc (.cells #[.int .i16 (n : Int), .slice A l.length c] 27)).alloc (.cells (drumV d) 31)).alloc (.cells #[.int .i64 0] 2)).alloc (.cells #[.int .i64 (n : Int)] 2)).alloc (.cells #[] 111)).alloc (.cells #[.slice (some ⟨w.heap.size + 1 + 1 + 1 + 1, 0, none⟩) 0 0] 37)) (w.heap.size + 1 + 1 + 1 + 1 + 1) #[.slice (some ⟨w.heap.size + 1 + 1 + 1 + 1, 0, none⟩) 0 0] 37 := by
    have := Var.new (((((w.alloc (.cells #[.int .i16 (n : Int), .slice A l.length c] 27)).alloc (.cells (drumV d) 31)).alloc (.cells #[.int .i64 0] 2)).alloc (.cells #[.int .i64 (n : Int)] 2)).alloc (.cells #[] 111)) #[.slice (some ⟨w.heap.size + 1 + 1 + 1 + 1, 0, none⟩) 0 0] 37
    rw [s5] at this
    exact this
  have o5 : Own2 .i16 .i8 111 ((((((w.alloc (.cells #[.int .i16 (n : Int), .slice A l.length c] 27)).alloc (.cells (drumV d) 31)).alloc (.cells #[.int .i64 0] 2)).alloc (.cells #[.int .i64 (n : Int)] 2)).alloc (.cells #[] 111)).alloc (.cells #[.slice (some ⟨w.heap.size + 1 + 1 + 1 + 1, 0, none⟩) 0 0] 37)) w.heap.size (.slice (some ⟨w.heap.size + 1 + 1 + 1 + 1, 0, none⟩) 0 0) [] := by
    have := Own2.lit0 (k1 := .i16) (k2 := .i8) (E := 111) (w := ((((w.alloc (.cells #[.int .i16 (n : Int), .slice A l.length c] 27)).alloc (.cells (drumV d) 31)).alloc (.cells #[.int .i64 0] 2)).alloc (.cells #[.int .i64 (n : Int)] 2))) (base := w.heap.size) (by rw [s4]; omega)
    rw [s4] at this
    exact this.alloc _
  have B5 : Below w.heap.size w ((((((w.alloc (.cells #[.int .i16 (n : Int), .slice A l.length c] 27)).alloc (.cells (drumV d) 31)).alloc (.cells #[.int .i64 0] 2)).alloc (.cells #[.int .i64 (n : Int)] 2)).alloc (.cells #[] 111)).alloc (.cells #[.slice (some ⟨w.heap.size + 1 + 1 + 1 + 1, 0, none⟩) 0 0] 37)) := balloc (balloc (balloc (balloc (balloc (balloc (Below.refl _ w) _) _) _) _) _) _
  have V0 := Lib.hid v0
  have V1 := Lib.hid v1
  obtain ⟨wa, hwa⟩ : ∃ x, x = ((((((w.alloc (.cells #[.int .i16 (n : Int), .slice A l.length c] 27)).alloc (.cells (drumV d) 31)).alloc (.cells #[.int .i64 0] 2)).alloc (.cells #[.int .i64 (n : Int)] 2)).alloc (.cells #[] 111)).alloc (.cells #[.slice (some ⟨w.heap.size + 1 + 1 + 1 + 1, 0, none⟩) 0 0] 37)) := ⟨_, rfl⟩
  have HW := Lib.hid hwa
  have key : Calls Tryz.prog 72 #[.agg #[.int .i16 (n : Int), .slice A l.length c], .agg (drumV d), .func (.func 73) #[] #[.pointer (some ⟨w.heap.size + 1 + 1, 0, none⟩), .pointer (some ⟨w.heap.size + 1 + 1 + 1, 0, none⟩), .pointer (some ⟨w.heap.size + 1 + 1 + 1 + 1 + 1, 0, none⟩), .pointer (some ⟨w.heap.size, 0, none⟩)]] wa fun z w' => z = .returned (.tuple #[]) ∧ TuS w wa.heap.size n A c l d n 0 w' := by
    rw [← hwa] at v0 v1 v2 v3 v5 o5 B5 s6
    refine c_pins_played (w.heap.size + 1 + 1) (w.heap.size + 1 + 1 + 1) (w.heap.size + 1 + 1 + 1 + 1 + 1) w.heap.size n A c l d wa hd hr hn96 hl (TuS w wa.heap.size n A c l d) ?_ ?_ ?_ ?_ ?_
    · refine ⟨(v0.old _).old _, ⟨(v2.old _).old _, (v3.old _).old _⟩, (Var.new wa _ _).old _, by simpa using Var.new (wa.alloc (.cells #[.int .i16 (n : Int), .slice A l.length c] 27)) (drumV d) 31, ⟨some ⟨w.heap.size + 1 + 1 + 1 + 1, 0, none⟩, 0, ?_, ?_⟩, balloc (balloc B5 _) _⟩
      · rw [tuU_zero, tuA_zero]; exact (v5.old _).old _
      · rw [tuU_zero, tuA_zero]; exact (o5.alloc _).alloc _
    · exact fun k t w' hS => ⟨hS.2.2.1, hS.2.2.2.1⟩
    · intro k w' hS
      unfold TuS at hS ⊢
      rw [tuU_end] at hS
      rw [tuU_zero]
      exact hS
    · intro k t w' ht hp hS
      unfold TuS at hS ⊢
      rw [tuU_no hp]
      exact hS
    · exact fun k t w' hk ht hp hS => c_played1 w wa.heap.size n A c l d k t w' h hn96 hk ht hl hp (by omega) hS
  clear v0 v1 v2 v3 v5 o5 B5 s1 s2 s3 s4 s5 s6
  have KEY := Lib.hid key
  have hbd := tuA_len d l (k := n) hn96 hl
  clear key
  rw [← hwa] at V0 V1
  go_enter Tryz.func40, Tryz.ntmps40
  go_upto_region 2 with fail
  rw [← hwa]
  clear hwa HW
  have f1 := V0.out.cell (i := 0) rfl
  have f2 := V0.out.cell (i := 1) rfl
  go_wp2_with (refine wpList_loadD (by rfl) rfl V1.out rfl Tryz.underlying31 size_Drum hd ?_)
  refine KEY.out.mono ?_
  rintro z w1 ⟨rfl, h1, h2, h3, h4, ⟨A', c', h5, h6⟩, h7⟩
  rw [tuU_zero] at h5 h6
  have g1 := h5.cell (i := 0) rfl
  have H6 := Lib.hid h6
  obtain ⟨M, hM⟩ : ∃ M, tuA d l n = M := ⟨_, rfl⟩
  rw [hM] at H6 hbd g1
  have HM := Lib.hid hM
  clear h1 h2 h3 h4 h5 h6 f1 f2 hM
  go_wp2_with fail
  refine (c_madeN A' c' M _ H6.out.at_ (by omega)).mono ?_
  rintro e w3 ⟨A3, c3, rfl, o3, b3⟩
  have O3 := Lib.hid (o3.base_le h7.size)
  clear o3 g1
  obtain ⟨S, hS⟩ : ∃ S, sortU M = S := ⟨_, rfl⟩
  rw [hS] at O3 ⊢
  have HS := Lib.hid hS
  clear hS
  go_wp2
  go_ret
  rw [HM.out, HS.out]
  exact ⟨A3, c3, rfl, O3.out, bstep h7 b3⟩

set_option maxHeartbeats 800000 in
theorem c_specTuneOf (s : Int) (A : Option Addr) (c : Nat) (l : List (Int × Int)) (d : List Int) (w : World) (h : At2 .i8 .i8 w A l) (hs : W16 s) (hl : Whs l) (hn : l.length ≤ 1073741824) (hd : d.length = 96) (hr : ∀ x ∈ d, 0 ≤ x ∧ x ≤ 4294967295) :
    Calls Tryz.prog 13 #[.agg #[.int .i16 s, .slice A l.length c], .agg (drumV d)] w fun e w' => ∃ A' c', e = .returned (.tuple #[.slice A' (rTu s l d).length c', .int .i64 (cTu s l d)]) ∧ Own2 .i16 .i8 111 w' w.heap.size (.slice A' (rTu s l d).length c') (rTu s l d) ∧ Below w.heap.size w w' := by
  have v0 : FrameAt ((w.alloc (.cells #[.int .i16 s, .slice A l.length c] 27)).alloc (.cells (drumV d) 31)) w.heap.size s A c l := (FrameAt.box _).alloc _
  have v1 : DrumAt ((w.alloc (.cells #[.int .i16 s, .slice A l.length c] 27)).alloc (.cells (drumV d) 31)) (w.heap.size + 1) d := by simpa using DrumAt.box (w := w.alloc (.cells #[.int .i16 s, .slice A l.length c] 27)) 31 hd
  have B : Below w.heap.size w ((w.alloc (.cells #[.int .i16 s, .slice A l.length c] 27)).alloc (.cells (drumV d) 31)) := balloc (balloc (Below.refl _ w) _) _
  have V0 := Lib.hid v0
  have V1 := Lib.hid v1
  clear v0 v1
  by_cases hx : cD s l d = 0
  · obtain ⟨hf, hdd⟩ := cD_zero hx
    obtain ⟨⟨s1, s2⟩, ⟨n1, n2⟩, _⟩ := okF_iff.1 hf
    obtain ⟨n, rfl⟩ := Int.eq_ofNat_of_zero_le (show 0 ≤ s by omega)
    have hC1 : cTu (n : Int) l d = (if (sortU (tuA d l n)).length ≤ 120 then 0 else 3) := by unfold cTu; rw [if_pos hx, Int.toNat_natCast]; rfl
    have hR1 : rTu (n : Int) l d = (if (sortU (tuA d l n)).length ≤ 120 then sortU (tuA d l n) else []) := by unfold rTu; rw [if_pos hx, Int.toNat_natCast]; rfl
    have hn96 : n ≤ 96 := by omega
    have hn2 : 2 ≤ n := by omega
    have hl32 : l.length ≤ 32 := by omega
    have HX := Lib.hid hx
    have hN := tuA_okN (d := d) hn96 hf
    have hLM := okT_sortU hN
    have hwf := wf_sortU (wf_of_okN hN)
    have hs0 := Nat.le_trans (sortU_len (tuA d l n)) (tuA_len d l hn96 hl32)
    clear hx hf hdd s1 s2 n1 n2 hN
    rcases hq : decide ((sortU (tuA d l n)).length ≤ 120) with _ | _
    all_goals
      have HC := Lib.hid hC1
      have HR := Lib.hid hR1
      clear hC1 hR1 hLM hwf
      go_enter Tryz.func13, Tryz.ntmps13
      go_wp2_with fail
      refine (c_l02Asked w.heap.size (w.heap.size + 1) (n : Int) A c l d _ V0.out (h.below B) V1.out hs hl hn).mono ?_
      rintro e w1 ⟨rfl, b1⟩
      rw [HX.out]
      have B1 := bstep B b1
      go_wp2_with fail
      refine (c_l02Tune w.heap.size (w.heap.size + 1) n A c l d _ (h.below B1) (V0.out.below b1) (V1.out.below b1) hr hn96 hl32).mono ?_
      rintro e w2 ⟨A', c', rfl, ho, b2⟩
      have B2 := bstep B1 b2
      have HO := Lib.hid (ho.base_le B1.size)
      clear ho
      obtain ⟨S, hS⟩ : ∃ S, sortU (tuA d l n) = S := ⟨_, rfl⟩
      rw [hS] at hq HC HR HO hs0 ⊢
      clear hS
    · have hq2 := of_decide_eq_false hq
      have hgt : decide (120 < (S.length : Int)) = true := decide_eq_true (by omega)
      rw [if_neg hq2] at HC HR
      clear hq
      go_wp2
      go_ret2
      rw [HR.out, HC.out]
      exact ⟨_, _, rfl, Own2.lit0 B2.size, balloc B2 _⟩
    · have hq2 := of_decide_eq_true hq
      have hgt : decide (120 < (S.length : Int)) = false := decide_eq_false (by omega)
      rw [if_pos hq2] at HC HR
      clear hq
      go_wp2
      go_ret2
      rw [HR.out, HC.out]
      exact ⟨_, _, rfl, HO.out, B2⟩
  · obtain ⟨p, hp⟩ : ∃ p, cD s l d = p := ⟨_, rfl⟩
    have HM := Lib.hid (show rTu s l d = [] by unfold rTu; rw [if_neg hx])
    have HMc := Lib.hid (show cTu s l d = p by unfold cTu; rw [if_neg hx, hp])
    rw [hp] at hx
    have HP := Lib.hid hp
    have hx2 : (p == 0) = false := by simpa using hx
    clear hp hx
    go_enter Tryz.func13, Tryz.ntmps13
    go_wp2_with fail
    refine (c_l02Asked w.heap.size (w.heap.size + 1) s A c l d _ V0.out (h.below B) V1.out hs hl hn).mono ?_
    rintro e w1 ⟨rfl, b1⟩
    rw [HP.out]
    have B1 := bstep B b1
    go_wp2
    go_ret2
    rw [HM.out, HMc.out]
    exact ⟨_, _, rfl, Own2.lit0 B1.size, balloc B1 _⟩

set_option maxHeartbeats 800000 in
theorem c_implTuneOf (s : Int) (A : Option Addr) (c : Nat) (l : List (Int × Int)) (d : List Int) (w : World) (h : At2 .i8 .i8 w A l) (hs : W16 s) (hl : Whs l) (hn : l.length ≤ 1073741824) (hd : d.length = 96) (hr : ∀ x ∈ d, 0 ≤ x ∧ x ≤ 4294967295) :
    Calls Tryz.prog 12 #[.agg #[.int .i16 s, .slice A l.length c], .agg (drumV d)] w fun e w' => ∃ A' c', e = .returned (.tuple #[.slice A' (rTu s l d).length c', .int .i64 (cTu s l d)]) ∧ Own2 .i16 .i8 111 w' w.heap.size (.slice A' (rTu s l d).length c') (rTu s l d) ∧ Below w.heap.size w w' := by
  have hu2 := Tryz.underlying27
  have v0 : Var (((w.alloc (.cells #[.int .i16 s, .slice A l.length c] 27)).alloc (.cells (drumV d) 31)).alloc (.cells (drumV d) 31)) w.heap.size #[.int .i16 s, .slice A l.length c] 27 := ((Var.new w _ _).old _).old _
  have v1 : Var ((w.alloc (.cells #[.int .i16 s, .slice A l.length c] 27)).alloc (.cells (drumV d) 31)) (w.heap.size + 1) (drumV d) 31 := by simpa using Var.new (w.alloc (.cells #[.int .i16 s, .slice A l.length c] 27)) (drumV d) 31
  have v3 : Var (((w.alloc (.cells #[.int .i16 s, .slice A l.length c] 27)).alloc (.cells (drumV d) 31)).alloc (.cells (drumV d) 31)) (w.heap.size + 1 + 1) (drumV d) 31 := by simpa using Var.new ((w.alloc (.cells #[.int .i16 s, .slice A l.length c] 27)).alloc (.cells (drumV d) 31)) (drumV d) 31
  have B : Below w.heap.size w (((w.alloc (.cells #[.int .i16 s, .slice A l.length c] 27)).alloc (.cells (drumV d) 31)).alloc (.cells (drumV d) 31)) := balloc (balloc (balloc (Below.refl _ w) _) _) _
  have V0 := Lib.hid v0
  have V1 := Lib.hid v1
  have U1 := Lib.hid (v1.old (.cells (drumV d) 31))
  have V3 := Lib.hid v3
  clear v0 v1 v3
  by_cases hx : cD s l d = 0
  · obtain ⟨hf, hdd⟩ := cD_zero hx
    obtain ⟨⟨s1, s2⟩, ⟨n1, n2⟩, _⟩ := okF_iff.1 hf
    obtain ⟨n, rfl⟩ := Int.eq_ofNat_of_zero_le (show 0 ≤ s by omega)
    have hC1 : cTu (n : Int) l d = (if (sortU (tuA d l n)).length ≤ 120 then 0 else 3) := by unfold cTu; rw [if_pos hx, Int.toNat_natCast]; rfl
    have hR1 : rTu (n : Int) l d = (if (sortU (tuA d l n)).length ≤ 120 then sortU (tuA d l n) else []) := by unfold rTu; rw [if_pos hx, Int.toNat_natCast]; rfl
    have hn96 : n ≤ 96 := by omega
    have hn2 : 2 ≤ n := by omega
    have hl32 : l.length ≤ 32 := by omega
    have HX := Lib.hid hx
    have hN := tuA_okN (d := d) hn96 hf
    have hLM := okT_sortU hN
    have hwf := wf_sortU (wf_of_okN hN)
    have hs0 := Nat.le_trans (sortU_len (tuA d l n)) (tuA_len d l hn96 hl32)
    clear hx hf hdd s1 s2 n1 n2 hN
    have hwn : IntKind.i64.wrap (n : Int) = (n : Int) := IntWalk.i64_in _ (by omega)
    rcases hq : decide ((sortU (tuA d l n)).length ≤ 120) with _ | _
    all_goals
      rw [hq] at hLM
      have HC := Lib.hid hC1
      have HR := Lib.hid hR1
      have HWF := Lib.hid hwf
      have HOK := Lib.hid hLM
      have HQ := Lib.hid hq
      clear hC1 hR1 hwf hLM hq
      go_enter Tryz.func12, Tryz.ntmps12
      go_wp2_with (first | (refine wpList_loadD (by rfl) rfl V1.out rfl Tryz.underlying31 size_Drum hd ?_) | (refine wpList_bd1 (by rfl) rfl (by simp [Act.eval, Act.put]) Tryz.underlying104 zero_Drum size_Drum hd ?_))
      refine (c_drumCode _ (n : Int) A c 1 l [d] _ (h.below B) (DrumsAt.one V3.out hd) hs hl hn (by simp)).mono ?_
      rintro e w1 ⟨rfl, b1⟩
      rw [cD_eq, HX.out]
      have F1 := Lib.hid (V0.out.below b1)
      have D1 := Lib.hid (U1.out.below b1)
      have B1 := bstep B b1
      clear b1
      have f1 := F1.out.cell (i := 0) rfl
      have f2 := F1.out.cell (i := 1) rfl
      go_wp2_with (refine wpList_loadD (by rfl) rfl D1.out rfl Tryz.underlying31 size_Drum hd ?_)
      refine (c_played n A c l d _ (h.below B1) hd hr hn2 hn96 hl32).mono ?_
      rintro e w2 ⟨A', c', rfl, ho, b2⟩
      have B2 := bstep B1 b2
      have O3 := Lib.hid (ho.base_le B1.size)
      clear ho f1 f2
      obtain ⟨S, hS⟩ : ∃ S, sortU (tuA d l n) = S := ⟨_, rfl⟩
      rw [hS] at HC HR O3 hs0 HWF HOK HQ ⊢
      clear hS
      go_wp2_with fail
      refine (c_checked A' c' S 3 _ O3.out.at_ HWF.out (by omega)).mono ?_
      rintro e w4 ⟨rfl, b4⟩
      rw [HOK.out]
      go_wp2
      go_ret2
    · have hq2 := of_decide_eq_false HQ.out
      rw [HR.out, HC.out, if_neg hq2, if_neg hq2]
      exact ⟨none, 0, rfl, World.ownsRow_nil _ _ _ _, bstep B2 b4⟩
    · have hq2 := of_decide_eq_true HQ.out
      rw [HR.out, HC.out, if_pos hq2, if_pos hq2]
      exact ⟨A', c', rfl, O3.out.below b4, bstep B2 b4⟩
  · obtain ⟨p, hp⟩ : ∃ p, cD s l d = p := ⟨_, rfl⟩
    have HM := Lib.hid (show rTu s l d = [] by unfold rTu; rw [if_neg hx])
    have HMc := Lib.hid (show cTu s l d = p by unfold cTu; rw [if_neg hx, hp])
    rw [hp] at hx
    have HP := Lib.hid hp
    have hx2 : (p == 0) = false := by simpa using hx
    clear hp hx
    go_enter Tryz.func12, Tryz.ntmps12
    go_wp2_with (first | (refine wpList_loadD (by rfl) rfl V1.out rfl Tryz.underlying31 size_Drum hd ?_) | (refine wpList_bd1 (by rfl) rfl (by simp [Act.eval, Act.put]) Tryz.underlying104 zero_Drum size_Drum hd ?_))
    refine (c_drumCode _ s A c 1 l [d] _ (h.below B) (DrumsAt.one V3.out hd) hs hl hn (by simp)).mono ?_
    rintro e w1 ⟨rfl, b1⟩
    rw [cD_eq, HP.out]
    have B1 := bstep B b1
    clear b1
    go_wp2
    go_ret2
    rw [HM.out, HMc.out]
    exact ⟨none, 0, rfl, World.ownsRow_nil _ _ _ _, B1⟩

end Go.Proofs.YtnakdlfjjeligaaGreat
