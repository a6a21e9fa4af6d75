/-
  The facts that the law of turned drums wants, of drawn frames and drums. Plain: no program in it.
-/
import Derived.Test.YtnakdlfjjeligaaGreatPureTE
namespace Go.Proofs.YtnakdlfjjeligaaGreat
set_option linter.unusedVariables false
set_option linter.unusedSimpArgs false

theorem DrawnF.n {s : Int} {l : List (Int × Int)} (h : DrawnF s l) : (1 ≤ s.toNat ∧ s.toNat ≤ 96) ∧ l.length ≤ 32 ∧ 0 ≤ s ∧ (s.toNat : Int) = s := by have := h.1; have := h.2.1; omega
theorem vD_ok {s : Int} {l : List (Int × Int)} {d : List Int} (hF : DrawnF s l) (hd : Wd d) (hw : Within d s.toNat l.length) : okD l.length s d = true ∧ vD s l d = true ∧ cD s l d = 0 := by
  have h := (okD_bits hF.n.2.1 hF.n.2.2.1 hd).2 hw
  refine ⟨h, ?_, ?_⟩
  · unfold vD; rw [hF.ok, h]; rfl
  · unfold cD; rw [hF.ok, h]; rfl
theorem cP_ok {s : Int} {l : List (Int × Int)} {d : List Int} (hv : vD s l d = true) {a t : Int} (ha : 0 ≤ a ∧ a < s) (ht : 0 ≤ t ∧ t < l.length) : cP s l d a t = 0 := by
  unfold cP
  rw [hv, if_pos rfl, show inB a 0 (s - 1) = true from inB_iff.2 (by omega), show inB t 0 ((l.length : Int) - 1) = true from inB_iff.2 (by omega)]
  rfl
theorem tu_ok {s : Int} {l : List (Int × Int)} {d : List Int} (hc : cD s l d = 0) (hn : (sortU (tuA d l s.toNat)).length ≤ 120) : cTu s l d = 0 ∧ rTu s l d = sortU (tuA d l s.toNat) := by
  constructor
  · unfold cTu cLim; rw [hc, if_pos rfl, if_pos hn]
  · unfold rTu rLim; rw [hc, if_pos rfl, if_pos hn]
theorem tu_few {s : Int} {l : List (Int × Int)} {d : List Int} {p : Nat} (hD : DrumIn s l d p) : (sortU (tuA d l s.toNat)).length ≤ p := by
  have h := sortU_len (tuA d l s.toNat)
  have h2 : (tuA d l s.toNat).length = (pinsL d l.length s.toNat).length := by unfold tuA; rw [List.length_map]
  have := hD.2.2.2
  omega
theorem tune_facts {s : Int} {l : List (Int × Int)} {d : List Int} {p : Nat} (hF : DrawnF s l) (hD : DrumIn s l d p) (hp : p ≤ 120) :
    vD s l d = true ∧ cD s l d = 0 ∧ cTu s l d = 0 ∧ okT (rTu s l d) = true ∧ cT (rTu s l d) = 0 ∧ rPitchesOf (rTu s l d) = pitchesL (rTu s l d) ∧ cF s l = 0 ∧ rBellsOf s l = bellsL l ∧ bits .andNot .u64 (pitchesL (rTu s l d)) (bellsL l) = 0 := by
  obtain ⟨h1, h2, h3⟩ := vD_ok hF hD.1 hD.2.2.1
  obtain ⟨h4, h5⟩ := tu_ok h3 (Nat.le_trans (tu_few hD) hp)
  have hN := tuA_okN (d := d) (l := l) hF.n.1.2 (by rw [hF.n.2.2.2]; exact hF.ok)
  have h6 : okT (rTu s l d) = true := by rw [h5, okT_sortU hN, decide_eq_true_eq]; exact Nat.le_trans (tu_few hD) hp
  have hok := hF.ok
  refine ⟨h2, h3, h4, h6, by unfold cT; rw [h6]; rfl, by unfold rPitchesOf; rw [h6]; rfl, by unfold cF; rw [hok]; rfl, by unfold rBellsOf; rw [hok]; rfl, ?_⟩
  refine bells_cover (fun q hq => ?_) (fun q hq => ?_) (fun q hq => ?_)
  · have := okN_iff.1 (okN_of_okT h6 hq); omega
  · have := hF.2.2 q hq; omega
  · rw [h5, sortU_mem, tu_mem] at hq
    obtain ⟨k, t, ht, _, _, rfl⟩ := hq
    exact ⟨l[t], List.getElem_mem ht, rfl⟩
theorem turn_facts {s : Int} {l : List (Int × Int)} {d : List Int} {p : Nat} (hF : DrawnF s l) (hD : DrumIn s l d p) (hp : p ≤ 120) {b : Int} (hb : 0 ≤ b ∧ b < s) :
    cP s l d b 0 = 0 ∧ Wd (rTurn s l d b) ∧ (rTurn s l d b).length = 96 ∧ cP s l (rTurn s l d b) ((s - b) % s) 0 = 0 ∧ rTurn s l (rTurn s l d b) ((s - b) % s) = d ∧
    cTu s l (rTurn s l d b) = 0 ∧ (rTu s l (rTurn s l d b)).length = (rTu s l d).length ∧ cD s l (rTurn s l d b) = 0 ∧ (rCl s l (rTurn s l d b)).length = (rCl s l d).length := by
  obtain ⟨h1, h2, h3⟩ := vD_ok hF hD.1 hD.2.2.1
  obtain ⟨hn, hm, hs0, hsn⟩ := hF.n
  have hl1 := hF.2.1
  have hc := cP_ok h2 hb (t := 0) (by omega)
  obtain ⟨n, hN⟩ : ∃ n, s.toNat = n := ⟨_, rfl⟩
  obtain ⟨q, rfl⟩ := Int.eq_ofNat_of_zero_le hb.1
  have hqn : q < n := by omega
  rw [hN] at hn hsn
  have hT : rTurn s l d (q : Int) = turnS n q d n := by unfold rTurn; rw [hc, if_pos rfl, hN]; rfl
  have hw : Within (turnS n q d n) n l.length := turn_within hn hqn (by rw [← hN]; exact hD.2.2.1)
  have hwd := turn_wd hn hqn hD.1
  obtain ⟨k1, k2, k3⟩ := vD_ok (d := turnS n q d n) hF hwd (by rw [hN]; exact hw)
  have hmod : (s - (q : Int)) % s = (((n - q) % n : Nat) : Int) := by
    have e0 : (n : Int) - (q : Int) = ((n - q : Nat) : Int) := by omega
    rw [← hsn, e0]
    rfl
  have hlt : (n - q) % n < n := Nat.mod_lt _ (by omega)
  have hc2 := cP_ok k2 (a := (((n - q) % n : Nat) : Int)) (t := 0) (by omega) (by omega)
  have few := tu_few hD
  obtain ⟨u1, u2⟩ := tu_ok h3 (Nat.le_trans few hp)
  have hlen := tu_turn (l := l) (d := d) hn hqn
  rw [← hN] at hlen
  obtain ⟨v1, v2⟩ := tu_ok (d := rTurn s l d (q : Int)) (by rw [hT]; exact k3) (by rw [hT, ← hN, hlen]; exact Nat.le_trans few hp)
  refine ⟨hc, by rw [hT]; exact hwd, by rw [hT]; exact turnS_len _ _ _ _, by rw [hT, hmod]; exact hc2, ?_, v1, ?_, by rw [hT]; exact k3, ?_⟩
  · rw [hT, hmod]
    unfold rTurn
    rw [hc2, if_pos rfl, hN, Int.toNat_natCast]
    exact turn_back hn hqn hD.2.1 (fun i hi => out_zero hD.1 hD.2.1 hD.2.2.1 (by omega))
  · rw [v2, u2, hT, ← hN, hlen]
  · unfold rCl
    rw [hT, k3, h3, if_pos rfl, if_pos rfl, hN]
    exact cl_turn hn hqn
theorem mirror_facts {s : Int} {l : List (Int × Int)} {d : List Int} {p : Nat} (hF : DrawnF s l) (hD : DrumIn s l d p) (hp : p ≤ 120) :
    Wd (rMirror s l d) ∧ (rMirror s l d).length = 96 ∧ rMirror s l (rMirror s l d) = d ∧ cD s l (rMirror s l d) = 0 ∧
    cTu s l (rMirror s l d) = 0 ∧ (rTu s l (rMirror s l d)).length = (rTu s l d).length ∧ (rCl s l (rMirror s l d)).length = (rCl s l d).length := by
  obtain ⟨h1, h2, h3⟩ := vD_ok hF hD.1 hD.2.2.1
  obtain ⟨hn, hm, hs0, hsn⟩ := hF.n
  obtain ⟨n, hN⟩ : ∃ n, s.toNat = n := ⟨_, rfl⟩
  rw [hN] at hn hsn
  have hM : rMirror s l d = revL n d := by unfold rMirror; rw [h3, if_pos rfl, hN]
  have hw : Within (revL n d) n l.length := rev_within hD.2.1 hn.2 (by rw [← hN]; exact hD.2.2.1)
  have hwd := rev_wd hD.2.1 hn.2 hD.1
  obtain ⟨k1, k2, k3⟩ := vD_ok (d := revL n d) hF hwd (by rw [hN]; exact hw)
  have few := tu_few hD
  obtain ⟨u1, u2⟩ := tu_ok h3 (Nat.le_trans few hp)
  have hlen := tu_rev (l := l) hD.2.1 hn.2
  rw [← hN] at hlen
  obtain ⟨v1, v2⟩ := tu_ok (d := rMirror s l d) (by rw [hM]; exact k3) (by rw [hM, ← hN, hlen]; exact Nat.le_trans few hp)
  refine ⟨by rw [hM]; exact hwd, by rw [hM, revL_len]; exact hD.2.1, ?_, by rw [hM]; exact k3, v1, ?_, ?_⟩
  · rw [hM]; unfold rMirror; rw [k3, if_pos rfl, hN]; exact rev_rev hD.2.1 hn.2
  · rw [v2, u2, hM, ← hN, hlen]
  · unfold rCl
    rw [hM, k3, h3, if_pos rfl, if_pos rfl, hN]
    exact cl_rev hD.2.1 hn (fun t ht => by
      rw [rdy_at ht]
      have := hF.2.2 _ (List.getElem_mem ht)
      have := hF.1
      omega)
theorem swap_facts {s : Int} {l : List (Int × Int)} {d : List Int} {p : Nat} (hF : DrawnF s l) (hD : DrumIn s l d p) (hp : p ≤ 120) {a b : Int} (ha : 0 ≤ a ∧ a < l.length) (hb : 0 ≤ b ∧ b < l.length) :
    cSw s l d a b = 0 ∧ sSw s l d a b = s ∧ DrawnF s (fSw s l d a b) ∧ Wd (dSw s l d a b) ∧ (dSw s l d a b).length = 96 ∧ rTu s (fSw s l d a b) (dSw s l d a b) = rTu s l d ∧ cTu s (fSw s l d a b) (dSw s l d a b) = 0 := by
  obtain ⟨h1, h2, h3⟩ := vD_ok hF hD.1 hD.2.2.1
  obtain ⟨hn, hm, hs0, hsn⟩ := hF.n
  have hs1 := hF.1
  have c1 := cP_ok h2 (a := 0) (t := a) (by omega) ha
  have c2 := cP_ok h2 (a := 0) (t := b) (by omega) hb
  obtain ⟨i, rfl⟩ := Int.eq_ofNat_of_zero_le ha.1
  obtain ⟨j, rfl⟩ := Int.eq_ofNat_of_zero_le hb.1
  have hc : cSw s l d (i : Int) (j : Int) = 0 := by unfold cSw; rw [c1, if_pos rfl]; exact c2
  have hi : i < l.length := by omega
  have hj : j < l.length := by omega
  have e1 : fSw s l d (i : Int) (j : Int) = swH l i j := by unfold fSw; rw [hc, if_pos rfl]; rfl
  have e2 : dSw s l d (i : Int) (j : Int) = swT d i j s.toNat := by unfold dSw; rw [hc, if_pos rfl]; rfl
  have hF2 := swH_drawn hF hi hj
  have hwd := swT_bd hD.1 i j s.toNat
  have hw : Within (swT d i j s.toNat) s.toNat (swH l i j).length := by rw [swH_len]; exact swT_within hD.1 hD.2.1 hn.2 hi hj hm hD.2.2.1
  obtain ⟨k1, k2, k3⟩ := vD_ok hF2 hwd hw
  have hs := tu_swap hD.1 (l := l) (a := i) (b := j) (n := s.toNat) hD.2.1 hn.2 hi hj hm
  have few := tu_few hD
  obtain ⟨u1, u2⟩ := tu_ok h3 (Nat.le_trans few hp)
  obtain ⟨v1, v2⟩ := tu_ok k3 (by rw [hs]; exact Nat.le_trans few hp)
  refine ⟨hc, by unfold sSw; rw [hc, if_pos rfl], by rw [e1]; exact hF2, by rw [e2]; exact hwd, by rw [e2, swT_len]; exact hD.2.1, ?_, ?_⟩
  · rw [e1, e2, v2, u2, hs]
  · rw [e1, e2]; exact v1
theorem free_facts {s : Int} {l : List (Int × Int)} {d : List Int} {p : Nat} (hF : DrawnF s l) (hD : DrumIn s l d p) {a k : Nat} (ha : a < l.length) (hk : (k : Int) < s) :
    cHammersFor s l l[a].1 = 0 ∧ ¬ rHammersFor s l l[a].1 < 1 ∧ cFT s l d (k : Int) l[a].1 = 0 ∧ ¬ ((rFT s l d (k : Int) l[a].1).length : Int) > rHammersFor s l l[a].1 ∧ (pinB d k a = true → ¬ (a : Int) ∈ rFT s l d (k : Int) l[a].1) := by
  obtain ⟨h1, h2, h3⟩ := vD_ok hF hD.1 hD.2.2.1
  have hl1 := hF.2.1
  have hp := hF.2.2 _ (List.getElem_mem ha)
  have hb : inB l[a].1 0 47 = true := inB_iff.2 (by omega)
  have hok := hF.ok
  have e1 : rHammersFor s l l[a].1 = (numH l l[a].1 : Int) := by unfold rHammersFor; rw [hok, hb]; rfl
  have hc : cFT s l d (k : Int) l[a].1 = 0 := by unfold cFT; rw [cP_ok h2 (a := (k : Int)) (t := 0) (by omega) (by omega), hb]; rfl
  have e2 : rFT s l d (k : Int) l[a].1 = ftL d s.toNat l k l[a].1 l.length := by unfold rFT; rw [hc, if_pos rfl]; rfl
  refine ⟨by unfold cHammersFor; rw [hok, hb]; rfl, ?_, hc, ?_, fun hpin => ?_⟩
  · rw [e1]; have := num_pos ha; omega
  · rw [e1, e2]
    have := ft_le d s.toNat l k l[a].1 l.length (Nat.le_refl _)
    rw [List.take_length] at this
    omega
  · rw [e2]; exact ft_no hpin
theorem pin_facts {s : Int} {l : List (Int × Int)} {d : List Int} {p : Nat} (hF : DrawnF s l) (hD : DrumIn s l d p) {a k : Nat} (ha : a < l.length) (hk : (k : Int) < s) :
    (pinB d k a = true → cW s l d (k : Int) (a : Int) true = 4 ∧ cW s l d (k : Int) (a : Int) false = 0 ∧ Wd (rW s l d (k : Int) (a : Int) false) ∧ (rW s l d (k : Int) (a : Int) false).length = 96 ∧ cW s l (rW s l d (k : Int) (a : Int) false) (k : Int) (a : Int) true = 0 ∧ rW s l (rW s l d (k : Int) (a : Int) false) (k : Int) (a : Int) true = d) ∧
    (pinB d k a = false → cW s l d (k : Int) (a : Int) true = 0 ∧ cW s l d (k : Int) (a : Int) false = 4 ∧ Wd (rW s l d (k : Int) (a : Int) true) ∧ (rW s l d (k : Int) (a : Int) true).length = 96 ∧ cW s l (rW s l d (k : Int) (a : Int) true) (k : Int) (a : Int) false = 0 ∧ rW s l (rW s l d (k : Int) (a : Int) true) (k : Int) (a : Int) false = d ∧
      cDD s l d (rW s l d (k : Int) (a : Int) true) = 0 ∧ rMoves s l d (rW s l d (k : Int) (a : Int) true) (rW s l d (k : Int) (a : Int) true) d = 1 ∧ rMoves s l d (rW s l d (k : Int) (a : Int) true) d (rW s l d (k : Int) (a : Int) true) = 0) := by
  obtain ⟨h1, h2, h3⟩ := vD_ok hF hD.1 hD.2.2.1
  obtain ⟨hn, hm, hs0, hsn⟩ := hF.n
  have hc := cP_ok h2 (a := (k : Int)) (t := (a : Int)) (by omega) (by omega)
  have hk96 : k < 96 := by omega
  have ha32 : a < 32 := by omega
  have hkn : k < s.toNat := by omega
  have hcW : ∀ on, cW s l d (k : Int) (a : Int) on = if pinB d k a == on then 4 else 0 := fun on => by unfold cW; rw [hc, if_pos rfl, Int.toNat_natCast, Int.toNat_natCast]
  have hb := put_back hD.1 hD.2.1 hk96 ha32
  have hnew : ∀ on, pinB (putL d k a on) k a = on := fun on => by rw [pinB_put hD.1 (by have := hD.2.1; omega) ha32 on ha32, if_pos ⟨rfl, rfl⟩]
  have hwd : ∀ on, Wd (putL d k a on) := fun on => putL_bd hD.1 k a on
  have hwi : ∀ on, Within (putL d k a on) s.toNat l.length := fun on => put_within hD.1 hD.2.1 hkn hn.2 ha hm on hD.2.2.1
  have hc2 : ∀ on, cP s l (putL d k a on) (k : Int) (a : Int) = 0 := fun on => cP_ok (vD_ok hF (hwd on) (hwi on)).2.1 (by omega) (by omega)
  have hlen : ∀ on, (putL d k a on).length = 96 := fun on => by rw [putL_len]; exact hD.2.1
  constructor
  · intro hp
    have e : rW s l d (k : Int) (a : Int) false = putL d k a false := by unfold rW; rw [hcW, hp]; rfl
    rw [hp] at hb
    rw [e]
    have hc3 : cW s l (putL d k a false) (k : Int) (a : Int) true = 0 := by unfold cW; rw [hc2, if_pos rfl, Int.toNat_natCast, Int.toNat_natCast, hnew]; rfl
    refine ⟨by rw [hcW, hp]; rfl, by rw [hcW, hp]; rfl, hwd _, hlen _, hc3, ?_⟩
    unfold rW
    rw [hc3, if_pos rfl, Int.toNat_natCast, Int.toNat_natCast]
    exact hb
  · intro hp
    have e : rW s l d (k : Int) (a : Int) true = putL d k a true := by unfold rW; rw [hcW, hp]; rfl
    rw [hp] at hb
    rw [e]
    have hc3 : cW s l (putL d k a true) (k : Int) (a : Int) false = 0 := by unfold cW; rw [hc2, if_pos rfl, Int.toNat_natCast, Int.toNat_natCast, hnew]; rfl
    have hv := vD_ok hF (hwd true) (hwi true)
    have hDD : vDD s l d (putL d k a true) = true := by
      unfold vDD; rw [hF.ok, h1, hv.1]; rfl
    obtain ⟨m1, m2⟩ := moves_put hD.1 hD.2.1 hk96 ha32 hp
    refine ⟨by rw [hcW, hp]; rfl, by rw [hcW, hp]; rfl, hwd _, hlen _, hc3, ?_, by unfold cDD; rw [hDD]; rfl, by unfold rMoves; rw [hDD, if_pos rfl, m1], by unfold rMoves; rw [hDD, if_pos rfl, m2]⟩
    unfold rW
    rw [hc3, if_pos rfl, Int.toNat_natCast, Int.toNat_natCast]
    exact hb
end Go.Proofs.YtnakdlfjjeligaaGreat
