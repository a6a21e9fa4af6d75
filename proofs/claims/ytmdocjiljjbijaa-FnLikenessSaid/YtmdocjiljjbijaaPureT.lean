/-
  What is said of likeness: shifts, gaps, canons, joined tunes. Plain: no program in it.
-/
import Derived.Test.YtmdocjiljjbijaaPureC
import Derived.Test.YtmdocjiljjbijaaPureP
import Derived.Test.YtmdocjiljjbijaaPureQ
namespace Go.Proofs.Ytmdocjiljjbijaa
set_option linter.unusedVariables false
set_option linter.unusedSimpArgs false

/-- A tune as it is drawn. -/
def Drawn (l : List (Int × Int)) : Prop := okT l = true ∧ l.length ≤ 9 ∧ ∀ x ∈ l, x.1 ≤ 27 ∧ 20 ≤ x.2 ∧ x.2 ≤ 27
theorem addG_zero (x : Int × Int) : addG 0 0 x = x := by unfold addG; simp
theorem map_addG_zero (l : List (Int × Int)) : l.map (addG 0 0) = l := by
  have : addG 0 0 = id := funext addG_zero
  rw [this, List.map_id]
theorem movB_zero {l : List (Int × Int)} (h : okT l = true) : movB (addG 0 0) l = true := movB_all fun i hi => by rw [addG_zero]; exact okN_of_okT h (List.getElem_mem hi)
theorem movR_zero {l : List (Int × Int)} (h : okT l = true) : movR (addG 0 0) l = l := by unfold movR; rw [movB_zero h]; exact map_addG_zero l

/-! ### the best shift -/
theorem stepB_spec (a b : List (Int × Int)) {x : Int × Int} {s : Int} (h : x.2 = (commonL a b x.1 : Nat)) : (stepB a b x s).2 = (commonL a b (stepB a b x s).1 : Nat) ∧ x.2 ≤ (stepB a b x s).2 ∧ ((commonL a b s : Nat) : Int) ≤ (stepB a b x s).2 ∧ ((stepB a b x s).1 = s ∨ (stepB a b x s).1 = x.1) := by
  unfold stepB
  by_cases hd : x.2 < (commonL a b s : Nat)
  · rw [if_pos (decide_eq_true hd)]
    exact ⟨rfl, by simp only []; omega, Int.le_refl _, .inl rfl⟩
  · rw [if_neg (by simpa using hd)]
    exact ⟨h, Int.le_refl _, by omega, .inr rfl⟩
theorem bstL_spec (a b : List (Int × Int)) (k : Nat) : (bstL a b k).2 = (commonL a b (bstL a b k).1 : Nat) ∧ (-(k : Int) ≤ (bstL a b k).1 ∧ (bstL a b k).1 ≤ k) ∧ ∀ s : Int, -(k : Int) ≤ s → s ≤ k → ((commonL a b s : Nat) : Int) ≤ (bstL a b k).2 := by
  induction k with
  | zero => exact ⟨rfl, by simp [bstL], fun s h1 h2 => by
      obtain rfl : s = 0 := by omega
      exact Int.le_refl _⟩
  | succ k ih =>
    obtain ⟨i1, i2, i3⟩ := ih
    obtain ⟨a1, a2, a3, a4⟩ := stepB_spec a b (s := ((k + 1 : Nat) : Int)) i1
    obtain ⟨b1, b2, b3, b4⟩ := stepB_spec a b (s := -((k + 1 : Nat) : Int)) a1
    refine ⟨b1, ?_, fun s h1 h2 => ?_⟩
    · show -((k + 1 : Nat) : Int) ≤ (stepB a b (stepB a b (bstL a b k) ((k + 1 : Nat) : Int)) (-((k + 1 : Nat) : Int))).1 ∧ (stepB a b (stepB a b (bstL a b k) ((k + 1 : Nat) : Int)) (-((k + 1 : Nat) : Int))).1 ≤ ((k + 1 : Nat) : Int)
      omega
    · show ((commonL a b s : Nat) : Int) ≤ (stepB a b (stepB a b (bstL a b k) ((k + 1 : Nat) : Int)) (-((k + 1 : Nat) : Int))).2
      by_cases e1 : s = ((k + 1 : Nat) : Int)
      · subst e1; exact Int.le_trans a3 b2
      · by_cases e2 : s = -((k + 1 : Nat) : Int)
        · subst e2; exact b3
        · have := i3 s (by omega) (by omega)
          omega
theorem commonL_moved (a b : List (Int × Int)) (s : Int) : commonL a (b.map (addG s 0)) 0 = commonL a b s := by
  unfold commonL
  rw [List.countP_map]
  congr 1
  funext q
  simp [addG]

/-! ### the least gap -/
theorem gap_le {l : List (Int × Int)} {st : Int × Int} (h : MinOf st (GapS l l.length 0)) {i k : Nat} (hi : i < l.length) (hk : k < i) (hp : (l[k]'(by omega)).2 = l[i].2) : 0 < st.1 ∧ st.1 ≤ l[i].1 - (l[k]'(by omega)).1 := by
  have hS : GapS l l.length 0 (l[i].1 - (l[k]'(by omega)).1, l[i].2) := ⟨k, i, by omega, hi, hk, by omega, hp, rfl⟩
  rcases h with ⟨_, h⟩ | ⟨_, h0, h⟩
  · exact absurd hS (h _)
  · have := h _ hS
    unfold leP at this
    simp only [] at this
    omega
/-- What is known when pairs have been looked at up to i, k. -/
def SomeG (l : List (Int × Int)) (g p : Int) (i k : Nat) : Prop := ∃ a b, ∃ (ha : a < l.length) (hb : b < l.length), a < b ∧ (b < i ∨ (b = i ∧ a < k)) ∧ l[a].2 = l[b].2 ∧ l[b].1 - l[a].1 = g ∧ l[b].2 = p
open Classical in
noncomputable def someG (l : List (Int × Int)) (g p : Int) (i k : Nat) : Bool := decide (SomeG l g p i k)
theorem someG_zero (l : List (Int × Int)) (g p : Int) : someG l g p 0 0 = false := by unfold someG; rw [decide_eq_false_iff_not]; rintro ⟨a, b, _, _, _, h, _⟩; omega
theorem someG_next (l : List (Int × Int)) (g p : Int) (i : Nat) : someG l g p i i = someG l g p (i + 1) 0 := by
  unfold someG
  rw [decide_eq_decide]
  constructor
  · rintro ⟨a, b, ha, hb, hab, hc, r⟩; exact ⟨a, b, ha, hb, hab, by omega, r⟩
  · rintro ⟨a, b, ha, hb, hab, hc, r⟩; exact ⟨a, b, ha, hb, hab, by omega, r⟩
theorem someG_skip {l : List (Int × Int)} {g p : Int} {i k : Nat} (hi : i < l.length) (hk : k < i) (hp : ¬ (l[k]'(by omega)).2 = l[i].2) : someG l g p i (k + 1) = someG l g p i k := by
  unfold someG
  rw [decide_eq_decide]
  constructor
  · rintro ⟨a, b, ha, hb, hab, hc, hq, r⟩
    by_cases e : b = i ∧ a = k
    · obtain ⟨rfl, rfl⟩ := e; exact absurd hq hp
    · exact ⟨a, b, ha, hb, hab, by omega, hq, r⟩
  · rintro ⟨a, b, ha, hb, hab, hc, r⟩; exact ⟨a, b, ha, hb, hab, by omega, r⟩
theorem someG_step {l : List (Int × Int)} {g p : Int} {i k : Nat} (hi : i < l.length) (hk : k < i) (hp : (l[k]'(by omega)).2 = l[i].2) : someG l g p i (k + 1) = (someG l g p i k || (decide (l[i].1 - (l[k]'(by omega)).1 = g) && decide (l[i].2 = p))) := by
  have e1 : ∀ i k, someG l g p i k = true ↔ SomeG l g p i k := fun i k => by unfold someG; simp
  rw [Bool.eq_iff_iff, Bool.or_eq_true, Bool.and_eq_true, decide_eq_true_eq, decide_eq_true_eq, e1, e1]
  constructor
  · rintro ⟨a, b, ha, hb, hab, hc, hq, h1, h2⟩
    by_cases e : b = i ∧ a = k
    · obtain ⟨rfl, rfl⟩ := e; exact .inr ⟨h1, h2⟩
    · exact .inl ⟨a, b, ha, hb, hab, by omega, hq, h1, h2⟩
  · rintro (⟨a, b, ha, hb, hab, hc, r⟩ | ⟨h1, h2⟩)
    · exact ⟨a, b, ha, hb, hab, by omega, r⟩
    · exact ⟨k, i, by omega, hi, hk, by omega, hp, h1, h2⟩
/-- Some pair has the least gap just if there is a least gap. -/
theorem someG_end {l : List (Int × Int)} {st : Int × Int} (h : MinOf st (GapS l l.length 0)) : someG l (if st.1 < 0 then 0 else st.1) (if st.1 < 0 then 0 else st.2) l.length 0 = decide (¬ st.1 < 0) := by
  unfold someG
  rw [decide_eq_decide]
  rcases h with ⟨rfl, h⟩ | ⟨⟨a, b, ha, hb, hab, hc, hq, he⟩, h0, h⟩
  · constructor
    · rintro ⟨a, b, ha, hb, hab, hc, hq, _, _⟩
      exact absurd ⟨a, b, ha, hb, hab, by omega, hq, rfl⟩ (h (l[b].1 - l[a].1, l[b].2))
    · intro h; exact absurd (by decide) h
  · constructor
    · intro _; omega
    · intro _
      rw [if_neg (by omega), if_neg (by omega)]
      refine ⟨a, b, ha, hb, hab, by omega, hq, ?_, ?_⟩
      · rw [he]
      · rw [he]

/-! ### canon, joined -/
theorem voices2_ok {t : List (Int × Int)} {s : Int} (h : Drawn t) (hs : 0 ≤ s ∧ s ≤ 9) : voicesOk t s 3 2 := fun v hv => by
  obtain ⟨hok, hl, hd⟩ := h
  refine movB_all fun i hi => ?_
  have h1 := okT_note hok hi
  have h2 := hd _ (List.getElem_mem hi)
  rw [okN_iff]
  unfold voiceG addG
  rcases (show v = 0 ∨ v = 1 by omega) with rfl | rfl <;> (simp only []; omega)
theorem can2 {t : List (Int × Int)} {s : Int} (h : Drawn t) (hs : 0 ≤ s ∧ s ≤ 9) : cCan t 2 s 3 = cLim (voicesL t s 3 2) ∧ rCan t 2 s 3 = rLim (voicesL t s 3 2) := by
  have hin : inCan 2 s 3 = true := by unfold inCan; simp [inB_iff]; omega
  have hv := voices2_ok h hs
  unfold cCan rCan
  rw [h.1, hin]
  simp only [if_true]
  rw [show (2 : Int).toNat = 2 from rfl, if_pos hv, if_pos hv]
  exact ⟨rfl, rfl⟩
theorem can2_code {t : List (Int × Int)} {s : Int} (h : Drawn t) (hs : 0 ≤ s ∧ s ≤ 9) (h0 : ¬ cCan t 2 s 3 = 0) : cCan t 2 s 3 = 3 := by
  rw [(can2 h hs).1] at h0 ⊢
  unfold cLim at h0 ⊢
  split
  · rename_i hx; rw [if_pos hx] at h0; exact absurd rfl h0
  · rfl
theorem can2_tune {t : List (Int × Int)} {s : Int} (h : Drawn t) (hs : 0 ≤ s ∧ s ≤ 9) (h0 : cCan t 2 s 3 = 0) : okT (rCan t 2 s 3) = true ∧ commonL (rCan t 2 s 3) t 0 = t.length := by
  obtain ⟨h1, h2⟩ := can2 h hs
  have hl : (sortU (voicesL t s 3 2)).length ≤ 120 := by
    rw [h1] at h0
    unfold cLim at h0
    split at h0
    · rename_i hx; exact hx
    · cases h0
  have hr : rCan t 2 s 3 = sortU (voicesL t s 3 2) := by rw [h2]; unfold rLim; rw [if_pos hl]
  rw [hr]
  constructor
  · rw [okT_sortU (voicesL_okN (voices2_ok h hs))]; exact decide_eq_true hl
  · unfold commonL
    rw [List.countP_eq_length]
    intro q hq
    rw [decide_eq_true_eq, sortU_mem]
    have h0 : voicesL t s 3 2 = ([] ++ t.map (voiceG s 3 0)) ++ t.map (voiceG s 3 1) := rfl
    rw [h0, List.mem_append, List.nil_append]
    left
    rw [List.mem_map]
    exact ⟨q, hq, by unfold voiceG addG; simp⟩
theorem join_drawn {t u : List (Int × Int)} (ht : Drawn t) (hu : Drawn u) : joinB t u = true := by
  have hL : lengthL t ≤ 28 := by
    by_cases h0 : 0 < t.length
    · rw [lengthL_last h0]
      have := ht.2.2 _ (List.getElem_mem (show t.length - 1 < t.length by omega))
      omega
    · rw [lengthL_nil h0]; omega
  have hb := lengthL_bd ht.1
  unfold joinB
  rw [Bool.and_eq_true]
  refine ⟨movB_all fun i hi => ?_, decide_eq_true (by have := ht.2.1; have := hu.2.1; omega)⟩
  have h1 := okT_note hu.1 hi
  have h2 := hu.2.2 _ (List.getElem_mem hi)
  rw [okN_iff]
  unfold addG
  simp only []
  omega

end Go.Proofs.Ytmdocjiljjbijaa
