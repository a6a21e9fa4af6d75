/-
  Plain functions: the best shift of two tunes, and the loudest step of a tune, with no program in sight.
-/
import Derived.Test.YtmdocjiljjbijaaPureB
namespace Go.Proofs.Ytmdocjiljjbijaa
set_option linter.unusedVariables false
set_option linter.unusedSimpArgs false

/-- One more shift is tried: the number of common notes must be greater than the greatest so far. -/
noncomputable def stepB (a b : List (Int × Int)) (x : Int × Int) (s : Int) : Int × Int := if decide (x.2 < (commonL a b s : Nat)) then (s, (commonL a b s : Nat)) else x
noncomputable def bstL (a b : List (Int × Int)) : Nat → Int × Int
  | 0 => (0, (commonL a b 0 : Nat))
  | k + 1 => stepB a b (stepB a b (bstL a b k) ((k + 1 : Nat) : Int)) (-((k + 1 : Nat) : Int))
noncomputable def bstI (a b : List (Int × Int)) : Nat → Int × Int
  | 0 => (0, -1)
  | k + 1 => bstL a b k
theorem bstI_succ (a b : List (Int × Int)) (k : Nat) : bstI a b (k + 1) = stepB a b (stepB a b (bstI a b k) (k : Int)) (-(k : Int)) := by
  cases k with
  | zero =>
    have h : (-1 : Int) < (commonL a b 0 : Nat) := by omega
    simp [bstI, bstL, stepB, h]
  | succ k => rfl
theorem stepB_bd {a b : List (Int × Int)} {x : Int × Int} {s : Int} {m : Int} (hb : b.length ≤ 120) (h : -m ≤ x.1 ∧ x.1 ≤ m ∧ -1 ≤ x.2 ∧ x.2 ≤ 120) (hs : -m ≤ s ∧ s ≤ m) :
    -m ≤ (stepB a b x s).1 ∧ (stepB a b x s).1 ≤ m ∧ -1 ≤ (stepB a b x s).2 ∧ (stepB a b x s).2 ≤ 120 := by
  have := commonL_le a b s
  unfold stepB
  split
  · refine ⟨hs.1, hs.2, ?_, ?_⟩ <;> simp only [] <;> omega
  · exact h
noncomputable def rBest1 (a b : List (Int × Int)) : Int := if okT a && okT b then (bstL a b 200).1 else 0
noncomputable def rBest2 (a b : List (Int × Int)) : Int := if okT a && okT b then (bstL a b 200).2 else 0

/-- How many notes a step has. -/
def cntA (l : List (Int × Int)) (k : Int) : Nat := l.countP fun p => decide (p.1 = k)
theorem cntA_nil (k : Int) : cntA [] k = 0 := rfl
theorem cntA_snoc (l : List (Int × Int)) (k : Int) (i : Nat) (h : i < l.length) : cntA (l.take (i + 1)) k = cntA (l.take i) k + if l[i].1 = k then 1 else 0 := by
  unfold cntA
  rw [List.take_succ_eq_append_getElem h, List.countP_append, List.countP_singleton]
  simp
theorem cntA_le (l : List (Int × Int)) (k : Int) : cntA l k ≤ l.length := List.countP_le_length
/-- The first of the greatest among the first k + 1. -/
def argF (c : Nat → Nat) : Nat → Nat
  | 0 => 0
  | k + 1 => if c (argF c k) < c (k + 1) then k + 1 else argF c k
theorem argF_le (c : Nat → Nat) : ∀ k, argF c k ≤ k
  | 0 => Nat.le_refl _
  | k + 1 => by unfold argF; split; · exact Nat.le_refl _
                · have := argF_le c k; omega
theorem argF_max (c : Nat → Nat) : ∀ k j, j ≤ k → c j ≤ c (argF c k)
  | 0, j, h => by obtain rfl : j = 0 := by omega
                  exact Nat.le_refl _
  | k + 1, j, h => by
    unfold argF
    by_cases e : j = k + 1
    · subst e; split <;> omega
    · have := argF_max c k j (by omega)
      split <;> omega
theorem argF_first (c : Nat → Nat) : ∀ k j, j < argF c k → c j < c (argF c k)
  | 0, j, h => by simp [argF] at h
  | k + 1, j, h => by
    unfold argF at h ⊢
    split at h
    · rename_i hlt
      rw [if_pos hlt]
      have := argF_max c k j (by omega)
      omega
    · rename_i hlt
      rw [if_neg hlt]
      exact argF_first c k j h
theorem argF_unique {c : Nat → Nat} {k b : Nat} (hb : b ≤ k) (h1 : ∀ j, j ≤ k → c j ≤ c b) (h2 : ∀ j, j < b → c j < c b) : b = argF c k := by
  have a1 := argF_le c k
  rcases Nat.lt_trichotomy b (argF c k) with h | h | h
  · have := argF_first c k b h
    have := h1 (argF c k) a1
    omega
  · exact h
  · have := h2 _ h
    have := argF_max c k b hb
    omega
/-- The step, and how many notes it has. -/
def loud (l : List (Int × Int)) : Nat := argF (fun k => cntA l k) 199
noncomputable def cLo (l : List (Int × Int)) : Int := if okT l then (if 0 < l.length then 0 else 6) else 1
noncomputable def rLo1 (l : List (Int × Int)) : Int := if okT l && decide (0 < l.length) then (loud l : Int) else 0
noncomputable def rLo2 (l : List (Int × Int)) : Int := if okT l && decide (0 < l.length) then (cntA l (loud l) : Int) else 0

/-- What the program holds when it has seen i notes: the loudest step so far, its notes, the notes of the last step. -/
def Lo (l : List (Int × Int)) (i best most many : Nat) : Prop :=
  (i = 0 → best = 0 ∧ most = 0 ∧ many = 0) ∧
  (∀ j (hj : j < l.length), i = j + 1 → many = cntA (l.take i) l[j].1 ∧ (best : Int) ≤ l[j].1) ∧
  best ≤ 199 ∧ most = cntA (l.take i) best ∧ (∀ k : Nat, cntA (l.take i) k ≤ most) ∧ (∀ k : Nat, k < best → cntA (l.take i) k < most) ∧ most ≤ i ∧ many ≤ i
theorem Lo.zero (l : List (Int × Int)) : Lo l 0 0 0 0 := by
  refine ⟨fun _ => ⟨rfl, rfl, rfl⟩, fun j _ h => absurd h (by omega), by omega, by simp [cntA], fun k => by simp [cntA], fun k h => absurd h (by omega), by omega, by omega⟩
theorem okT_at_le {l : List (Int × Int)} (h : okT l = true) {i j : Nat} (hj : j < l.length) (hij : i ≤ j) : (l[i]'(by omega)).1 ≤ l[j].1 := by
  by_cases e : i = j
  · subst e; exact Int.le_refl _
  · have := ltN_iff.1 (okT_lt h hj (show i < j by omega)); omega
theorem cntA_later {l : List (Int × Int)} (h : okT l = true) {i : Nat} (hi : i < l.length) {k : Int} (hk : ∀ j (hj : j < l.length), i = j + 1 → l[j].1 < k) : cntA (l.take i) k = 0 := by
  unfold cntA
  rw [List.countP_eq_zero]
  intro p hp
  obtain ⟨x, hx, rfl⟩ := List.getElem_of_mem hp
  simp only [List.length_take] at hx
  have hx2 : x < l.length := by omega
  rw [List.getElem_take]
  cases i with
  | zero => omega
  | succ i =>
    have h1 := hk i (by omega) rfl
    have h2 := okT_at_le h (show i < l.length by omega) (show x ≤ i by omega)
    simp only [decide_eq_true_eq]
    omega
theorem Lo.step {l : List (Int × Int)} (hok : okT l = true) {i best most many : Nat} (h : Lo l i best most many) (hi : i < l.length) (m' : Nat)
    (hm : m' = (if ∃ j, ∃ hj : j < l.length, i = j + 1 ∧ l[j].1 ≠ l[i].1 then 0 else many) + 1) :
    (most < m' → Lo l (i + 1) l[i].1.toNat m' m') ∧ (¬ most < m' → Lo l (i + 1) best most m') := by
  obtain ⟨h0, h1, hb, h2, h3, h4, h5, h6⟩ := h
  obtain ⟨p1, p2, _, _⟩ := okT_note hok hi
  have hcm : m' = cntA (l.take (i + 1)) l[i].1 := by
    rw [cntA_snoc l _ i hi, if_pos rfl, hm]
    congr 1
    split
    · rename_i hx
      obtain ⟨j, hj, e, hne⟩ := hx
      refine (cntA_later hok hi fun j2 hj2 e2 => ?_).symm
      obtain rfl : j = j2 := by omega
      have := okT_at_le hok hi (show j ≤ i by omega)
      omega
    · rename_i hx
      cases i with
      | zero => rw [(h0 rfl).2.2]; simp [cntA]
      | succ j =>
        have hj : j < l.length := by omega
        have e : l[j].1 = l[j + 1].1 := by
          by_cases e : l[j].1 = l[j + 1].1
          · exact e
          · exact absurd ⟨j, hj, rfl, e⟩ hx
        rw [← e]
        exact (h1 j hj rfl).1
  have hm6 : m' ≤ i + 1 := by rw [hm]; split <;> omega
  have hbl : ((best : Int) ≤ l[i].1) := by
    cases i with
    | zero => rw [(h0 rfl).1]; omega
    | succ j => have a := (h1 j (by omega) rfl).2; have b := okT_at_le hok hi (show j ≤ j + 1 by omega); omega
  have hnat : ((l[i].1.toNat : Nat) : Int) = l[i].1 := by omega
  have hS := fun k : Nat => cntA_snoc l k i hi
  refine ⟨fun hlt => ⟨fun e => absurd e (by omega), fun j hj e => ?_, by omega, by rw [hnat]; exact hcm, fun k => ?_, fun k hk => ?_, by omega, by omega⟩,
    fun hlt => ⟨fun e => absurd e (by omega), fun j hj e => ?_, hb, ?_, fun k => ?_, fun k hk => ?_, by omega, by omega⟩⟩
  · obtain rfl : j = i := by omega
    exact ⟨hcm, by omega⟩
  · rw [hS k]
    split
    · rename_i e; rw [← e, cntA_snoc l _ i hi, if_pos rfl] at *; rw [hcm, e]; exact Nat.le_refl _
    · have := h3 k; omega
  · rw [hS k]
    split
    · omega
    · have := h3 k; omega
  · obtain rfl : j = i := by omega
    exact ⟨hcm, by omega⟩
  · rw [hS best]
    split
    · rename_i e
      rw [e, hS best, if_pos e] at hcm
      omega
    · omega
  · rw [hS k]
    split
    · rename_i e
      rw [e, hS k, if_pos e] at hcm
      omega
    · have := h3 k; omega
  · rw [hS k]
    split
    · omega
    · have := h4 k hk; omega
theorem Lo.done {l : List (Int × Int)} {best most many : Nat} (h : Lo l l.length best most many) : best = loud l ∧ most = cntA l (loud l) := by
  obtain ⟨h0, h1, hb, h2, h3, h4, _⟩ := h
  rw [List.take_length] at h2 h3 h4
  have : best = loud l := argF_unique hb (fun j _ => show cntA l (j : Int) ≤ cntA l (best : Int) by rw [← h2]; exact h3 j) (fun j hj => show cntA l (j : Int) < cntA l (best : Int) by rw [← h2]; exact h4 j hj)
  refine ⟨this, ?_⟩
  rw [← this]; exact h2
theorem Lo.most_le {l : List (Int × Int)} {i best most many : Nat} (h : Lo l i best most many) : best ≤ 199 ∧ most ≤ i ∧ many ≤ i := ⟨h.2.2.1, h.2.2.2.2.2.2.1, h.2.2.2.2.2.2.2⟩

/-- The counts of all steps, over the first i notes. -/
def cntL (l : List (Int × Int)) (i : Nat) : List Int := (List.range 200).map fun k => ((cntA (l.take i) (k : Nat) : Nat) : Int)
theorem cntL_len (l : List (Int × Int)) (i : Nat) : (cntL l i).length = 200 := by simp [cntL]
theorem cntL_get (l : List (Int × Int)) (i : Nat) {k : Nat} (h : k < (cntL l i).length) : (cntL l i)[k] = ((cntA (l.take i) (k : Nat) : Nat) : Int) := by simp [cntL]
theorem cntL_zero (l : List (Int × Int)) : cntL l 0 = List.replicate 200 0 := by
  refine List.ext_getElem (by rw [cntL_len, List.length_replicate]) fun i h1 h2 => ?_
  rw [cntL_get, List.getElem_replicate]; rfl
theorem cntL_step {l : List (Int × Int)} {i a : Nat} (h : i < l.length) (ha : l[i].1 = (a : Int)) (ha2 : a < 200) : (cntL l i).set a (((cntA (l.take i) (a : Nat) : Nat) : Int) + 1) = cntL l (i + 1) := by
  refine List.ext_getElem (by simp [cntL]) fun k h1 h2 => ?_
  rw [List.getElem_set, cntL_get, cntL_get, cntA_snoc l _ i h]
  by_cases e : a = k
  · subst e; rw [if_pos rfl, if_pos ha]; simp
  · rw [if_neg e, if_neg (by omega)]; simp

end Go.Proofs.Ytmdocjiljjbijaa
