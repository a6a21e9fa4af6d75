/-
  The plain side of the notes that two tunes have in common. No program and no memory in it.
-/
import Derived.Test.YtmdocjiljjbijaaPure
namespace Go.Proofs.Ytmdocjiljjbijaa
set_option linter.unusedVariables false
set_option linter.unusedSimpArgs false

theorem ltN_trans {a b c : Int × Int} (h : ltN a b = true) (k : ltN b c = true) : ltN a c = true := by
  rw [ltN_iff] at *; omega
theorem ltN_irrefl (a : Int × Int) : ltN a a = false := by
  cases h : ltN a a with
  | false => rfl
  | true => rw [ltN_iff] at h; omega
/-- A valid tune rises. -/
theorem okT_lt {l : List (Int × Int)} (h : okT l = true) : ∀ {i j : Nat} (hj : j < l.length) (hij : i < j), ltN (l[i]'(by omega)) l[j] = true := by
  intro i j
  induction j with
  | zero => intro _ h; omega
  | succ j ih =>
    intro hj hij
    have h1 := ((okT_iff.1 h).1 (j + 1) hj hj).2 (by omega)
    simp only [Nat.add_sub_cancel] at h1
    by_cases e : i = j
    · subst e; exact h1
    · exact ltN_trans (ih (by omega) (by omega)) h1
theorem okT_nodup {l : List (Int × Int)} (h : okT l = true) : l.Nodup := by
  refine List.pairwise_iff_getElem.2 fun i j hi hj hij e => ?_
  have := okT_lt h hj hij
  rw [e, ltN_irrefl] at this
  cases this

theorem cmpN_lt (a b : Int × Int) : decide (cmpN a b < 0) = ltN a b := by
  have := @cmpN_neg a b
  cases h : ltN a b <;> rw [h] at this <;> simp at this <;> simp <;> omega
theorem cmpN_eq (a b : Int × Int) : (cmpN a b == 0) = decide (a = b) := by
  have := @cmpN_zero a b
  by_cases h : a = b
  · rw [this.2 h]; simp [h]
  · have h2 : ¬ cmpN a b = 0 := fun e => h (this.1 e)
    simp [h, h2]

/-- How many notes of l stand before t. -/
def lbound (l : List (Int × Int)) (t : Int × Int) : Nat := l.countP fun p => ltN p t
theorem lbound_eq {l : List (Int × Int)} {t : Int × Int} {i : Nat} (hi : i ≤ l.length) (h1 : ∀ x (hx : x < l.length), x < i → ltN l[x] t = true) (h2 : ∀ x (hx : x < l.length), i ≤ x → ltN l[x] t = false) : lbound l t = i := by
  unfold lbound
  rw [← List.take_append_drop i l, List.countP_append]
  have e1 : (l.take i).countP (fun p => ltN p t) = i := by
    have : (l.take i).length = i := by simp; omega
    conv => rhs; rw [← this]
    rw [List.countP_eq_length]
    intro p hp
    obtain ⟨x, hx, rfl⟩ := List.getElem_of_mem hp
    rw [List.getElem_take]
    simp at hx
    exact h1 x (by omega) (by omega)
  have e2 : (l.drop i).countP (fun p => ltN p t) = 0 := by
    rw [List.countP_eq_zero]
    intro p hp
    obtain ⟨x, hx, rfl⟩ := List.getElem_of_mem hp
    rw [List.getElem_drop]
    simp at hx
    simp [h2 (i + x) (by omega) (by omega)]
  rw [e1, e2, Nat.add_zero]
/-- A note is in a valid tune just where the search says. -/
theorem mem_search {l : List (Int × Int)} {t : Int × Int} (hok : okT l = true) {i : Nat} (hi : i ≤ l.length) (h1 : ∀ x (hx : x < l.length), x < i → ltN l[x] t = true) (h2 : ∀ x (hx : x < l.length), i ≤ x → ltN l[x] t = false) :
    t ∈ l ↔ ∃ h : i < l.length, l[i] = t := by
  constructor
  · intro hm
    obtain ⟨x, hx, rfl⟩ := List.getElem_of_mem hm
    have hxi : ¬ x < i := fun h => by have := h1 x hx h; rw [ltN_irrefl] at this; cases this
    by_cases e : x = i
    · subst e; exact ⟨hx, rfl⟩
    · have := h2 i (by omega) (Nat.le_refl _)
      rw [okT_lt hok hx (by omega)] at this
      cases this
  · rintro ⟨h, rfl⟩
    exact List.getElem_mem h

/-- How many notes of b, moved by s steps, are notes of a. -/
noncomputable def commonL (a b : List (Int × Int)) (s : Int) : Nat := b.countP fun q => decide ((q.1 + s, q.2) ∈ a)
theorem commonL_le (a b : List (Int × Int)) (s : Int) : commonL a b s ≤ b.length := List.countP_le_length
/-- One note of a, met in b. -/
def metL (p : Int × Int) (b : List (Int × Int)) (s : Int) : Nat := b.countP fun q => decide (p.2 = q.2) && decide (p.1 = q.1 + s)
theorem metL_le (p : Int × Int) (b : List (Int × Int)) (s : Int) : metL p b s ≤ b.length := List.countP_le_length
theorem metL_snoc (p : Int × Int) (b : List (Int × Int)) (s : Int) (k : Nat) (h : k < b.length) : metL p (b.take (k + 1)) s = metL p (b.take k) s + if decide (p.2 = b[k].2) && decide (p.1 = b[k].1 + s) then 1 else 0 := by
  unfold metL
  rw [List.take_succ_eq_append_getElem h, List.countP_append, List.countP_singleton]
def sumL (a b : List (Int × Int)) (s : Int) : Nat := (a.map fun p => metL p b s).sum
theorem sumL_snoc (a b : List (Int × Int)) (s : Int) (k : Nat) (h : k < a.length) : sumL (a.take (k + 1)) b s = sumL (a.take k) b s + metL a[k] b s := by
  unfold sumL
  rw [List.take_succ_eq_append_getElem h, List.map_append, List.sum_append]
  simp
theorem sumL_le (a b : List (Int × Int)) (s : Int) : sumL a b s ≤ a.length * b.length := by
  unfold sumL
  induction a with
  | nil => simp
  | cons p a ih => simp only [List.map_cons, List.sum_cons, List.length_cons]; have := metL_le p b s; rw [Nat.add_mul]; omega
theorem sumL_take_le (a b : List (Int × Int)) (s : Int) (k : Nat) : sumL (a.take k) b s ≤ a.length * b.length :=
  Nat.le_trans (sumL_le _ _ _) (Nat.mul_le_mul_right _ (by simp; omega))
theorem sumL_eq {a : List (Int × Int)} (b : List (Int × Int)) (s : Int) (h : a.Nodup) : sumL a b s = commonL a b s := by
  unfold sumL commonL
  induction a with
  | nil => simp
  | cons p a ih =>
    have hp := List.nodup_cons.1 h
    simp only [List.map_cons, List.sum_cons]
    rw [ih hp.2]
    unfold metL
    clear ih
    induction b with
    | nil => rfl
    | cons q b ihb =>
      simp only [List.countP_cons]
      have key : (if (decide (p.2 = q.2) && decide (p.1 = q.1 + s)) = true then 1 else 0) + (if decide ((q.1 + s, q.2) ∈ a) = true then 1 else 0) = (if decide ((q.1 + s, q.2) ∈ p :: a) = true then (1 : Nat) else 0) := by
        by_cases h1 : p = (q.1 + s, q.2)
        · have h2 : ¬ (q.1 + s, q.2) ∈ a := h1 ▸ hp.1
          have h3 : p.1 = q.1 + s ∧ p.2 = q.2 := by rw [h1]; exact ⟨rfl, rfl⟩
          simp [h2, h3.1, h3.2, h1]
        · have h3 : ¬ (p.2 = q.2 ∧ p.1 = q.1 + s) := fun h => h1 (Prod.ext h.2 h.1)
          have h4 : ¬ (q.1 + s, q.2) = p := fun h => h1 h.symm
          by_cases h2 : (q.1 + s, q.2) ∈ a
          · simp [h2, h4]; intro e1 e2; exact absurd ⟨e1, e2⟩ h3
          · simp [h2, h4]; intro e1 e2; exact absurd ⟨e1, e2⟩ h3
      omega
noncomputable def cTT (a b : List (Int × Int)) : Int := if okT a && okT b then 0 else 1
noncomputable def rCommonNotes (a b : List (Int × Int)) : Int := if okT a && okT b then (commonL a b 0 : Int) else 0
theorem commonL_snoc (a b : List (Int × Int)) (s : Int) (k : Nat) (h : k < b.length) : commonL a (b.take (k + 1)) s = commonL a (b.take k) s + if decide ((b[k].1 + s, b[k].2) ∈ a) then 1 else 0 := by
  unfold commonL
  rw [List.take_succ_eq_append_getElem h, List.countP_append, List.countP_singleton]

end Go.Proofs.Ytmdocjiljjbijaa
