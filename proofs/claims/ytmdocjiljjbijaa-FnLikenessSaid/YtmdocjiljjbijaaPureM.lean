/-
  Lists of notes put in order, equal ones being made one. Plain: no program in it.
-/
import Derived.Test.YtmdocjiljjbijaaPure
import Derived.Test.YtmdocjiljjbijaaPureB
namespace Go.Proofs.Ytmdocjiljjbijaa
set_option linter.unusedVariables false
set_option linter.unusedSimpArgs false

/-- A list that rises. -/
def Rise (l : List (Int × Int)) : Prop := l.Pairwise fun a b => ltN a b = true
theorem Rise.nil : Rise [] := List.Pairwise.nil
theorem ltN_asymm {a b : Int × Int} (h : ltN a b = true) (k : ltN b a = true) : False := by
  have := ltN_trans h k; rw [ltN_irrefl] at this; cases this
theorem ltN_total {a b : Int × Int} (h : ltN a b = false) (k : ltN b a = false) : a = b := by
  rw [← Bool.not_eq_true, ltN_iff] at h k
  apply Prod.ext <;> omega
theorem Rise.at {l : List (Int × Int)} (h : Rise l) {i j : Nat} (hj : j < l.length) (hij : i < j) : ltN (l[i]'(by omega)) l[j] = true := List.pairwise_iff_getElem.1 h i j (by omega) hj hij
theorem Rise.unique {a b : List (Int × Int)} (ha : Rise a) (hb : Rise b) (h : ∀ x, x ∈ a ↔ x ∈ b) : a = b := by
  induction a generalizing b with
  | nil =>
    cases b with
    | nil => rfl
    | cons y b => exact absurd ((h y).2 (by simp)) (by simp)
  | cons x a ih =>
    cases b with
    | nil => exact absurd ((h x).1 (by simp)) (by simp)
    | cons y b =>
      unfold Rise at ha hb
      rw [List.pairwise_cons] at ha hb
      have hxy : x = y := by
        have h1 := (h x).1 (by simp)
        have h2 := (h y).2 (by simp)
        rw [List.mem_cons] at h1 h2
        rcases h1 with h1 | h1
        · exact h1
        · rcases h2 with h2 | h2
          · exact h2.symm
          · exact (ltN_asymm (ha.1 y h2) (hb.1 x h1)).elim
      subst hxy
      rw [ih ha.2 hb.2 (fun z => ?_)]
      constructor
      · intro hz
        have h1 := (h z).1 (by simp [hz])
        rw [List.mem_cons] at h1
        rcases h1 with h1 | h1
        · subst h1; have := ha.1 z hz; rw [ltN_irrefl] at this; cases this
        · exact h1
      · intro hz
        have h1 := (h z).2 (by simp [hz])
        rw [List.mem_cons] at h1
        rcases h1 with h1 | h1
        · subst h1; have := hb.1 z hz; rw [ltN_irrefl] at this; cases this
        · exact h1

/-! ### put into its place -/
/-- The first place whose note does not stand before x, from k on. -/
def placeGo (l : List (Int × Int)) (x : Int × Int) : Nat → Nat → Nat
  | k, 0 => k
  | k, n + 1 => if h : k < l.length then (if ltN l[k] x then placeGo l x (k + 1) n else k) else k
def placeU (l : List (Int × Int)) (x : Int × Int) : Nat := placeGo l x 0 l.length
theorem placeGo_spec (l : List (Int × Int)) (x : Int × Int) (n k : Nat) (hk : k + n = l.length) (hb : ∀ j (hj : j < l.length), j < k → ltN l[j] x = true) :
    placeGo l x k n ≤ l.length ∧ (∀ j (hj : j < l.length), j < placeGo l x k n → ltN l[j] x = true) ∧ ∀ (h : placeGo l x k n < l.length), ltN l[placeGo l x k n] x = false := by
  induction n generalizing k with
  | zero => unfold placeGo; exact ⟨by omega, hb, fun h => absurd h (by omega)⟩
  | succ n ih =>
    have hlt : k < l.length := by omega
    have hd : placeGo l x k (n + 1) = if ltN l[k] x then placeGo l x (k + 1) n else k := by rw [placeGo, dif_pos hlt]
    rcases hx : ltN l[k] x with _ | _
    · rw [hx] at hd
      have hd2 : placeGo l x k (n + 1) = k := hd
      simp only [hd2]
      exact ⟨by omega, hb, fun _ => hx⟩
    · rw [hx] at hd
      have hd2 : placeGo l x k (n + 1) = placeGo l x (k + 1) n := hd
      simp only [hd2]
      refine ih (k + 1) (by omega) (fun j hj hjk => ?_)
      by_cases e : j = k
      · subst e; exact hx
      · exact hb j hj (by omega)
theorem placeU_spec (l : List (Int × Int)) (x : Int × Int) : placeU l x ≤ l.length ∧ (∀ j (hj : j < l.length), j < placeU l x → ltN l[j] x = true) ∧ ∀ (h : placeU l x < l.length), ltN l[placeU l x] x = false :=
  placeGo_spec l x l.length 0 (by omega) (fun _ _ h => absurd h (by omega))
/-- The place is where the search stands still. -/
theorem placeU_eq {l : List (Int × Int)} {x : Int × Int} {k : Nat} (hk : k ≤ l.length) (h1 : ∀ j (hj : j < l.length), j < k → ltN l[j] x = true) (h2 : ∀ (h : k < l.length), ltN l[k] x = false) : placeU l x = k := by
  obtain ⟨p1, p2, p3⟩ := placeU_spec l x
  rcases Nat.lt_trichotomy (placeU l x) k with h | h | h
  · have a1 := p3 (by omega)
    rw [h1 _ (by omega) h] at a1
    cases a1
  · exact h
  · have a1 := h2 (by omega)
    rw [p2 _ (by omega) h] at a1
    cases a1
def insU (l : List (Int × Int)) (x : Int × Int) : List (Int × Int) := if l[placeU l x]? = some x then l else l.take (placeU l x) ++ [x] ++ l.drop (placeU l x)
def sortU (l : List (Int × Int)) : List (Int × Int) := l.foldl insU []
theorem sortU_nil : sortU [] = [] := rfl
theorem sortU_snoc (l : List (Int × Int)) (k : Nat) (h : k < l.length) : sortU (l.take (k + 1)) = insU (sortU (l.take k)) l[k] := by
  unfold sortU; rw [List.take_succ_eq_append_getElem h, List.foldl_append]; rfl
theorem insU_mem (l : List (Int × Int)) (x z : Int × Int) : z ∈ insU l x ↔ z = x ∨ z ∈ l := by
  unfold insU
  split
  · rename_i h
    have hx := List.mem_of_getElem? h
    constructor
    · exact Or.inr
    · rintro (rfl | h)
      · exact hx
      · exact h
  · have h1 : z ∈ l ↔ z ∈ l.take (placeU l x) ∨ z ∈ l.drop (placeU l x) := by
      rw [← List.mem_append, List.take_append_drop]
    rw [h1]
    simp only [List.mem_append, List.mem_cons, List.not_mem_nil, or_false]
    constructor
    · rintro ((h | h) | h)
      · exact Or.inr (Or.inl h)
      · exact Or.inl h
      · exact Or.inr (Or.inr h)
    · rintro (h | h | h)
      · exact Or.inl (Or.inr h)
      · exact Or.inl (Or.inl h)
      · exact Or.inr h
theorem insU_rise {l : List (Int × Int)} (hl : Rise l) (x : Int × Int) : Rise (insU l x) := by
  unfold insU
  split
  · exact hl
  · rename_i h
    obtain ⟨p1, p2, p3⟩ := placeU_spec l x
    have hb : ∀ a ∈ l.take (placeU l x), ltN a x = true := by
      intro a ha
      obtain ⟨i, hi, rfl⟩ := List.getElem_of_mem ha
      rw [List.getElem_take]
      exact p2 i (by simp at hi; omega) (by simp at hi; omega)
    have hc : ∀ a ∈ l.drop (placeU l x), ltN x a = true := by
      intro a ha
      obtain ⟨i, hi, rfl⟩ := List.getElem_of_mem ha
      rw [List.getElem_drop]
      rw [List.length_drop] at hi
      have h0 : placeU l x < l.length := by omega
      have hx : ltN x l[placeU l x] = true := by
        cases hq : ltN x l[placeU l x] with
        | true => rfl
        | false =>
          have := ltN_total hq (p3 h0)
          exact absurd (by rw [List.getElem?_eq_getElem h0, ← this]) h
      by_cases e : i = 0
      · subst e; simpa using hx
      · exact ltN_trans hx (hl.at (by omega) (by omega))
    unfold Rise
    rw [List.append_assoc, List.pairwise_append]
    refine ⟨hl.sublist (List.take_sublist _ _), ?_, ?_⟩
    · rw [List.singleton_append, List.pairwise_cons]
      exact ⟨hc, hl.sublist (List.drop_sublist _ _)⟩
    · intro a ha b hb2
      rw [List.singleton_append, List.mem_cons] at hb2
      rcases hb2 with rfl | hb2
      · exact hb a ha
      · exact ltN_trans (hb a ha) (hc b hb2)
theorem foldU (l : List (Int × Int)) (a : List (Int × Int)) (ha : Rise a) : Rise (l.foldl insU a) ∧ ∀ z, z ∈ l.foldl insU a ↔ z ∈ a ∨ z ∈ l := by
  induction l generalizing a with
  | nil => exact ⟨ha, fun z => by simp⟩
  | cons x l ih =>
    obtain ⟨h1, h2⟩ := ih (insU a x) (insU_rise ha x)
    refine ⟨h1, fun z => ?_⟩
    rw [List.foldl_cons, h2, insU_mem, List.mem_cons]
    constructor
    · rintro ((h | h) | h)
      · exact Or.inr (Or.inl h)
      · exact Or.inl h
      · exact Or.inr (Or.inr h)
    · rintro (h | h | h)
      · exact Or.inl (Or.inr h)
      · exact Or.inl (Or.inl h)
      · exact Or.inr h
theorem sortU_rise (l : List (Int × Int)) : Rise (sortU l) := (foldU l [] Rise.nil).1
theorem sortU_mem (l : List (Int × Int)) (z : Int × Int) : z ∈ sortU l ↔ z ∈ l := by rw [show sortU l = l.foldl insU [] from rfl, (foldU l [] Rise.nil).2]; simp
theorem insU_len (l : List (Int × Int)) (x : Int × Int) : (insU l x).length ≤ l.length + 1 := by
  unfold insU; split
  · omega
  · simp only [List.length_append, List.length_take, List.length_drop, List.length_cons, List.length_nil]; omega
theorem foldU_len (l a : List (Int × Int)) : (l.foldl insU a).length ≤ a.length + l.length := by
  induction l generalizing a with
  | nil => simp
  | cons x l ih => rw [List.foldl_cons]; have := ih (insU a x); have := insU_len a x; simp only [List.length_cons]; omega
theorem sortU_len (l : List (Int × Int)) : (sortU l).length ≤ l.length := by have := foldU_len l []; simpa [sortU] using this
theorem sortU_of_rise {l : List (Int × Int)} (h : Rise l) : sortU l = l := (sortU_rise l).unique h (sortU_mem l)

/-! ### neighbours that are equal made one -/
def compN (l : List (Int × Int)) : Nat → List (Int × Int)
  | 0 => []
  | k + 1 => if h : k < l.length then (if 0 < k ∧ l[k - 1]? = some l[k] then compN l k else compN l k ++ [l[k]]) else compN l k
theorem compN_keep {l : List (Int × Int)} {k : Nat} (hk : k < l.length) (h : ¬ (0 < k ∧ l[k - 1]? = some l[k])) : compN l (k + 1) = compN l k ++ [l[k]] := by
  rw [compN, dif_pos hk, if_neg h]
theorem compN_skip {l : List (Int × Int)} {k : Nat} (hk : k < l.length) (h : 0 < k ∧ l[k - 1]? = some l[k]) : compN l (k + 1) = compN l k := by
  rw [compN, dif_pos hk, if_pos h]
theorem compN_len (l : List (Int × Int)) (k : Nat) : (compN l k).length ≤ k := by
  induction k with
  | zero => simp [compN]
  | succ k ih =>
    rw [compN]
    split
    · split
      · omega
      · simp; omega
    · omega
theorem compN_spec {l : List (Int × Int)} (hl : l.Pairwise fun a b => ltN b a = false) (k : Nat) (hk : k ≤ l.length) : Rise (compN l k) ∧ ∀ z, z ∈ compN l k ↔ ∃ i, ∃ h : i < l.length, i < k ∧ z = l[i] := by
  induction k with
  | zero => exact ⟨Rise.nil, fun z => ⟨fun h => (by simp [compN] at h), fun ⟨i, _, h, _⟩ => absurd h (by omega)⟩⟩
  | succ k ih =>
    obtain ⟨h1, h2⟩ := ih (by omega)
    have hlt : k < l.length := by omega
    by_cases he : 0 < k ∧ l[k - 1]? = some l[k]
    · rw [compN_skip hlt he]
      refine ⟨h1, fun z => (h2 z).trans ⟨fun ⟨i, hi, hik, hz⟩ => ⟨i, hi, by omega, hz⟩, fun ⟨i, hi, hik, hz⟩ => ?_⟩⟩
      by_cases e : i = k
      · subst e
        obtain ⟨e1, e2⟩ := he
        rw [List.getElem?_eq_getElem (by omega), Option.some_inj] at e2
        exact ⟨i - 1, by omega, by omega, hz.trans e2.symm⟩
      · exact ⟨i, hi, by omega, hz⟩
    · rw [compN_keep hlt he]
      constructor
      · unfold Rise
        rw [List.pairwise_append]
        refine ⟨h1, List.pairwise_singleton _ _, fun a ha b hb => ?_⟩
        rw [List.mem_singleton] at hb
        subst hb
        obtain ⟨i, hi, hik, rfl⟩ := (h2 a).1 ha
        have hp := List.pairwise_iff_getElem.1 hl
        have hkk : ltN l[k] l[k - 1] = false := hp (k - 1) k (by omega) hlt (by omega)
        have hne : l[k - 1] ≠ l[k] := fun e => he ⟨by omega, by rw [List.getElem?_eq_getElem (by omega), e]⟩
        have h3 : ltN l[k - 1] l[k] = true := by
          cases hq : ltN l[k - 1] l[k] with
          | true => rfl
          | false => exact absurd (ltN_total hq hkk) hne
        by_cases e : i = k - 1
        · subst e; exact h3
        · have h4 := hp i (k - 1) hi (by omega) (by omega)
          cases hq : ltN l[i] l[k - 1] with
          | true => exact ltN_trans hq h3
          | false => rw [ltN_total hq h4]; exact h3
      · intro z
        rw [List.mem_append, h2, List.mem_singleton]
        constructor
        · rintro (⟨i, hi, hik, hz⟩ | hz)
          · exact ⟨i, hi, by omega, hz⟩
          · exact ⟨k, hlt, by omega, hz⟩
        · rintro ⟨i, hi, hik, hz⟩
          by_cases e : i = k
          · subst e; exact Or.inr hz
          · exact Or.inl ⟨i, hi, by omega, hz⟩
/-- The kit's sort, then equal neighbours made one: as put into its place one by one. -/
theorem compN_sorted (l m : List (Int × Int)) (hm : m.Pairwise fun a b => ltN b a = false) (hp : m.Perm l) : compN m m.length = sortU l := by
  obtain ⟨h1, h2⟩ := compN_spec hm m.length (Nat.le_refl _)
  refine h1.unique (sortU_rise l) (fun z => ?_)
  rw [h2, sortU_mem, ← hp.mem_iff]
  constructor
  · rintro ⟨i, hi, _, rfl⟩; exact List.getElem_mem hi
  · intro h; obtain ⟨i, hi, rfl⟩ := List.getElem_of_mem h; exact ⟨i, hi, hi, rfl⟩
def mergeN (l : List (Int × Int)) : List (Int × Int) := l.mergeSort fun x y => !(ltN y x)
theorem mergeN_perm (l : List (Int × Int)) : (mergeN l).Perm l := List.mergeSort_perm _ _
theorem mergeN_sorted (l : List (Int × Int)) : (mergeN l).Pairwise fun a b => ltN b a = false := by
  have := List.pairwise_mergeSort (le := fun x y => !(ltN y x)) (fun a b c hab hbc => by
      simp only [Bool.not_eq_true'] at hab hbc ⊢
      rw [← Bool.not_eq_true, ltN_iff] at *; omega) (fun a b => by
      simp only [Bool.or_eq_true, Bool.not_eq_true']
      rw [← Bool.not_eq_true, ← Bool.not_eq_true, ltN_iff, ltN_iff]; omega) l
  exact this.imp (fun h => by simpa using h)
theorem mergeN_comp (l : List (Int × Int)) : compN (mergeN l) (mergeN l).length = sortU l := compN_sorted l _ (mergeN_sorted l) (mergeN_perm l)

/-! ### tunes rise -/
theorem okT_rise {l : List (Int × Int)} (h : okT l = true) : Rise l := List.pairwise_iff_getElem.2 fun i j hi hj hij => okT_lt h hj hij
theorem okT_of_rise {l : List (Int × Int)} (h : Rise l) (hn : ∀ x ∈ l, okN x = true) (hl : l.length ≤ 120) : okT l = true := by
  rw [okT_iff]
  refine ⟨fun i hi _ => ⟨hn _ (List.getElem_mem hi), fun h0 => h.at hi (by omega)⟩, hl⟩
/-- A list of notes put in order is a tune if it is not too long. -/
theorem okT_sortU {l : List (Int × Int)} (hn : ∀ x ∈ l, okN x = true) : okT (sortU l) = decide ((sortU l).length ≤ 120) := by
  rcases hd : decide ((sortU l).length ≤ 120) with _ | _
  · have := of_decide_eq_false hd
    cases hq : okT (sortU l) with
    | false => rfl
    | true => exact absurd (okT_len hq) this
  · exact okT_of_rise (sortU_rise l) (fun x hx => hn x ((sortU_mem l x).1 hx)) (of_decide_eq_true hd)

end Go.Proofs.Ytmdocjiljjbijaa
