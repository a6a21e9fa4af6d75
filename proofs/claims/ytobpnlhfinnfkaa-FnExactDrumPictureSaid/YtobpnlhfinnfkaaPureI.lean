/-
  The plain side of clashes and free places. No program in it.
-/
import Derived.Test.YtobpnlhfinnfkaaPureF
namespace Go.Proofs.Ytobpnlhfinnfkaa
set_option linter.unusedVariables false
set_option linter.unusedSimpArgs false

/-- The first number from 1 to n - 1 with p, n if there is none. -/
def nxt (p : Nat → Bool) (n : Nat) : Nat := ((List.range n).find? fun k => decide (1 ≤ k) && p k).getD n
theorem nxt_some {p : Nat → Bool} {n k : Nat} (h1 : 1 ≤ k) (hk : k < n) (hp : p k = true) (hb : ∀ j, 1 ≤ j → j < k → p j = false) : nxt p n = k := by
  have h : (List.range n).find? (fun k => decide (1 ≤ k) && p k) = some k := List.find?_range_eq_some.2 ⟨by simp [h1, hp], by simpa using hk, fun j hj => by
    by_cases hj1 : 1 ≤ j
    · simp [hb j hj1 hj]
    · simp [hj1]⟩
  unfold nxt; rw [h]; rfl
theorem nxt_none {p : Nat → Bool} {n : Nat} (hb : ∀ j, 1 ≤ j → j < n → p j = false) : nxt p n = n := by
  have h : (List.range n).find? (fun k => decide (1 ≤ k) && p k) = none := List.find?_range_eq_none.2 fun j hj => by
    by_cases hj1 : 1 ≤ j
    · simp [hb j hj1 hj]
    · simp [hj1]
  unfold nxt; rw [h]; rfl
theorem nxt_spec (p : Nat → Bool) (n : Nat) : (nxt p n = n ∧ ∀ j, 1 ≤ j → j < n → p j = false) ∨ (1 ≤ nxt p n ∧ nxt p n < n ∧ p (nxt p n) = true ∧ ∀ j, 1 ≤ j → j < nxt p n → p j = false) := by
  cases h : (List.range n).find? (fun k => decide (1 ≤ k) && p k) with
  | none =>
    have h2 := List.find?_range_eq_none.1 h
    have hb : ∀ j, 1 ≤ j → j < n → p j = false := fun j hj1 hj => by
      have := h2 j hj
      simpa [hj1] using this
    exact .inl ⟨nxt_none hb, hb⟩
  | some k =>
    obtain ⟨h1, h2, h3⟩ := List.find?_range_eq_some.1 h
    simp only [Bool.and_eq_true, decide_eq_true_eq] at h1
    have e : nxt p n = k := by unfold nxt; rw [h]; rfl
    rw [e]
    refine .inr ⟨h1.1, by simpa using h2, h1.2, fun j hj1 hj => ?_⟩
    have := h3 j hj
    simpa [hj1] using this
theorem nxt_le (p : Nat → Bool) (n : Nat) : nxt p n ≤ n := by
  rcases nxt_spec p n with ⟨h, _⟩ | ⟨_, h, _⟩ <;> omega
theorem nxt_ge {p : Nat → Bool} {n r : Nat} (hr : r ≤ n) : r ≤ nxt p n ↔ ∀ j, 1 ≤ j → j < r → p j = false := by
  rcases nxt_spec p n with ⟨h, hb⟩ | ⟨h1, h2, h3, hb⟩
  · rw [h]; exact ⟨fun _ j h1 h2 => hb j h1 (by omega), fun _ => hr⟩
  · constructor
    · intro h j hj1 hj; exact hb j hj1 (by omega)
    · intro h
      by_cases hlt : nxt p n < r
      · have := h _ h1 hlt; rw [h3] at this; cases this
      · omega

/-- The pins ahead, and behind, on a track. -/
def fwP (d : List Int) (n k t j : Nat) : Bool := pinB d ((k + j) % n) t
def bwP (d : List Int) (n k t j : Nat) : Bool := pinB d ((k + n - j) % n) t
/-- How many steps ahead, or behind, the next pin is. -/
def fwN (d : List Int) (n k t : Nat) : Nat := nxt (fwP d n k t) n
def bwN (d : List Int) (n k t : Nat) : Nat := nxt (bwP d n k t) n
theorem fwN_le (d : List Int) (n k t : Nat) : fwN d n k t ≤ n := nxt_le _ _
theorem bwN_le (d : List Int) (n k t : Nat) : bwN d n k t ≤ n := nxt_le _ _
/-- The least Ready of a track. -/
def rdy (l : List (Int × Int)) (t : Nat) : Int := (l.getD t (0, 0)).2
theorem rdy_at {l : List (Int × Int)} {t : Nat} (h : t < l.length) : rdy l t = l[t].2 := by
  unfold rdy; rw [List.getD_eq_getElem?_getD, List.getElem?_eq_getElem h]; rfl
/-- Does the pin at k, t clash with the next one? -/
def clB (d : List Int) (n : Nat) (l : List (Int × Int)) (k t : Nat) : Bool := decide ((fwN d n k t : Int) < rdy l t)
/-- Is the place free? -/
def frB (d : List Int) (n : Nat) (l : List (Int × Int)) (k t : Nat) : Bool := !pinB d k t && (decide (rdy l t ≤ (fwN d n k t : Int)) && decide (rdy l t ≤ (bwN d n k t : Int)))
theorem frB_iff {d : List Int} {n : Nat} {l : List (Int × Int)} {k t : Nat} (hp : pinB d k t = false) {r : Nat} (hr : rdy l t = (r : Int)) (hrn : r ≤ n) :
    frB d n l k t = true ↔ ∀ j, 1 ≤ j → j < r → fwP d n k t j = false ∧ bwP d n k t j = false := by
  unfold frB fwN bwN
  rw [hp, hr]
  simp only [Bool.not_false, Bool.true_and, Bool.and_eq_true, decide_eq_true_eq, Int.ofNat_le, nxt_ge hrn]
  exact ⟨fun h j h1 h2 => ⟨h.1 j h1 h2, h.2 j h1 h2⟩, fun h => ⟨fun j h1 h2 => (h j h1 h2).1, fun j h1 h2 => (h j h1 h2).2⟩⟩

/-- The pins of a step on the first t tracks; the pins of the first k steps. -/
def rowP (d : List Int) (k t : Nat) : List (Int × Int) := ((List.range t).filter fun i => pinB d k i).map fun (i : Nat) => ((k : Int), (i : Int))
def pinsL (d : List Int) (m k : Nat) : List (Int × Int) := (List.range k).flatMap fun i => rowP d i m
theorem rowP_succ (d : List Int) (k t : Nat) : rowP d k (t + 1) = rowP d k t ++ if pinB d k t then [((k : Int), (t : Int))] else [] := by
  unfold rowP
  rw [List.range_succ, List.filter_append, List.map_append]
  congr 1
  cases h : pinB d k t <;> simp [h]
theorem pinsL_succ (d : List Int) (m k : Nat) : pinsL d m (k + 1) = pinsL d m k ++ rowP d k m := by
  unfold pinsL; rw [List.range_succ, List.flatMap_append, List.flatMap_singleton]
theorem rowP_len (d : List Int) (k t : Nat) : (rowP d k t).length ≤ t := by
  unfold rowP; rw [List.length_map]; exact Nat.le_trans (List.length_filter_le _ _) (by simp)
theorem pinsL_len (d : List Int) (m : Nat) : ∀ k, (pinsL d m k).length ≤ k * m
  | 0 => by simp [pinsL]
  | k + 1 => by rw [pinsL_succ, List.length_append]; have := pinsL_len d m k; have := rowP_len d k m; rw [Nat.succ_mul]; omega
/-- The clashes among pins. -/
def clF (d : List Int) (n : Nat) (l : List (Int × Int)) (L : List (Int × Int)) : List (Int × Int) := L.filter fun p => clB d n l p.1.toNat p.2.toNat
theorem clF_snoc (d : List Int) (n : Nat) (l L : List (Int × Int)) (k t : Nat) : clF d n l (L ++ [((k : Int), (t : Int))]) = clF d n l L ++ if clB d n l k t then [((k : Int), (t : Int))] else [] := by
  unfold clF
  rw [List.filter_append]
  congr 1
  cases h : clB d n l k t <;> simp [h]
theorem clF_append (d : List Int) (n : Nat) (l L M : List (Int × Int)) : clF d n l (L ++ M) = clF d n l L ++ clF d n l M := by unfold clF; rw [List.filter_append]
theorem clF_len (d : List Int) (n : Nat) (l L : List (Int × Int)) : (clF d n l L).length ≤ L.length := List.length_filter_le _ _

/-- The clashes that are known when the steps before k and the tracks before t of step k have been looked at. -/
def clU (d : List Int) (n : Nat) (l : List (Int × Int)) (k t : Nat) : List (Int × Int) := clF d n l (pinsL d l.length k ++ rowP d k t)
def clL (d : List Int) (n : Nat) (l : List (Int × Int)) (k : Nat) : List (Int × Int) := clF d n l (pinsL d l.length k)
theorem clU_zero (d : List Int) (n : Nat) (l : List (Int × Int)) (k : Nat) : clU d n l k 0 = clL d n l k := by simp [clU, clL, rowP]
theorem clU_end (d : List Int) (n : Nat) (l : List (Int × Int)) (k : Nat) : clU d n l k l.length = clL d n l (k + 1) := by unfold clU clL; rw [pinsL_succ]
theorem clL_zero (d : List Int) (n : Nat) (l : List (Int × Int)) : clL d n l 0 = [] := by simp [clL, pinsL, clF]
theorem clU_succ (d : List Int) (n : Nat) (l : List (Int × Int)) (k t : Nat) : clU d n l k (t + 1) = clU d n l k t ++ if pinB d k t && clB d n l k t then [((k : Int), (t : Int))] else [] := by
  unfold clU
  rw [rowP_succ, ← List.append_assoc]
  cases hp : pinB d k t
  · simp
  · simp only [if_true, Bool.true_and]; rw [clF_snoc]
theorem clU_len (d : List Int) (n : Nat) (l : List (Int × Int)) {k t : Nat} (hk : k < 96) (ht : t ≤ 32) (hl : l.length ≤ 32) : (clU d n l k t).length ≤ 1073741824 := by
  unfold clU
  refine Nat.le_trans (clF_len _ _ _ _) ?_
  rw [List.length_append]
  have h1 := pinsL_len d l.length k
  have h2 := rowP_len d k t
  have h3 : k * l.length ≤ 96 * 32 := Nat.mul_le_mul (by omega) hl
  omega
theorem clL_len (d : List Int) (n : Nat) (l : List (Int × Int)) {k : Nat} (hk : k ≤ 96) (hl : l.length ≤ 32) : (clL d n l k).length ≤ 3072 := by
  unfold clL
  refine Nat.le_trans (clF_len _ _ _ _) ?_
  have h1 := pinsL_len d l.length k
  have h3 : k * l.length ≤ 96 * 32 := Nat.mul_le_mul hk hl
  omega

/-- The free steps of a track among the first k; the free tracks with a pitch, for a step, among the first m. -/
def frL (d : List Int) (n : Nat) (l : List (Int × Int)) (t k : Nat) : List Int := ((List.range k).filter fun j => frB d n l j t).map fun (j : Nat) => (j : Int)
theorem frL_zero (d : List Int) (n : Nat) (l : List (Int × Int)) (t : Nat) : frL d n l t 0 = [] := rfl
theorem frL_succ (d : List Int) (n : Nat) (l : List (Int × Int)) (t k : Nat) : frL d n l t (k + 1) = frL d n l t k ++ if frB d n l k t then [(k : Int)] else [] := by
  unfold frL
  rw [List.range_succ, List.filter_append, List.map_append]
  congr 1
  cases h : frB d n l k t <;> simp [h]
theorem frL_len (d : List Int) (n : Nat) (l : List (Int × Int)) (t k : Nat) : (frL d n l t k).length ≤ k := by
  unfold frL; rw [List.length_map]; exact Nat.le_trans (List.length_filter_le _ _) (by simp)
def ftB (d : List Int) (n : Nat) (l : List (Int × Int)) (k : Nat) (p : Int) (i : Nat) : Bool := decide ((l.getD i (0, 0)).1 = p) && frB d n l k i
def ftL (d : List Int) (n : Nat) (l : List (Int × Int)) (k : Nat) (p : Int) (m : Nat) : List Int := ((List.range m).filter fun i => ftB d n l k p i).map fun (j : Nat) => (j : Int)
theorem ftL_zero (d : List Int) (n : Nat) (l : List (Int × Int)) (k : Nat) (p : Int) : ftL d n l k p 0 = [] := rfl
theorem ftL_succ (d : List Int) (n : Nat) (l : List (Int × Int)) (k : Nat) (p : Int) (i : Nat) : ftL d n l k p (i + 1) = ftL d n l k p i ++ if ftB d n l k p i then [(i : Int)] else [] := by
  unfold ftL
  rw [List.range_succ, List.filter_append, List.map_append]
  congr 1
  cases h : ftB d n l k p i <;> simp [h]
theorem ftL_len (d : List Int) (n : Nat) (l : List (Int × Int)) (k : Nat) (p : Int) (m : Nat) : (ftL d n l k p m).length ≤ m := by
  unfold ftL; rw [List.length_map]; exact Nat.le_trans (List.length_filter_le _ _) (by simp)
theorem ftB_at {d : List Int} {n : Nat} {l : List (Int × Int)} {k i : Nat} {p : Int} (h : i < l.length) : ftB d n l k p i = (decide (l[i].1 = p) && frB d n l k i) := by
  unfold ftB; rw [List.getD_eq_getElem?_getD, List.getElem?_eq_getElem h]; rfl

end Go.Proofs.Ytobpnlhfinnfkaa
