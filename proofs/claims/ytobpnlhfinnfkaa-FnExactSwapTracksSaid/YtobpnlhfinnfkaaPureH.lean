/-
  The plain side of the laws that give a drum back: mirrored, turned, with a pin and without. No program in it.
-/
import Derived.Test.YtobpnlhfinnfkaaPureF
import Derived.Test.YtobpnlhfinnfkaaDataE
namespace Go.Proofs.Ytobpnlhfinnfkaa
set_option linter.unusedVariables false
set_option linter.unusedSimpArgs false

theorem zD_getElem? (i : Nat) : zD[i]? = if i < 96 then some 0 else none := by rw [zD_eq, List.getElem?_replicate]

/-- The reference's mirror: the first k steps are laid from behind. -/
def mirS (n : Nat) (d : List Int) : Nat → List Int
  | 0 => zD
  | k + 1 => (mirS n d k).set (n - 1 - k) (d.getD k 0)
theorem mirS_len (n : Nat) (d : List Int) : ∀ k, (mirS n d k).length = 96
  | 0 => zD_len
  | k + 1 => by simp [mirS, mirS_len n d k]
theorem mirS_get {n : Nat} {d : List Int} (hn : n ≤ 96) : ∀ k, k ≤ n → ∀ i, i < 96 → (mirS n d k)[i]? = some (if n - k ≤ i ∧ i < n then d.getD (n - 1 - i) 0 else 0)
  | 0, _, i, hi => by
    rw [if_neg (by omega)]; simp only [mirS, zD_getElem?, if_pos hi]
  | k + 1, hk, i, hi => by
    simp only [mirS, List.getElem?_set, mirS_len]
    by_cases e : n - 1 - k = i
    · subst e
      rw [if_pos rfl, if_pos (by omega), if_pos (by omega), show n - 1 - (n - 1 - k) = k by omega]
    · rw [if_neg e, mirS_get hn k (by omega) i hi]
      congr 1
      by_cases h1 : n - k ≤ i ∧ i < n
      · rw [if_pos h1, if_pos (by omega)]
      · rw [if_neg h1, if_neg (by omega)]
/-- The library's Reverse, after k exchanges, on the first n numbers. -/
def swS (n : Nat) (d : List Int) (k : Nat) : List Int := (List.range d.length).map fun i => if (i < k ∨ n - k ≤ i) ∧ i < n then d.getD (n - 1 - i) 0 else d.getD i 0
theorem swS_len (n : Nat) (d : List Int) (k : Nat) : (swS n d k).length = d.length := by simp [swS]
theorem swS_get {n : Nat} {d : List Int} {k i : Nat} (h : i < (swS n d k).length) : (swS n d k)[i] = if (i < k ∨ n - k ≤ i) ∧ i < n then d.getD (n - 1 - i) 0 else d.getD i 0 := by simp [swS]
theorem swS_zero (n : Nat) (d : List Int) : swS n d 0 = d := by
  refine List.ext_getElem (by simp [swS]) fun i h1 h2 => ?_
  rw [swS_get h1, if_neg (by omega), List.getD_eq_getElem?_getD, List.getElem?_eq_getElem h2]; rfl
theorem swS_low {n : Nat} {d : List Int} {k : Nat} (hn : n ≤ d.length) (hk : 2 * k + 1 < n) (h : k < (swS n d k).length) : (swS n d k)[k] = d.getD k 0 := by
  rw [swS_get h, if_neg (by omega)]
theorem swS_high {n : Nat} {d : List Int} {k : Nat} (hn : n ≤ d.length) (hk : 2 * k + 1 < n) (h : n - 1 - k < (swS n d k).length) : (swS n d k)[n - 1 - k] = d.getD (n - 1 - k) 0 := by
  rw [swS_get h, if_neg (by omega)]
theorem swS_step {n : Nat} {d : List Int} {k : Nat} (hn : n ≤ d.length) (hk : 2 * k + 1 < n) : ((swS n d k).set k (d.getD (n - 1 - k) 0)).set (n - 1 - k) (d.getD k 0) = swS n d (k + 1) := by
  refine List.ext_getElem (by simp [swS]) fun i h1 h2 => ?_
  have hi : i < d.length := by rw [swS_len] at h2; exact h2
  rw [List.getElem_set, List.getElem_set, swS_get, swS_get]
  by_cases e1 : n - 1 - k = i
  · subst e1
    rw [if_pos rfl, if_pos (by omega), show n - 1 - (n - 1 - k) = k by omega]
  · rw [if_neg e1]
    by_cases e2 : k = i
    · subst e2
      rw [if_pos rfl, if_pos (by omega)]
    · rw [if_neg e2]
      by_cases h3 : (i < k ∨ n - k ≤ i) ∧ i < n
      · rw [if_pos h3, if_pos (by omega)]
      · rw [if_neg h3, if_neg (by omega)]
/-- The first n numbers the other way round. -/
def revL (n : Nat) (d : List Int) : List Int := (List.range d.length).map fun i => if i < n then d.getD (n - 1 - i) 0 else d.getD i 0
theorem revL_len (n : Nat) (d : List Int) : (revL n d).length = d.length := by simp [revL]
theorem swS_done {n : Nat} {d : List Int} {k : Nat} (hn : n ≤ d.length) (hk : n ≤ 2 * k + 1) (hk2 : 2 * k ≤ n) : swS n d k = revL n d := by
  refine List.ext_getElem (by simp [swS, revL]) fun i h1 h2 => ?_
  rw [swS_get h1]
  simp only [revL, List.getElem_map, List.getElem_range]
  by_cases h3 : i < n
  · rw [if_pos h3]
    by_cases h4 : i < k ∨ n - k ≤ i
    · rw [if_pos ⟨h4, h3⟩]
    · rw [if_neg (by omega), show n - 1 - i = i by omega]
  · rw [if_neg h3, if_neg (by omega)]
theorem mirS_rev {n : Nat} {d : List Int} (hd : d.length = 96) (hn : n ≤ 96) (hz : ∀ i (h : i < d.length), n ≤ i → d[i] = 0) : mirS n d n = revL n d := by
  refine List.ext_getElem? fun i => ?_
  by_cases hi : i < 96
  · rw [mirS_get hn n (by omega) i hi, List.getElem?_eq_getElem (by rw [revL_len]; omega)]
    congr 1
    simp only [revL, List.getElem_map, List.getElem_range]
    by_cases h : i < n
    · rw [if_pos (by omega), if_pos h]
    · rw [if_neg (by omega), if_neg h, List.getD_eq_getElem?_getD, List.getElem?_eq_getElem (by omega)]
      exact (hz i (by omega) (by omega)).symm
  · rw [List.getElem?_eq_none (by rw [mirS_len]; omega), List.getElem?_eq_none (by rw [revL_len]; omega)]
theorem okD_zero {n : Nat} {s : Int} {d : List Int} (h : okD n s d = true) {i : Nat} (hi : i < d.length) (hs : s ≤ (i : Int)) : d[i] = 0 := by
  have := okD_iff.1 h i hi
  unfold okP at this
  simp only [Bool.and_eq_true, Bool.or_eq_true, decide_eq_true_eq, beq_iff_eq] at this
  rcases this.2 with h1 | h1
  · omega
  · exact h1
theorem cD_zero {s : Int} {l : List (Int × Int)} {d : List Int} (h : cD s l d = 0) : okF s l = true ∧ okD l.length s d = true := by
  unfold cD at h
  split at h
  · rename_i hv; simpa using hv
  · omega
noncomputable def rMirror (s : Int) (l : List (Int × Int)) (d : List Int) : List Int := if cD s l d = 0 then revL s.toNat d else zD
theorem rMirror_len {d : List Int} (hd : d.length = 96) (s : Int) (l : List (Int × Int)) : (rMirror s l d).length = 96 := by
  unfold rMirror; split
  · rw [revL_len, hd]
  · exact zD_len

/-- The steps some steps later: after k steps. -/
def turnS (n b : Nat) (d : List Int) : Nat → List Int
  | 0 => zD
  | k + 1 => (turnS n b d k).set ((k + b) % n) (d.getD k 0)
theorem turnS_len (n b : Nat) (d : List Int) : ∀ k, (turnS n b d k).length = 96
  | 0 => zD_len
  | k + 1 => by simp [turnS, turnS_len n b d k]
noncomputable def rTurn (s : Int) (l : List (Int × Int)) (d : List Int) (b : Int) : List Int := if cP s l d b 0 = 0 then turnS s.toNat b.toNat d s.toNat else zD
theorem rTurn_len (s : Int) (l : List (Int × Int)) (d : List Int) (b : Int) : (rTurn s l d b).length = 96 := by
  unfold rTurn; split
  · exact turnS_len _ _ _ _
  · exact zD_len

end Go.Proofs.Ytobpnlhfinnfkaa
