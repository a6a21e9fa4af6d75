/-
  The plain side of tunes that are moved, transposed, stretched. No program in it.
-/
import Derived.Test.YtmdocjiljjbijaaPureB
namespace Go.Proofs.Ytmdocjiljjbijaa
set_option linter.unusedVariables false
set_option linter.unusedSimpArgs false

/-- Are all notes made right ones? -/
def movB (g : Int × Int → Int × Int) (l : List (Int × Int)) : Bool := l.all fun p => okN (g p)
/-- The notes that are made of a list's, none if one of them is none. -/
def movR (g : Int × Int → Int × Int) (l : List (Int × Int)) : List (Int × Int) := if movB g l then l.map g else []
theorem movB_bad {g : Int × Int → Int × Int} {l : List (Int × Int)} {k : Nat} (hk : k < l.length) (h : okN (g l[k]) = false) : movB g l = false := by
  unfold movB; rw [List.all_eq_false]; exact ⟨l[k], List.getElem_mem hk, by simp [h]⟩
theorem movB_all {g : Int × Int → Int × Int} {l : List (Int × Int)} (h : ∀ i (hi : i < l.length), okN (g l[i]) = true) : movB g l = true := by
  unfold movB; rw [List.all_eq_true]; intro x hx; obtain ⟨i, hi, rfl⟩ := List.getElem_of_mem hx; exact h i hi
theorem movR_len (g : Int × Int → Int × Int) (l : List (Int × Int)) : (movR g l).length ≤ l.length := by unfold movR; split <;> simp
theorem okN_and {a p : Int} : okN (a, p) = (inB a 0 199 && inB p 0 47) := rfl
/-- Notes that are made in order are a tune. -/
theorem movR_ok {g : Int × Int → Int × Int} {l : List (Int × Int)} (hl : okT l = true) (hb : movB g l = true) (hm : ∀ p q, okN p = true → okN q = true → okN (g p) = true → okN (g q) = true → ltN p q = true → ltN (g p) (g q) = true) : okT (l.map g) = true := by
  have hb2 : ∀ p ∈ l, okN (g p) = true := by unfold movB at hb; rw [List.all_eq_true] at hb; exact hb
  have ho := (okT_iff.1 hl).1
  rw [okT_iff]
  refine ⟨fun i hi hi2 => ?_, by rw [List.length_map]; exact okT_len hl⟩
  rw [List.length_map] at hi
  refine ⟨by rw [List.getElem_map]; exact hb2 _ (List.getElem_mem hi), fun h0 => ?_⟩
  rw [List.getElem_map, List.getElem_map]
  exact hm _ _ (ho (i - 1) (by omega) (by omega)).1 (ho i hi (by omega)).1 (hb2 _ (List.getElem_mem (by omega))) (hb2 _ (List.getElem_mem hi)) ((ho i hi (by omega)).2 h0)

/-- Steps and pitches with something added. -/
def addG (s p : Int) (x : Int × Int) : Int × Int := (x.1 + s, x.2 + p)
theorem addG_mono (s p : Int) {x y : Int × Int} (h : ltN x y = true) : ltN (addG s p x) (addG s p y) = true := by
  rw [ltN_iff] at h ⊢
  unfold addG
  rcases h with h | ⟨h1, h2⟩
  · left; simp only []; omega
  · right; simp only []; exact ⟨by omega, by omega⟩
/-- Steps times n over d; -1 where that is none. -/
def strG (n d : Int) (x : Int × Int) : Int × Int := if (x.1 * n) % d = 0 then (x.1 * n / d, x.2) else (-1, x.2)
theorem strG_mono {n d : Int} (hn : 1 ≤ n) (hd : 1 ≤ d) {x y : Int × Int} (hx : okN (strG n d x) = true) (hy : okN (strG n d y) = true) (h : ltN x y = true) : ltN (strG n d x) (strG n d y) = true := by
  unfold strG at hx hy ⊢
  by_cases h1 : (x.1 * n) % d = 0
  · by_cases h2 : (y.1 * n) % d = 0
    · rw [if_pos h1, if_pos h2]
      rw [ltN_iff] at h ⊢
      rcases h with h | ⟨h3, h4⟩
      · left
        simp only []
        have e1 := Int.mul_ediv_cancel' (Int.dvd_of_emod_eq_zero h1)
        have e2 := Int.mul_ediv_cancel' (Int.dvd_of_emod_eq_zero h2)
        have h5 : x.1 * n < y.1 * n := Int.mul_lt_mul_of_pos_right h (by omega)
        rw [← e1, ← e2] at h5
        exact Int.lt_of_mul_lt_mul_left h5 (by omega)
      · right
        simp only []
        exact ⟨by rw [h3], h4⟩
    · rw [if_neg h2] at hy; exact absurd (okN_iff.1 hy).1 (by simp)
  · rw [if_neg h1] at hx; exact absurd (okN_iff.1 hx).1 (by simp)

/-- What MoveTune, Transpose and Stretched give: the notes, and the code. -/
noncomputable def cMove (l : List (Int × Int)) (ok : Bool) (bad : Int) (g : Int × Int → Int × Int) : Int := if okT l then (if ok then (if movB g l then 0 else 4) else bad) else 1
noncomputable def rMove (l : List (Int × Int)) (ok : Bool) (bad : Int) (g : Int × Int → Int × Int) : List (Int × Int) := if okT l && ok then movR g l else []
theorem rMove_len (l : List (Int × Int)) (ok : Bool) (bad : Int) (g : Int × Int → Int × Int) : (rMove l ok bad g).length ≤ l.length := by
  unfold rMove; split
  · exact movR_len g l
  · simp

end Go.Proofs.Ytmdocjiljjbijaa
