/-
  The plain side of the pins of each track; a row of numbers that is made. No program in it.
-/
import Derived.Test.YtjcbailckchnoaaGreatDoorData
namespace Go.Proofs.YtjcbailckchnoaaGreatDoor
open Go.RowKit
set_option linter.unusedVariables false
set_option linter.unusedSimpArgs false

/-- How many pins a track has in the first k steps. -/
def cntT (d : List Int) (i k : Nat) : Nat := (List.range k).countP fun j => pinB d j i
theorem cntT_succ (d : List Int) (i k : Nat) : cntT d i (k + 1) = cntT d i k + if pinB d k i then 1 else 0 := by
  unfold cntT; rw [List.range_succ, List.countP_append, List.countP_singleton]
theorem cntT_le (d : List Int) (i k : Nat) : cntT d i k ≤ k := by
  unfold cntT; exact Nat.le_trans List.countP_le_length (by simp)
/-- The counts when the steps before k and the tracks before t of step k have been looked at. -/
def cntU (d : List Int) (m k t : Nat) : List Int := (List.range m).map fun i => ((cntT d i k + (if i < t then (if pinB d k i then 1 else 0) else 0) : Nat) : Int)
theorem cntU_len (d : List Int) (m k t : Nat) : (cntU d m k t).length = m := by simp [cntU]
theorem cntU_get {d : List Int} {m k t i : Nat} (h : i < (cntU d m k t).length) : (cntU d m k t)[i] = ((cntT d i k + (if i < t then (if pinB d k i then 1 else 0) else 0) : Nat) : Int) := by simp [cntU]
theorem cntU_zero (d : List Int) (m : Nat) : cntU d m 0 0 = List.replicate m 0 := by
  refine List.ext_getElem (by rw [cntU_len, List.length_replicate]) fun i h1 h2 => ?_
  rw [cntU_get, List.getElem_replicate]; simp [cntT]
theorem cntU_row (d : List Int) (m k : Nat) : cntU d m k m = cntU d m (k + 1) 0 := by
  refine List.ext_getElem (by rw [cntU_len, cntU_len]) fun i h1 h2 => ?_
  rw [cntU_len] at h1
  rw [cntU_get, cntU_get, cntT_succ, if_pos h1]; simp
theorem cntU_no {d : List Int} {m k t : Nat} (hp : pinB d k t = false) : cntU d m k (t + 1) = cntU d m k t := by
  refine List.ext_getElem (by rw [cntU_len, cntU_len]) fun i h1 h2 => ?_
  rw [cntU_get, cntU_get]
  by_cases e : i = t
  · subst e; simp [hp]
  · by_cases h : i < t
    · rw [if_pos h, if_pos (by omega)]
    · rw [if_neg h, if_neg (by omega)]
theorem cntU_yes {d : List Int} {m k t : Nat} (ht : t < m) (hp : pinB d k t = true) : (cntU d m k t).set t ((cntT d t k : Nat) + 1) = cntU d m k (t + 1) := by
  refine List.ext_getElem (by simp [cntU_len]) fun i h1 h2 => ?_
  rw [List.getElem_set, cntU_get, cntU_get]
  by_cases e : t = i
  · subst e; rw [if_pos rfl]; simp [hp]
  · rw [if_neg e]
    by_cases h : i < t
    · simp [h, show i < t + 1 by omega]
    · simp [h, show ¬ i < t + 1 by omega]
theorem cntU_at {d : List Int} {m k t : Nat} (ht : t < (cntU d m k t).length) : (cntU d m k t)[t] = ((cntT d t k : Nat) : Int) := by
  rw [cntU_get, if_neg (by omega)]; simp

theorem run_make1 {P : Program} (t e : TypeId) (k : IntKind) (b : Nat) (ht : P.underlying t = some (.slice e)) (hi : (P.info? e).map (fun i => (i.zero, i.size, i.bytes)) = some (some (.int k 0), 1, b))
    (n : Nat) (hb : b ≤ 16) (hn : n ≤ 1073741824) (w : World) :
    (Instr.makeSlice t (.int .i64 (n : Int)) (.int .i64 (n : Int))).run P w = .ok (.slice (some ⟨w.heap.size, 0, none⟩) n n) (w.alloc (.cells (madeCells #[.int k 0] n) e)) := by
  obtain ⟨i, h1, h2, h3, h4⟩ := info_parts1 hi
  have hx : i.bytes * n ≤ 16 * 1073741824 := Nat.mul_le_mul (by omega) hn
  have := run_make_rowN (P := P) t e i _ ht h1 h2 .i64 .i64 n n (Nat.le_refl _) (by omega) (by omega) w
  rw [h3, Nat.mul_one] at this
  exact this
theorem madeCells1 (k : IntKind) (n : Nat) : (madeCells #[.int k 0] n).toList = (List.replicate n (0 : Int)).map (Value.int k) := by
  refine List.ext_getElem? fun j => ?_
  by_cases hj : j < n
  · have h1 : (madeCells #[.int k 0] n)[j]? = some ((#[.int k 0] : Array Value)[j % 1]!) := by
      simp only [madeCells, Array.getElem?_map, Array.getElem?_range]
      simp [hj]
    rw [Array.getElem?_toList, h1]
    simp [hj, Nat.mod_one]
  · rw [List.getElem?_eq_none (by simp [madeCells]; omega), List.getElem?_eq_none (by simp; omega)]
theorem Own1.made {k : IntKind} {E : TypeId} {w : World} {base : Nat} (hb : base ≤ w.heap.size) {n : Nat} (hn : n ≤ 1073741824) :
    Own1 k E (w.alloc (.cells (madeCells #[.int k 0] n) E)) base (.slice (some ⟨w.heap.size, 0, none⟩) n n) (List.replicate n 0) := by
  have := World.ownsRow_lit (base := base) (e := E) (size := 1) w (madeCells #[.int k 0] n) n hb (by unfold maxLen; omega) (by simp [madeCells])
  rw [madeCells1] at this
  unfold Own1
  rw [List.length_replicate]
  exact this

end Go.Proofs.YtjcbailckchnoaaGreatDoor
