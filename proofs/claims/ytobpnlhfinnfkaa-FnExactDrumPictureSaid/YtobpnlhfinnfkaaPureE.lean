/-
  The plain side of drums: what the functions compute. No program and no memory in it.
-/
import Derived.Test.YtobpnlhfinnfkaaPureD
namespace Go.Proofs.Ytobpnlhfinnfkaa
set_option linter.unusedVariables false
set_option linter.unusedSimpArgs false

/-- May place k of a drum bear x, in a frame of s steps and n hammers? -/
def okP (n : Nat) (s : Int) (k : Nat) (x : Int) : Bool := (x / 2 ^ min n 32 == 0) && (decide ((k : Int) < s) || (x == 0))
theorem okP_1 {n : Nat} {s : Int} {k : Nat} {x : Int} (h : (x / 2 ^ min n 32 != 0) = true) : okP n s k x = false := by unfold okP; simp at h; simp [h]
theorem okP_2 {n : Nat} {s : Int} {k : Nat} {x : Int} (h : decide (s ≤ (k : Int)) = true) (h2 : (x != 0) = true) : okP n s k x = false := by
  unfold okP; rw [decide_eq_false (by have := of_decide_eq_true h; omega)]; simp at h2; simp [h2]
theorem okP_3 {n : Nat} {s : Int} {k : Nat} {x : Int} (h : (x / 2 ^ min n 32 != 0) = false) (h2 : decide (s ≤ (k : Int)) = false) : okP n s k x = true := by
  unfold okP; rw [decide_eq_true (by have := of_decide_eq_false h2; omega)]; simp at h; simp [h]
theorem okP_4 {n : Nat} {s : Int} {k : Nat} {x : Int} (h : (x / 2 ^ min n 32 != 0) = false) (h2 : (x != 0) = false) : okP n s k x = true := by
  unfold okP; simp at h h2; simp [h, h2]
open Classical in
/-- Is d a drum for a frame of s steps and n hammers? -/
noncomputable def okD (n : Nat) (s : Int) (d : List Int) : Bool := decide (∀ i (h : i < d.length), okP n s i d[i] = true)
theorem okD_iff {n : Nat} {s : Int} {d : List Int} : okD n s d = true ↔ ∀ i (h : i < d.length), okP n s i d[i] = true := by simp [okD]
theorem okD_bad {n : Nat} {s : Int} {d : List Int} {k : Nat} (hk : k < d.length) (h : okP n s k d[k] = false) : okD n s d = false := by
  cases hx : okD n s d with
  | false => rfl
  | true => have := okD_iff.1 hx k hk; rw [h] at this; cases this
theorem okD_all {n : Nat} {s : Int} {d : List Int} (h : ∀ i (h : i < d.length), okP n s i d[i] = true) : okD n s d = true := okD_iff.2 h
/-- The code of a drum in a frame: 0, or 1 where either is not valid. -/
noncomputable def cD (s : Int) (hs : List (Int × Int)) (d : List Int) : Int := if okF s hs && okD hs.length s d then 0 else 1
noncomputable def vD (s : Int) (hs : List (Int × Int)) (d : List Int) : Bool := okF s hs && okD hs.length s d

end Go.Proofs.Ytobpnlhfinnfkaa
