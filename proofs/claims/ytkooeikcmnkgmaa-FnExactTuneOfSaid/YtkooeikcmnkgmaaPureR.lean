/-
  The tune that a drum plays. Plain: no program in it.
-/
import Derived.Test.YtkooeikcmnkgmaaPureI
import Derived.Test.YtkooeikcmnkgmaaPureH
import Derived.Test.YtkooeikcmnkgmaaPureP
namespace Go.Proofs.Ytkooeikcmnkgmaa
set_option linter.unusedVariables false
set_option linter.unusedSimpArgs false

/-- The note of a pin. -/
def noteP (l : List (Int × Int)) (p : Int × Int) : Int × Int := (p.1, (l.getD p.2.toNat (0, 0)).1)
def tuU (d : List Int) (l : List (Int × Int)) (k t : Nat) : List (Int × Int) := (pinsL d l.length k ++ rowP d k t).map (noteP l)
def tuA (d : List Int) (l : List (Int × Int)) (k : Nat) : List (Int × Int) := (pinsL d l.length k).map (noteP l)
theorem tuU_zero (d : List Int) (l : List (Int × Int)) (k : Nat) : tuU d l k 0 = tuA d l k := by simp [tuU, tuA, rowP]
theorem tuU_end (d : List Int) (l : List (Int × Int)) (k : Nat) : tuU d l k l.length = tuA d l (k + 1) := by unfold tuU tuA; rw [pinsL_succ]
theorem tuA_zero (d : List Int) (l : List (Int × Int)) : tuA d l 0 = [] := by simp [tuA, pinsL]
theorem tuU_no {d : List Int} {l : List (Int × Int)} {k t : Nat} (h : pinB d k t = false) : tuU d l k (t + 1) = tuU d l k t := by
  unfold tuU; rw [rowP_succ, h]; simp
theorem tuU_yes {d : List Int} {l : List (Int × Int)} {k t : Nat} (ht : t < l.length) (h : pinB d k t = true) : tuU d l k (t + 1) = tuU d l k t ++ [((k : Int), l[t].1)] := by
  unfold tuU
  rw [rowP_succ, h, ← List.append_assoc, List.map_append]
  simp [noteP, ht]
theorem tuU_len (d : List Int) (l : List (Int × Int)) {k t : Nat} (hk : k < 96) (ht : t ≤ 32) (hl : l.length ≤ 32) : (tuU d l k t).length ≤ 3104 := by
  unfold tuU
  rw [List.length_map, List.length_append]
  have h1 := pinsL_len d l.length k
  have h2 := rowP_len d k t
  have h3 : k * l.length ≤ 96 * 32 := Nat.mul_le_mul (by omega) hl
  omega
theorem tuA_len (d : List Int) (l : List (Int × Int)) {k : Nat} (hk : k ≤ 96) (hl : l.length ≤ 32) : (tuA d l k).length ≤ 3072 := by
  unfold tuA
  rw [List.length_map]
  have h1 := pinsL_len d l.length k
  have h3 : k * l.length ≤ 96 * 32 := Nat.mul_le_mul hk hl
  omega
theorem tuA_mem {d : List Int} {l : List (Int × Int)} {n : Nat} {x : Int × Int} (h : x ∈ tuA d l n) : ∃ k t : Nat, ∃ ht : t < l.length, k < n ∧ pinB d k t = true ∧ x = ((k : Int), l[t].1) := by
  unfold tuA pinsL at h
  rw [List.mem_map] at h
  obtain ⟨p, hp, rfl⟩ := h
  rw [List.mem_flatMap] at hp
  obtain ⟨k, hk, hp⟩ := hp
  unfold rowP at hp
  rw [List.mem_map] at hp
  obtain ⟨t, ht, rfl⟩ := hp
  rw [List.mem_filter] at ht
  have ht1 : t < l.length := List.mem_range.1 ht.1
  exact ⟨k, t, ht1, List.mem_range.1 hk, ht.2, by simp [noteP, ht1]⟩
theorem tuA_okN {d : List Int} {l : List (Int × Int)} {n : Nat} (hn : n ≤ 96) (hf : okF (n : Int) l = true) : ∀ x ∈ tuA d l n, okN x = true := fun x hx => by
  obtain ⟨k, t, ht, hk, _, rfl⟩ := tuA_mem hx
  have := okF_get hf ht
  rw [okN_iff]
  simp only []
  omega
noncomputable def cTu (s : Int) (l : List (Int × Int)) (d : List Int) : Int := if cD s l d = 0 then cLim (tuA d l s.toNat) else cD s l d
noncomputable def rTu (s : Int) (l : List (Int × Int)) (d : List Int) : List (Int × Int) := if cD s l d = 0 then rLim (tuA d l s.toNat) else []
theorem rTu_len (s : Int) (l : List (Int × Int)) (d : List Int) : (rTu s l d).length ≤ 120 := by
  unfold rTu
  split
  · unfold rLim; split
    · omega
    · simp
  · simp

end Go.Proofs.Ytkooeikcmnkgmaa
