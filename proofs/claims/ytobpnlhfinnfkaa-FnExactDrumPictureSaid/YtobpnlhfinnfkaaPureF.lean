/-
  The plain side of pins: what the functions on a place of a drum compute. No program and no memory in it.
-/
import Derived.Test.YtobpnlhfinnfkaaPureE
import Derived.Laws.BitsLemmas
namespace Go.Proofs.Ytobpnlhfinnfkaa
set_option linter.unusedVariables false
set_option linter.unusedSimpArgs false

theorem wraps_u32 (n : Int) (h₀ : 0 ≤ n) (h₁ : n < 2 ^ 32) : IntKind.u32.wrap n = n := IntWalk.u32_in _ (by omega)
def Wd (d : List Int) : Prop := ∀ x ∈ d, 0 ≤ x ∧ x ≤ 4294967295
theorem Wd.get {d : List Int} (h : Wd d) {i : Nat} (hi : i < d.length) : 0 ≤ d[i] ∧ d[i] ≤ 4294967295 := h _ (List.getElem_mem hi)
theorem div_bd {x : Int} (h : 0 ≤ x ∧ x ≤ 4294967295) (t : Nat) : 0 ≤ x / 2 ^ t ∧ x / 2 ^ t ≤ 4294967295 := by
  have hp : (0 : Int) < 2 ^ t := Int.pow_pos (by decide)
  exact ⟨Int.ediv_nonneg h.1 (Int.le_of_lt hp), Int.le_trans (Int.ediv_le_self _ h.1) h.2⟩
theorem and_one {x : Int} (h : 0 ≤ x ∧ x ≤ 4294967295) : bits .and .u32 x 1 = x % 2 := by
  have := bits_mask .u32 32 (by decide) wraps_u32 1 (by decide) x h.1 (by omega)
  simpa using this
theorem tmod_two {x : Int} (h : 0 ≤ x) : x.tmod 2 = x % 2 := Int.tmod_eq_emod_of_nonneg h

/-- Is there a pin at place k for track t? -/
def pinB (d : List Int) (k t : Nat) : Bool := d.getD k 0 / 2 ^ t % 2 == 1
theorem pinB_at {d : List Int} {k : Nat} (h : k < d.length) (t : Nat) : pinB d k t = (d[k] / 2 ^ t % 2 == 1) := by
  unfold pinB; rw [List.getD_eq_getElem?_getD, List.getElem?_eq_getElem h]; rfl
/-- The code of a place. -/
noncomputable def cP (s : Int) (hs : List (Int × Int)) (d : List Int) (a t : Int) : Int := if vD s hs d then (if inB a 0 (s - 1) && inB t 0 ((hs.length : Int) - 1) then 0 else 2) else 1
theorem cP_zero {s : Int} {hs : List (Int × Int)} {d : List Int} {a t : Int} (h : cP s hs d a t = 0) : okF s hs = true ∧ okD hs.length s d = true ∧ (0 ≤ a ∧ a ≤ s - 1) ∧ 0 ≤ t ∧ t ≤ (hs.length : Int) - 1 := by
  unfold cP at h
  split at h
  · rename_i hv
    split at h
    · rename_i hb
      simp only [Bool.and_eq_true, inB_iff] at hb
      simp only [vD, Bool.and_eq_true] at hv
      exact ⟨hv.1, hv.2, hb.1, hb.2⟩
    · omega
  · omega
/-- What HasPin returns. -/
noncomputable def rHasPin (s : Int) (hs : List (Int × Int)) (d : List Int) (a t : Int) : Bool := if cP s hs d a t = 0 then pinB d a.toNat t.toNat else false

end Go.Proofs.Ytobpnlhfinnfkaa
