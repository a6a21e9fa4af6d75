/-
  The plain side of frames and drums: what the functions compute. No program and no memory in it.
-/
import Derived.Test.YtkjpiokmccnhdaaDoorPure
namespace Go.Proofs.YtkjpiokmccnhdaaDoor
set_option linter.unusedVariables false
set_option linter.unusedSimpArgs false

/-- The place of the first that f likes, -1 if there is none. -/
def idxF {α : Type} (f : α → Bool) (l : List α) : Int := match l.findIdx? f with
  | some i => i
  | none => -1
theorem idxF_some {α : Type} {f : α → Bool} {l : List α} {k : Nat} (hk : k < l.length) (h : f l[k] = true) (hb : ∀ i (hi : i < l.length), i < k → f l[i] = false) : idxF f l = k := by
  have e : l.findIdx? f = some k := by
    rw [List.findIdx?_eq_some_iff_getElem]
    exact ⟨hk, h, fun j hj => by simp [hb j (by omega) hj]⟩
  simp [idxF, e]
theorem idxF_none {α : Type} {f : α → Bool} {l : List α} (hb : ∀ i (hi : i < l.length), f l[i] = false) : idxF f l = -1 := by
  have e : l.findIdx? f = none := by
    rw [List.findIdx?_eq_none_iff]
    intro x hx
    obtain ⟨i, hi, rfl⟩ := List.getElem_of_mem hx
    exact hb i hi
  simp [idxF, e]
theorem idxF_any {α : Type} (f : α → Bool) (l : List α) : decide (0 ≤ idxF f l) = l.any f := by
  unfold idxF
  cases h : l.findIdx? f with
  | none =>
    rw [List.findIdx?_eq_none_iff] at h
    have : l.any f = false := by rw [List.any_eq_false]; intro x hx; simpa using h x hx
    rw [this]; rfl
  | some i =>
    rw [List.findIdx?_eq_some_iff_getElem] at h
    obtain ⟨hi, h1, _⟩ := h
    have : l.any f = true := List.any_eq_true.2 ⟨l[i], List.getElem_mem hi, h1⟩
    rw [this]; simp

/-- A pair that two int8 can hold. -/
def Wh (p : Int × Int) : Prop := -128 ≤ p.1 ∧ p.1 ≤ 127 ∧ -128 ≤ p.2 ∧ p.2 ≤ 127
def Whs (l : List (Int × Int)) : Prop := ∀ p ∈ l, Wh p
theorem Whs.get {l : List (Int × Int)} (h : Whs l) {i : Nat} (hi : i < l.length) : Wh l[i] := h _ (List.getElem_mem hi)
def W16 (s : Int) : Prop := -32768 ≤ s ∧ s ≤ 32767

/-- A hammer (pitch, width) that a frame of s steps may bear. -/
def okH (s : Int) (p : Int × Int) : Bool := inB p.1 0 47 && inB p.2 1 (min 20 s)
/-- A frame of s steps with hammers hs. -/
def okF (s : Int) (hs : List (Int × Int)) : Bool := inB s 2 96 && (inB hs.length 1 24 && hs.all (okH s))
theorem okF_iff {s : Int} {hs : List (Int × Int)} : okF s hs = true ↔ (2 ≤ s ∧ s ≤ 96) ∧ (1 ≤ hs.length ∧ hs.length ≤ 24) ∧ ∀ p ∈ hs, okH s p = true := by
  simp [okF, inB_iff]
  omega
theorem okH_iff {s : Int} {p : Int × Int} : okH s p = true ↔ (0 ≤ p.1 ∧ p.1 ≤ 47) ∧ 1 ≤ p.2 ∧ p.2 ≤ 20 ∧ p.2 ≤ s := by
  simp [okH, inB_iff]
  omega
theorem okF_get {s : Int} {hs : List (Int × Int)} (h : okF s hs = true) {i : Nat} (hi : i < hs.length) : (0 ≤ hs[i].1 ∧ hs[i].1 ≤ 47) ∧ 1 ≤ hs[i].2 ∧ hs[i].2 ≤ 20 ∧ hs[i].2 ≤ s :=
  okH_iff.1 ((okF_iff.1 h).2.2 _ (List.getElem_mem hi))
theorem all_bad {s : Int} {hs : List (Int × Int)} {k : Nat} (hk : k < hs.length) (h : okH s hs[k] = false) : hs.all (okH s) = false := by
  rw [List.all_eq_false]; exact ⟨hs[k], List.getElem_mem hk, by simp [h]⟩
theorem all_ok {s : Int} {hs : List (Int × Int)} (h : ∀ i (hi : i < hs.length), okH s hs[i] = true) : hs.all (okH s) = true := by
  rw [List.all_eq_true]; intro x hx; obtain ⟨i, hi, rfl⟩ := List.getElem_of_mem hx; exact h i hi
theorem any_not {s : Int} {hs : List (Int × Int)} : (hs.any fun p => !okH s p) = !hs.all (okH s) := by
  rw [Bool.eq_iff_iff]; simp

/-- The bells of a frame, as a number of 64 bits. -/
def bellsL (hs : List (Int × Int)) : Int := hs.foldl (fun acc p => bits .or .u64 acc (IntKind.u64.wrap (2 ^ p.1.toNat))) 0
theorem bellsL_snoc (l : List (Int × Int)) (k : Nat) (h : k < l.length) : bellsL (l.take (k + 1)) = bits .or .u64 (bellsL (l.take k)) (IntKind.u64.wrap (2 ^ l[k].1.toNat)) := by
  unfold bellsL; rw [List.take_succ_eq_append_getElem h, List.foldl_append]; rfl
def cF (s : Int) (hs : List (Int × Int)) : Int := if okF s hs then 0 else 1
def rBellsOf (s : Int) (hs : List (Int × Int)) : Int := if okF s hs then bellsL hs else 0

/-- How many hammers strike pitch p. -/
def numH (hs : List (Int × Int)) (p : Int) : Nat := hs.countP fun h => decide (h.1 = p)
theorem numH_snoc (l : List (Int × Int)) (p : Int) (k : Nat) (h : k < l.length) : numH (l.take (k + 1)) p = numH (l.take k) p + if decide (l[k].1 = p) then 1 else 0 := by
  unfold numH
  rw [List.take_succ_eq_append_getElem h, List.countP_append, List.countP_singleton]
theorem numH_le (l : List (Int × Int)) (p : Int) : numH l p ≤ l.length := List.countP_le_length
def cHammersFor (s : Int) (hs : List (Int × Int)) (p : Int) : Int := if okF s hs then (if inB p 0 47 then 0 else 2) else 1
def rHammersFor (s : Int) (hs : List (Int × Int)) (p : Int) : Int := if okF s hs then (if inB p 0 47 then (numH hs p : Int) else 0) else 0
/-- The least width of the hammers on pitch p, 1 if there is none. -/
def leastW (hs : List (Int × Int)) (p : Int) : Int := (hs.foldl (fun (a : Nat × Int) h => if h.1 = p then (a.1 + 1, if a.1 = 0 ∨ h.2 < a.2 then h.2 else a.2) else a) (0, 1)).2
theorem foldW (hs : List (Int × Int)) (p : Int) : ∀ a : Nat × Int, (hs.foldl (fun (a : Nat × Int) h => if h.1 = p then (a.1 + 1, if a.1 = 0 ∨ h.2 < a.2 then h.2 else a.2) else a) a).1 = a.1 + numH hs p := by
  induction hs with
  | nil => intro a; rfl
  | cons h t ih =>
    intro a
    rw [List.foldl_cons, ih]
    unfold numH
    rw [List.countP_cons]
    by_cases e : h.1 = p
    · simp [e]; omega
    · simp [e]
theorem leastW_no (l : List (Int × Int)) (p : Int) (k : Nat) (h : k < l.length) (e : ¬ l[k].1 = p) : leastW (l.take (k + 1)) p = leastW (l.take k) p := by
  unfold leastW; rw [List.take_succ_eq_append_getElem h, List.foldl_append, List.foldl_cons, List.foldl_nil, if_neg e]
theorem leastW_yes (l : List (Int × Int)) (p : Int) (k : Nat) (h : k < l.length) (e : l[k].1 = p) : leastW (l.take (k + 1)) p = if numH (l.take k) p = 0 ∨ l[k].2 < leastW (l.take k) p then l[k].2 else leastW (l.take k) p := by
  have := foldW (l.take k) p (0, 1)
  unfold leastW
  rw [List.take_succ_eq_append_getElem h, List.foldl_append, List.foldl_cons, List.foldl_nil, if_pos e]
  simp only [this, Nat.zero_add]

end Go.Proofs.YtkjpiokmccnhdaaDoor
