/-
  The plain side: what the functions of tunes compute, on lists of pairs (step, pitch). No program and no memory in it.
-/
import Derived.WalkKit
namespace Go.Proofs.YtkjpiokmccnhdaaDoor

/-- lo ≤ a ≤ hi, as a Bool. -/
def inB (a lo hi : Int) : Bool := decide (lo ≤ a) && decide (a ≤ hi)
theorem inB_iff {a lo hi : Int} : inB a lo hi = true ↔ lo ≤ a ∧ a ≤ hi := by simp [inB]
theorem inB_not {a lo hi : Int} : inB a lo hi = false ↔ ¬ (lo ≤ a ∧ a ≤ hi) := by
  rw [← inB_iff]; cases inB a lo hi <;> simp

/-- A pair that an int16 and an int8 can hold. -/
def Wn (p : Int × Int) : Prop := -32768 ≤ p.1 ∧ p.1 ≤ 32767 ∧ -128 ≤ p.2 ∧ p.2 ≤ 127
def Wf (l : List (Int × Int)) : Prop := ∀ p ∈ l, Wn p
theorem Wf.get {l : List (Int × Int)} (h : Wf l) {i : Nat} (hi : i < l.length) : Wn l[i] := h _ (List.getElem_mem hi)
theorem Wf.append {a b : List (Int × Int)} (h : Wf a) (k : Wf b) : Wf (a ++ b) := fun p hp => by
  rcases List.mem_append.1 hp with hp | hp
  · exact h p hp
  · exact k p hp
theorem Wf.nil : Wf [] := fun p hp => by cases hp

def okN (p : Int × Int) : Bool := inB p.1 0 199 && inB p.2 0 47
theorem okN_iff {p : Int × Int} : okN p = true ↔ 0 ≤ p.1 ∧ p.1 ≤ 199 ∧ 0 ≤ p.2 ∧ p.2 ≤ 47 := by
  simp only [okN, Bool.and_eq_true, inB_iff]; omega
/-- One note stands before another. -/
def ltN (a b : Int × Int) : Bool := decide (a.1 < b.1) || (decide (a.1 = b.1) && decide (a.2 < b.2))
theorem ltN_iff {a b : Int × Int} : ltN a b = true ↔ a.1 < b.1 ∨ a.1 = b.1 ∧ a.2 < b.2 := by simp [ltN]
/-- What compareNotes says. -/
def cmpI (a b : Int) : Int := if a < b then -1 else if b < a then 1 else 0
def cmpN (a b : Int × Int) : Int := if cmpI a.1 b.1 = 0 then cmpI a.2 b.2 else cmpI a.1 b.1
theorem cmpN_neg {a b : Int × Int} : cmpN a b < 0 ↔ ltN a b = true := by
  rw [ltN_iff]; unfold cmpN cmpI; repeat' split <;> omega
theorem cmpN_zero {a b : Int × Int} : cmpN a b = 0 ↔ a = b := by
  rw [Prod.ext_iff]; unfold cmpN cmpI; repeat' split <;> omega
theorem cmpN_bd (a b : Int × Int) : -1 ≤ cmpN a b ∧ cmpN a b ≤ 1 := by
  unfold cmpN cmpI; repeat' split <;> omega
theorem cmpI_bd (a b : Int) : -1 ≤ cmpI a b ∧ cmpI a b ≤ 1 := by
  unfold cmpI; repeat' split <;> omega

theorem cmpN_ge {a b : Int × Int} : decide (0 ≤ cmpN a b) = !ltN a b := by
  have := @cmpN_neg a b
  cases h : ltN a b <;> rw [h] at this <;> simp at this <;> simp <;> omega

/-- The first k notes are as they may be, and rise. -/
def Pre (l : List (Int × Int)) (k : Nat) : Prop :=
  ∀ i (h : i < l.length), i < k → okN l[i] = true ∧ (0 < i → ltN l[i - 1] l[i] = true)
theorem Pre.zero (l : List (Int × Int)) : Pre l 0 := fun _ _ h => absurd h (by omega)
theorem Pre.succ {l : List (Int × Int)} {k : Nat} (h : Pre l k) (hk : k < l.length) (h1 : okN l[k] = true) (h2 : 0 < k → ltN l[k - 1] l[k] = true) : Pre l (k + 1) := fun i hi hik => by
  by_cases e : i = k
  · subst e; exact ⟨h1, h2⟩
  · exact h i hi (by omega)
open Classical in
noncomputable def okT (l : List (Int × Int)) : Bool := decide (Pre l l.length ∧ l.length ≤ 120)
theorem okT_iff {l : List (Int × Int)} : okT l = true ↔ Pre l l.length ∧ l.length ≤ 120 := by simp [okT]
theorem okT_bad1 {l : List (Int × Int)} {k : Nat} (hk : k < l.length) (h1 : okN l[k] = false) : okT l = false := by
  cases h : okT l with
  | false => rfl
  | true => have := ((okT_iff.1 h).1 k hk hk).1; rw [h1] at this; cases this
theorem okT_bad2 {l : List (Int × Int)} {k : Nat} (hk : k < l.length) (h0 : 0 < k) (h1 : ltN l[k - 1] l[k] = false) : okT l = false := by
  cases h : okT l with
  | false => rfl
  | true => have := ((okT_iff.1 h).1 k hk hk).2 h0; rw [h1] at this; cases this
theorem okT_end {l : List (Int × Int)} (h : Pre l l.length) : okT l = decide (l.length ≤ 120) := by
  rw [Bool.eq_iff_iff, okT_iff]; simp [h]
theorem okT_note {l : List (Int × Int)} (h : okT l = true) {i : Nat} (hi : i < l.length) : 0 ≤ l[i].1 ∧ l[i].1 ≤ 199 ∧ 0 ≤ l[i].2 ∧ l[i].2 ≤ 47 :=
  okN_iff.1 ((okT_iff.1 h).1 i hi hi).1
theorem okT_len {l : List (Int × Int)} (h : okT l = true) : l.length ≤ 120 := (okT_iff.1 h).2

/-- The place of the first tune that is not valid, -1 if there is none. -/
noncomputable def badAt : List (List (Int × Int)) → Int
  | ls => match ls.findIdx? (fun l => !okT l) with
    | some i => i
    | none => -1
theorem badAt_some {ls : List (List (Int × Int))} {k : Nat} (hk : k < ls.length) (h : okT ls[k] = false) (hb : ∀ i (hi : i < ls.length), i < k → okT ls[i] = true) : badAt ls = k := by
  have e : ls.findIdx? (fun l => !okT l) = some k := by
    rw [List.findIdx?_eq_some_iff_getElem]
    exact ⟨hk, by simp [h], fun j hj => by simp [hb j (by omega) hj]⟩
  simp [badAt, e]
theorem badAt_none {ls : List (List (Int × Int))} (hb : ∀ i (hi : i < ls.length), okT ls[i] = true) : badAt ls = -1 := by
  have e : ls.findIdx? (fun l => !okT l) = none := by
    rw [List.findIdx?_eq_none_iff]
    intro x hx
    obtain ⟨i, hi, rfl⟩ := List.getElem_of_mem hx
    simp [hb i hi]
  simp [badAt, e]
theorem badAt_one (l : List (Int × Int)) : decide (0 ≤ badAt [l]) = !okT l := by
  cases h : okT l with
  | true => rw [badAt_none (by intro i hi; simp at hi; subst hi; simpa using h)]; rfl
  | false => rw [badAt_some (k := 0) (by simp) (by simpa using h) (by intro i _ hi; omega)]; rfl
theorem badAt_two (a b : List (Int × Int)) : decide (0 ≤ badAt [a, b]) = !(okT a && okT b) := by
  cases h : okT a with
  | false => rw [badAt_some (k := 0) (by simp) (by simpa using h) (by intro i _ hi; omega)]; rfl
  | true =>
    cases h2 : okT b with
    | false =>
      have hx : ∀ i (hi : i < [a, b].length), i < 1 → okT [a, b][i] = true := fun i hi hlt => by
        obtain rfl : i = 0 := by omega
        simpa using h
      rw [badAt_some (k := 1) (by simp) (by simpa using h2) hx]
      rfl
    | true =>
      rw [badAt_none (by
        intro i hi
        simp only [List.length_cons, List.length_nil] at hi
        rcases (by omega : i = 0 ∨ i = 1) with rfl | rfl
        · simpa using h
        · simpa using h2)]
      rfl

/-- The first number that is not 0, or 0. -/
def firstNZ : List Int → Int
  | [] => 0
  | x :: r => if x = 0 then firstNZ r else x
theorem firstNZ_at {xs : List Int} {k : Nat} (hk : k < xs.length) (h : xs[k] ≠ 0) (hb : ∀ i (hi : i < xs.length), i < k → xs[i] = 0) : firstNZ xs = xs[k] := by
  induction xs generalizing k with
  | nil => cases hk
  | cons x r ih =>
    cases k with
    | zero => simp only [List.getElem_cons_zero] at h ⊢; simp [firstNZ, h]
    | succ k =>
      have h0 : x = 0 := hb 0 (by simp) (by omega)
      simp only [firstNZ, h0, if_true, List.getElem_cons_succ]
      exact ih (by simpa using hk) (by simpa using h) (fun i hi hik => hb (i + 1) (Nat.succ_lt_succ hi) (by omega))
theorem firstNZ_none {xs : List Int} (hb : ∀ i (hi : i < xs.length), xs[i] = 0) : firstNZ xs = 0 := by
  induction xs with
  | nil => rfl
  | cons x r ih =>
    have h0 : x = 0 := hb 0 (by simp)
    simp only [firstNZ, h0, if_true]
    exact ih (fun i hi => hb (i + 1) (Nat.succ_lt_succ hi))

/-- The code of tunes: 0, or 1 where one is not valid. -/
noncomputable def codeT (ls : List (List (Int × Int))) : Int := if 0 ≤ badAt ls then 1 else 0
theorem codeT_one (l : List (Int × Int)) : codeT [l] = if okT l then 0 else 1 := by
  have := badAt_one l
  unfold codeT
  cases h : okT l <;> rw [h] at this <;> simp at this <;> simp <;> omega
theorem codeT_two (a b : List (Int × Int)) : codeT [a, b] = if okT a && okT b then 0 else 1 := by
  have := badAt_two a b
  unfold codeT
  cases h : okT a <;> cases h2 : okT b <;> rw [h, h2] at this <;> simp at this <;> simp <;> omega

/-- What is left of a size. -/
def szI (left : Int) (n : Nat) : Int := if left < n then -1 else left - n
def eqN (a b : Int × Int) : Bool := decide (a.1 = b.1) && decide (a.2 = b.2)
theorem eqN_iff {a b : Int × Int} : eqN a b = true ↔ a = b := by rw [Prod.ext_iff]; simp [eqN]
theorem eqN_false {a b : Int × Int} : eqN a b = false ↔ a ≠ b := by rw [ne_eq, ← eqN_iff]; cases eqN a b <;> simp
/-- Are two lists the same? -/
def eqL (a b : List (Int × Int)) : Bool := decide (a = b)
theorem eqL_len {a b : List (Int × Int)} (h : a.length ≠ b.length) : eqL a b = false := by
  simp only [eqL, decide_eq_false_iff_not]; rintro rfl; exact h rfl
theorem eqL_at {a b : List (Int × Int)} {k : Nat} (h1 : k < a.length) (h2 : k < b.length) (h : eqN a[k] b[k] = false) : eqL a b = false := by
  simp only [eqL, decide_eq_false_iff_not]; rintro rfl; exact eqN_false.1 h rfl
theorem eqL_all {a b : List (Int × Int)} (hl : a.length = b.length) (h : ∀ i (h1 : i < a.length) (h2 : i < b.length), eqN a[i] b[i] = true) : eqL a b = true := by
  simp only [eqL, decide_eq_true_eq]; exact List.ext_getElem hl (fun i h1 h2 => eqN_iff.1 (h i h1 h2))
theorem eqL_self (a : List (Int × Int)) : eqL a a = true := by simp [eqL]

/-- The first k of l, zeros behind. -/
def fillL (l : List (Int × Int)) (k : Nat) : List (Int × Int) := l.take k ++ List.replicate (l.length - k) (0, 0)
theorem fillL_len (l : List (Int × Int)) (k : Nat) : (fillL l k).length = l.length := by simp [fillL]; omega
theorem fillL_zero (l : List (Int × Int)) : fillL l 0 = List.replicate l.length (0, 0) := by simp [fillL]
theorem fillL_end (l : List (Int × Int)) : fillL l l.length = l := by simp [fillL]
theorem fillL_set (l : List (Int × Int)) (k : Nat) (h : k < l.length) : (fillL l k).set k l[k] = fillL l (k + 1) := by
  refine List.ext_getElem (by simp [fillL_len]) fun i h1 h2 => ?_
  simp only [List.length_set, fillL_len] at h1
  rw [List.getElem_set]
  by_cases e : k = i
  · subst e; rw [if_pos rfl]; simp only [fillL]; rw [List.getElem_append_left (by simp; omega), List.getElem_take]
  · rw [if_neg e]
    simp only [fillL]
    by_cases hi : i < k
    · rw [List.getElem_append_left (by simp; omega), List.getElem_append_left (by simp; omega), List.getElem_take, List.getElem_take]
    · rw [List.getElem_append_right (by simp; omega), List.getElem_append_right (by simp; omega)]; simp

/-- What the marks write: numbers that count up, cut to the fields' width. -/
def markN (m : Int) (i : Nat) : Int × Int := (IntKind.i16.wrap (m + 2 * i), IntKind.i8.wrap (m + 2 * i + 1))
def markL (n : Nat) (m : Int) : List (Int × Int) := (List.range n).map (markN m)
theorem markL_len (n : Nat) (m : Int) : (markL n m).length = n := by simp [markL]
theorem markL_get (n : Nat) (m : Int) (i : Nat) (h : i < (markL n m).length) : (markL n m)[i] = markN m i := by simp [markL]
def markP (l : List (Int × Int)) (k : Nat) (m : Int) : List (Int × Int) := markL k m ++ l.drop k
theorem markP_len (l : List (Int × Int)) (k : Nat) (m : Int) (h : k ≤ l.length) : (markP l k m).length = l.length := by simp [markP, markL_len]; omega
theorem markP_zero (l : List (Int × Int)) (m : Int) : markP l 0 m = l := by simp [markP, markL]
theorem markP_end (l : List (Int × Int)) (m : Int) : markP l l.length m = markL l.length m := by simp [markP]
theorem markP_set (l : List (Int × Int)) (k : Nat) (m : Int) (h : k < l.length) : (markP l k m).set k (markN m k) = markP l (k + 1) m := by
  refine List.ext_getElem (by simp [markP_len _ _ _ (Nat.le_of_lt h), markP_len _ _ _ h]) fun i h1 h2 => ?_
  simp only [List.length_set, markP_len _ _ _ (Nat.le_of_lt h)] at h1
  rw [List.getElem_set]
  by_cases e : k = i
  · subst e; rw [if_pos rfl]; simp only [markP]; rw [List.getElem_append_left (by simp [markL_len]), markL_get]
  · rw [if_neg e]
    simp only [markP]
    by_cases hi : i < k
    · rw [List.getElem_append_left (by simp [markL_len]; omega), List.getElem_append_left (by simp [markL_len]; omega), markL_get, markL_get]
    · rw [List.getElem_append_right (by simp [markL_len]; omega), List.getElem_append_right (by simp [markL_len]; omega)]; simp only [markL_len, List.getElem_drop]; congr 1; omega

/-- The length of a tune: the step of its last note, plus 1. -/
def lengthL (l : List (Int × Int)) : Int := match l.getLast? with
  | some p => p.1 + 1
  | none => 0
theorem lengthL_nil {l : List (Int × Int)} (h : ¬ 0 < l.length) : lengthL l = 0 := by
  obtain rfl : l = [] := List.eq_nil_of_length_eq_zero (by omega)
  rfl
theorem lengthL_last {l : List (Int × Int)} (h : 0 < l.length) : lengthL l = l[l.length - 1].1 + 1 := by
  simp [lengthL, List.getLast?_eq_getElem?, List.getElem?_eq_getElem (show l.length - 1 < l.length by omega)]

/-- The pitches of a valid tune, as a number of 64 bits. -/
def pitchesL (l : List (Int × Int)) : Int := l.foldl (fun acc p => bits .or .u64 acc (IntKind.u64.wrap (2 ^ p.2.toNat))) 0
theorem pitchesL_snoc (l : List (Int × Int)) (k : Nat) (h : k < l.length) : pitchesL (l.take (k + 1)) = bits .or .u64 (pitchesL (l.take k)) (IntKind.u64.wrap (2 ^ l[k].2.toNat)) := by
  unfold pitchesL; rw [List.take_succ_eq_append_getElem h, List.foldl_append]; rfl

/-! ### what the exported functions return -/
noncomputable def cT (l : List (Int × Int)) : Int := if okT l then 0 else 1
noncomputable def rLengthOf (l : List (Int × Int)) : Int := if okT l then lengthL l else 0
noncomputable def rPitchesOf (l : List (Int × Int)) : Int := if okT l then pitchesL l else 0
noncomputable def rMissingFor (bells : Int) (l : List (Int × Int)) : Int := if okT l then bits .andNot .u64 (pitchesL l) bells else 0
noncomputable def rCanPlay (bells : Int) (l : List (Int × Int)) : Bool := okT l && (bits .andNot .u64 (pitchesL l) bells == 0)

/-! ### a part of a tune -/
def cutL (t : List (Int × Int)) (f g : Int) : List (Int × Int) := (t.filter fun p => inB p.1 f (g - 1)).map fun p => (p.1 - f, p.2)
theorem cutL_snoc (t : List (Int × Int)) (f g : Int) (k : Nat) (h : k < t.length) : cutL (t.take (k + 1)) f g = cutL (t.take k) f g ++ if inB t[k].1 f (g - 1) then [(t[k].1 - f, t[k].2)] else [] := by
  unfold cutL
  rw [List.take_succ_eq_append_getElem h, List.filter_append, List.map_append]
  congr 1
  simp only [List.filter_cons, List.filter_nil]
  split <;> rfl
theorem cutL_yes (t : List (Int × Int)) (f g : Int) (k : Nat) (h : k < t.length) (hb : inB t[k].1 f (g - 1) = true) : cutL (t.take (k + 1)) f g = cutL (t.take k) f g ++ [(t[k].1 - f, t[k].2)] := by
  rw [cutL_snoc t f g k h, if_pos hb]
theorem cutL_no (t : List (Int × Int)) (f g : Int) (k : Nat) (h : k < t.length) (hb : inB t[k].1 f (g - 1) = false) : cutL (t.take (k + 1)) f g = cutL (t.take k) f g := by
  rw [cutL_snoc t f g k h, if_neg (by simp [hb])]; simp
theorem cutL_len (t : List (Int × Int)) (f g : Int) : (cutL t f g).length ≤ t.length := by
  unfold cutL; rw [List.length_map]; exact List.length_filter_le _ _
theorem cutL_zero (t : List (Int × Int)) (f g : Int) : cutL (t.take 0) f g = [] := rfl
noncomputable def cCut (t : List (Int × Int)) (f g : Int) : Int := if okT t then (if 0 ≤ f ∧ f ≤ g ∧ g ≤ 200 then 0 else 2) else 1
noncomputable def rCut (t : List (Int × Int)) (f g : Int) : List (Int × Int) := if okT t then (if 0 ≤ f ∧ f ≤ g ∧ g ≤ 200 then cutL t f g else []) else []
theorem rCut_len (t : List (Int × Int)) (f g : Int) : (rCut t f g).length ≤ t.length := by
  unfold rCut
  split
  · split
    · exact cutL_len t f g
    · simp
  · simp

end Go.Proofs.YtkjpiokmccnhdaaDoor
