/-
  The plain side: what the functions of tunes compute, on lists of pairs (step, pitch). No program and no memory in it.
-/
import Derived.WalkKit
import Derived.Maps.OwnSet
namespace Go.Proofs.YtnakdlfjjeligaaGreat

/-- lo ≤ a ≤ hi, as a Bool. -/
def inB (a lo hi : Int) : Bool := decide (lo ≤ a) && decide (a ≤ hi)
theorem inB_iff {a lo hi : Int} : inB a lo hi = true ↔ lo ≤ a ∧ a ≤ hi := by simp [inB]
theorem inB_not {a lo hi : Int} : inB a lo hi = false ↔ ¬ (lo ≤ a ∧ a ≤ hi) := by
  rw [← inB_iff]; cases inB a lo hi <;> simp

/-- A pair that an int16 and an int8 can hold. -/
def Wn (p : Int × Int) : Prop := -32768 ≤ p.1 ∧ p.1 ≤ 32767 ∧ -128 ≤ p.2 ∧ p.2 ≤ 127
def Wf (l : List (Int × Int)) : Prop := ∀ p ∈ l, Wn p
theorem Wf.get {l : List (Int × Int)} (h : Wf l) {i : Nat} (hi : i < l.length) : Wn l[i] := h _ (List.getElem_mem hi)
theorem Wf.append {a b : List (Int × Int)} (h : Wf a) (k : Wf b) : Wf (a ++ b) := fun p hp => by
  rcases List.mem_append.1 hp with hp | hp
  · exact h p hp
  · exact k p hp
theorem Wf.nil : Wf [] := fun p hp => by cases hp

def okN (p : Int × Int) : Bool := inB p.1 0 199 && inB p.2 0 47
theorem okN_iff {p : Int × Int} : okN p = true ↔ 0 ≤ p.1 ∧ p.1 ≤ 199 ∧ 0 ≤ p.2 ∧ p.2 ≤ 47 := by
  simp only [okN, Bool.and_eq_true, inB_iff]; omega
/-- One note stands before another. -/
def ltN (a b : Int × Int) : Bool := decide (a.1 < b.1) || (decide (a.1 = b.1) && decide (a.2 < b.2))
theorem ltN_iff {a b : Int × Int} : ltN a b = true ↔ a.1 < b.1 ∨ a.1 = b.1 ∧ a.2 < b.2 := by simp [ltN]
/-- What compareNotes says. -/
def cmpI (a b : Int) : Int := if a < b then -1 else if b < a then 1 else 0
def cmpN (a b : Int × Int) : Int := if cmpI a.1 b.1 = 0 then cmpI a.2 b.2 else cmpI a.1 b.1
theorem cmpN_neg {a b : Int × Int} : cmpN a b < 0 ↔ ltN a b = true := by
  rw [ltN_iff]; unfold cmpN cmpI; repeat' split <;> omega
theorem cmpN_zero {a b : Int × Int} : cmpN a b = 0 ↔ a = b := by
  rw [Prod.ext_iff]; unfold cmpN cmpI; repeat' split <;> omega
theorem cmpN_bd (a b : Int × Int) : -1 ≤ cmpN a b ∧ cmpN a b ≤ 1 := by
  unfold cmpN cmpI; repeat' split <;> omega
theorem cmpI_bd (a b : Int) : -1 ≤ cmpI a b ∧ cmpI a b ≤ 1 := by
  unfold cmpI; repeat' split <;> omega

theorem cmpN_ge {a b : Int × Int} : decide (0 ≤ cmpN a b) = !ltN a b := by
  have := @cmpN_neg a b
  cases h : ltN a b <;> rw [h] at this <;> simp at this <;> simp <;> omega

/-- The first k notes are as they may be, and rise. -/
def Pre (l : List (Int × Int)) (k : Nat) : Prop :=
  ∀ i (h : i < l.length), i < k → okN l[i] = true ∧ (0 < i → ltN l[i - 1] l[i] = true)
theorem Pre.zero (l : List (Int × Int)) : Pre l 0 := fun _ _ h => absurd h (by omega)
theorem Pre.succ {l : List (Int × Int)} {k : Nat} (h : Pre l k) (hk : k < l.length) (h1 : okN l[k] = true) (h2 : 0 < k → ltN l[k - 1] l[k] = true) : Pre l (k + 1) := fun i hi hik => by
  by_cases e : i = k
  · subst e; exact ⟨h1, h2⟩
  · exact h i hi (by omega)
open Classical in
noncomputable def okT (l : List (Int × Int)) : Bool := decide (Pre l l.length ∧ l.length ≤ 120)
theorem okT_iff {l : List (Int × Int)} : okT l = true ↔ Pre l l.length ∧ l.length ≤ 120 := by simp [okT]
theorem okT_bad1 {l : List (Int × Int)} {k : Nat} (hk : k < l.length) (h1 : okN l[k] = false) : okT l = false := by
  cases h : okT l with
  | false => rfl
  | true => have := ((okT_iff.1 h).1 k hk hk).1; rw [h1] at this; cases this
theorem okT_bad2 {l : List (Int × Int)} {k : Nat} (hk : k < l.length) (h0 : 0 < k) (h1 : ltN l[k - 1] l[k] = false) : okT l = false := by
  cases h : okT l with
  | false => rfl
  | true => have := ((okT_iff.1 h).1 k hk hk).2 h0; rw [h1] at this; cases this
theorem okT_end {l : List (Int × Int)} (h : Pre l l.length) : okT l = decide (l.length ≤ 120) := by
  rw [Bool.eq_iff_iff, okT_iff]; simp [h]
theorem okT_note {l : List (Int × Int)} (h : okT l = true) {i : Nat} (hi : i < l.length) : 0 ≤ l[i].1 ∧ l[i].1 ≤ 199 ∧ 0 ≤ l[i].2 ∧ l[i].2 ≤ 47 :=
  okN_iff.1 ((okT_iff.1 h).1 i hi hi).1
theorem okT_len {l : List (Int × Int)} (h : okT l = true) : l.length ≤ 120 := (okT_iff.1 h).2

/-- The place of the first tune that is not valid, -1 if there is none. -/
noncomputable def badAt : List (List (Int × Int)) → Int
  | ls => match ls.findIdx? (fun l => !okT l) with
    | some i => i
    | none => -1
theorem badAt_some {ls : List (List (Int × Int))} {k : Nat} (hk : k < ls.length) (h : okT ls[k] = false) (hb : ∀ i (hi : i < ls.length), i < k → okT ls[i] = true) : badAt ls = k := by
  have e : ls.findIdx? (fun l => !okT l) = some k := by
    rw [List.findIdx?_eq_some_iff_getElem]
    exact ⟨hk, by simp [h], fun j hj => by simp [hb j (by omega) hj]⟩
  simp [badAt, e]
theorem badAt_none {ls : List (List (Int × Int))} (hb : ∀ i (hi : i < ls.length), okT ls[i] = true) : badAt ls = -1 := by
  have e : ls.findIdx? (fun l => !okT l) = none := by
    rw [List.findIdx?_eq_none_iff]
    intro x hx
    obtain ⟨i, hi, rfl⟩ := List.getElem_of_mem hx
    simp [hb i hi]
  simp [badAt, e]
theorem badAt_one (l : List (Int × Int)) : decide (0 ≤ badAt [l]) = !okT l := by
  cases h : okT l with
  | true => rw [badAt_none (by intro i hi; simp at hi; subst hi; simpa using h)]; rfl
  | false => rw [badAt_some (k := 0) (by simp) (by simpa using h) (by intro i _ hi; omega)]; rfl
theorem badAt_two (a b : List (Int × Int)) : decide (0 ≤ badAt [a, b]) = !(okT a && okT b) := by
  cases h : okT a with
  | false => rw [badAt_some (k := 0) (by simp) (by simpa using h) (by intro i _ hi; omega)]; rfl
  | true =>
    cases h2 : okT b with
    | false =>
      have hx : ∀ i (hi : i < [a, b].length), i < 1 → okT [a, b][i] = true := fun i hi hlt => by
        obtain rfl : i = 0 := by omega
        simpa using h
      rw [badAt_some (k := 1) (by simp) (by simpa using h2) hx]
      rfl
    | true =>
      rw [badAt_none (by
        intro i hi
        simp only [List.length_cons, List.length_nil] at hi
        rcases (by omega : i = 0 ∨ i = 1) with rfl | rfl
        · simpa using h
        · simpa using h2)]
      rfl

/-- The first number that is not 0, or 0. -/
def firstNZ : List Int → Int
  | [] => 0
  | x :: r => if x = 0 then firstNZ r else x
theorem firstNZ_at {xs : List Int} {k : Nat} (hk : k < xs.length) (h : xs[k] ≠ 0) (hb : ∀ i (hi : i < xs.length), i < k → xs[i] = 0) : firstNZ xs = xs[k] := by
  induction xs generalizing k with
  | nil => cases hk
  | cons x r ih =>
    cases k with
    | zero => simp only [List.getElem_cons_zero] at h ⊢; simp [firstNZ, h]
    | succ k =>
      have h0 : x = 0 := hb 0 (by simp) (by omega)
      simp only [firstNZ, h0, if_true, List.getElem_cons_succ]
      exact ih (by simpa using hk) (by simpa using h) (fun i hi hik => hb (i + 1) (Nat.succ_lt_succ hi) (by omega))
theorem firstNZ_none {xs : List Int} (hb : ∀ i (hi : i < xs.length), xs[i] = 0) : firstNZ xs = 0 := by
  induction xs with
  | nil => rfl
  | cons x r ih =>
    have h0 : x = 0 := hb 0 (by simp)
    simp only [firstNZ, h0, if_true]
    exact ih (fun i hi => hb (i + 1) (Nat.succ_lt_succ hi))

/-- The code of tunes: 0, or 1 where one is not valid. -/
noncomputable def codeT (ls : List (List (Int × Int))) : Int := if 0 ≤ badAt ls then 1 else 0
theorem codeT_one (l : List (Int × Int)) : codeT [l] = if okT l then 0 else 1 := by
  have := badAt_one l
  unfold codeT
  cases h : okT l <;> rw [h] at this <;> simp at this <;> simp <;> omega
theorem codeT_two (a b : List (Int × Int)) : codeT [a, b] = if okT a && okT b then 0 else 1 := by
  have := badAt_two a b
  unfold codeT
  cases h : okT a <;> cases h2 : okT b <;> rw [h, h2] at this <;> simp at this <;> simp <;> omega

/-- What is left of a size. -/
def szI (left : Int) (n : Nat) : Int := if left < n then -1 else left - n
def eqN (a b : Int × Int) : Bool := decide (a.1 = b.1) && decide (a.2 = b.2)
theorem eqN_iff {a b : Int × Int} : eqN a b = true ↔ a = b := by rw [Prod.ext_iff]; simp [eqN]
theorem eqN_false {a b : Int × Int} : eqN a b = false ↔ a ≠ b := by rw [ne_eq, ← eqN_iff]; cases eqN a b <;> simp
/-- Are two lists the same? -/
def eqL (a b : List (Int × Int)) : Bool := decide (a = b)
theorem eqL_len {a b : List (Int × Int)} (h : a.length ≠ b.length) : eqL a b = false := by
  simp only [eqL, decide_eq_false_iff_not]; rintro rfl; exact h rfl
theorem eqL_at {a b : List (Int × Int)} {k : Nat} (h1 : k < a.length) (h2 : k < b.length) (h : eqN a[k] b[k] = false) : eqL a b = false := by
  simp only [eqL, decide_eq_false_iff_not]; rintro rfl; exact eqN_false.1 h rfl
theorem eqL_all {a b : List (Int × Int)} (hl : a.length = b.length) (h : ∀ i (h1 : i < a.length) (h2 : i < b.length), eqN a[i] b[i] = true) : eqL a b = true := by
  simp only [eqL, decide_eq_true_eq]; exact List.ext_getElem hl (fun i h1 h2 => eqN_iff.1 (h i h1 h2))
theorem eqL_self (a : List (Int × Int)) : eqL a a = true := by simp [eqL]

/-- The first k of l, zeros behind. -/
def fillL (l : List (Int × Int)) (k : Nat) : List (Int × Int) := l.take k ++ List.replicate (l.length - k) (0, 0)
theorem fillL_len (l : List (Int × Int)) (k : Nat) : (fillL l k).length = l.length := by simp [fillL]; omega
theorem fillL_zero (l : List (Int × Int)) : fillL l 0 = List.replicate l.length (0, 0) := by simp [fillL]
theorem fillL_end (l : List (Int × Int)) : fillL l l.length = l := by simp [fillL]
theorem fillL_set (l : List (Int × Int)) (k : Nat) (h : k < l.length) : (fillL l k).set k l[k] = fillL l (k + 1) := by
  refine List.ext_getElem (by simp [fillL_len]) fun i h1 h2 => ?_
  simp only [List.length_set, fillL_len] at h1
  rw [List.getElem_set]
  by_cases e : k = i
  · subst e; rw [if_pos rfl]; simp only [fillL]; rw [List.getElem_append_left (by simp; omega), List.getElem_take]
  · rw [if_neg e]
    simp only [fillL]
    by_cases hi : i < k
    · rw [List.getElem_append_left (by simp; omega), List.getElem_append_left (by simp; omega), List.getElem_take, List.getElem_take]
    · rw [List.getElem_append_right (by simp; omega), List.getElem_append_right (by simp; omega)]; simp

/-- What the marks write: numbers that count up, cut to the fields' width. -/
def markN (m : Int) (i : Nat) : Int × Int := (IntKind.i16.wrap (m + 2 * i), IntKind.i8.wrap (m + 2 * i + 1))
def markL (n : Nat) (m : Int) : List (Int × Int) := (List.range n).map (markN m)
theorem markL_len (n : Nat) (m : Int) : (markL n m).length = n := by simp [markL]
theorem markL_get (n : Nat) (m : Int) (i : Nat) (h : i < (markL n m).length) : (markL n m)[i] = markN m i := by simp [markL]
def markP (l : List (Int × Int)) (k : Nat) (m : Int) : List (Int × Int) := markL k m ++ l.drop k
theorem markP_len (l : List (Int × Int)) (k : Nat) (m : Int) (h : k ≤ l.length) : (markP l k m).length = l.length := by simp [markP, markL_len]; omega
theorem markP_zero (l : List (Int × Int)) (m : Int) : markP l 0 m = l := by simp [markP, markL]
theorem markP_end (l : List (Int × Int)) (m : Int) : markP l l.length m = markL l.length m := by simp [markP]
theorem markP_set (l : List (Int × Int)) (k : Nat) (m : Int) (h : k < l.length) : (markP l k m).set k (markN m k) = markP l (k + 1) m := by
  refine List.ext_getElem (by simp [markP_len _ _ _ (Nat.le_of_lt h), markP_len _ _ _ h]) fun i h1 h2 => ?_
  simp only [List.length_set, markP_len _ _ _ (Nat.le_of_lt h)] at h1
  rw [List.getElem_set]
  by_cases e : k = i
  · subst e; rw [if_pos rfl]; simp only [markP]; rw [List.getElem_append_left (by simp [markL_len]), markL_get]
  · rw [if_neg e]
    simp only [markP]
    by_cases hi : i < k
    · rw [List.getElem_append_left (by simp [markL_len]; omega), List.getElem_append_left (by simp [markL_len]; omega), markL_get, markL_get]
    · rw [List.getElem_append_right (by simp [markL_len]; omega), List.getElem_append_right (by simp [markL_len]; omega)]; simp only [markL_len, List.getElem_drop]; congr 1; omega

/-- The length of a tune: the step of its last note, plus 1. -/
def lengthL (l : List (Int × Int)) : Int := match l.getLast? with
  | some p => p.1 + 1
  | none => 0
theorem lengthL_nil {l : List (Int × Int)} (h : ¬ 0 < l.length) : lengthL l = 0 := by
  obtain rfl : l = [] := List.eq_nil_of_length_eq_zero (by omega)
  rfl
theorem lengthL_last {l : List (Int × Int)} (h : 0 < l.length) : lengthL l = l[l.length - 1].1 + 1 := by
  simp [lengthL, List.getLast?_eq_getElem?, List.getElem?_eq_getElem (show l.length - 1 < l.length by omega)]

/-- The pitches of a valid tune, as a number of 64 bits. -/
def pitchesL (l : List (Int × Int)) : Int := l.foldl (fun acc p => bits .or .u64 acc (IntKind.u64.wrap (2 ^ p.2.toNat))) 0
theorem pitchesL_snoc (l : List (Int × Int)) (k : Nat) (h : k < l.length) : pitchesL (l.take (k + 1)) = bits .or .u64 (pitchesL (l.take k)) (IntKind.u64.wrap (2 ^ l[k].2.toNat)) := by
  unfold pitchesL; rw [List.take_succ_eq_append_getElem h, List.foldl_append]; rfl

/-! ### what the exported functions return -/
noncomputable def cT (l : List (Int × Int)) : Int := if okT l then 0 else 1
noncomputable def rLengthOf (l : List (Int × Int)) : Int := if okT l then lengthL l else 0
noncomputable def rPitchesOf (l : List (Int × Int)) : Int := if okT l then pitchesL l else 0
noncomputable def rMissingFor (bells : Int) (l : List (Int × Int)) : Int := if okT l then bits .andNot .u64 (pitchesL l) bells else 0
noncomputable def rCanPlay (bells : Int) (l : List (Int × Int)) : Bool := okT l && (bits .andNot .u64 (pitchesL l) bells == 0)

/-! ### a part of a tune -/
def cutL (t : List (Int × Int)) (f g : Int) : List (Int × Int) := (t.filter fun p => inB p.1 f (g - 1)).map fun p => (p.1 - f, p.2)
theorem cutL_snoc (t : List (Int × Int)) (f g : Int) (k : Nat) (h : k < t.length) : cutL (t.take (k + 1)) f g = cutL (t.take k) f g ++ if inB t[k].1 f (g - 1) then [(t[k].1 - f, t[k].2)] else [] := by
  unfold cutL
  rw [List.take_succ_eq_append_getElem h, List.filter_append, List.map_append]
  congr 1
  simp only [List.filter_cons, List.filter_nil]
  split <;> rfl
theorem cutL_yes (t : List (Int × Int)) (f g : Int) (k : Nat) (h : k < t.length) (hb : inB t[k].1 f (g - 1) = true) : cutL (t.take (k + 1)) f g = cutL (t.take k) f g ++ [(t[k].1 - f, t[k].2)] := by
  rw [cutL_snoc t f g k h, if_pos hb]
theorem cutL_no (t : List (Int × Int)) (f g : Int) (k : Nat) (h : k < t.length) (hb : inB t[k].1 f (g - 1) = false) : cutL (t.take (k + 1)) f g = cutL (t.take k) f g := by
  rw [cutL_snoc t f g k h, if_neg (by simp [hb])]; simp
theorem cutL_len (t : List (Int × Int)) (f g : Int) : (cutL t f g).length ≤ t.length := by
  unfold cutL; rw [List.length_map]; exact List.length_filter_le _ _
theorem cutL_zero (t : List (Int × Int)) (f g : Int) : cutL (t.take 0) f g = [] := rfl
noncomputable def cCut (t : List (Int × Int)) (f g : Int) : Int := if okT t then (if 0 ≤ f ∧ f ≤ g ∧ g ≤ 200 then 0 else 2) else 1
noncomputable def rCut (t : List (Int × Int)) (f g : Int) : List (Int × Int) := if okT t then (if 0 ≤ f ∧ f ≤ g ∧ g ≤ 200 then cutL t f g else []) else []
theorem rCut_len (t : List (Int × Int)) (f g : Int) : (rCut t f g).length ≤ t.length := by
  unfold rCut
  split
  · split
    · exact cutL_len t f g
    · simp
  · simp

end Go.Proofs.YtnakdlfjjeligaaGreat

/-
  The plain side of the notes that two tunes have in common. No program and no memory in it.
-/
namespace Go.Proofs.YtnakdlfjjeligaaGreat
set_option linter.unusedVariables false
set_option linter.unusedSimpArgs false

theorem ltN_trans {a b c : Int × Int} (h : ltN a b = true) (k : ltN b c = true) : ltN a c = true := by
  rw [ltN_iff] at *; omega
theorem ltN_irrefl (a : Int × Int) : ltN a a = false := by
  cases h : ltN a a with
  | false => rfl
  | true => rw [ltN_iff] at h; omega
/-- A valid tune rises. -/
theorem okT_lt {l : List (Int × Int)} (h : okT l = true) : ∀ {i j : Nat} (hj : j < l.length) (hij : i < j), ltN (l[i]'(by omega)) l[j] = true := by
  intro i j
  induction j with
  | zero => intro _ h; omega
  | succ j ih =>
    intro hj hij
    have h1 := ((okT_iff.1 h).1 (j + 1) hj hj).2 (by omega)
    simp only [Nat.add_sub_cancel] at h1
    by_cases e : i = j
    · subst e; exact h1
    · exact ltN_trans (ih (by omega) (by omega)) h1
theorem okT_nodup {l : List (Int × Int)} (h : okT l = true) : l.Nodup := by
  refine List.pairwise_iff_getElem.2 fun i j hi hj hij e => ?_
  have := okT_lt h hj hij
  rw [e, ltN_irrefl] at this
  cases this

theorem cmpN_lt (a b : Int × Int) : decide (cmpN a b < 0) = ltN a b := by
  have := @cmpN_neg a b
  cases h : ltN a b <;> rw [h] at this <;> simp at this <;> simp <;> omega
theorem cmpN_eq (a b : Int × Int) : (cmpN a b == 0) = decide (a = b) := by
  have := @cmpN_zero a b
  by_cases h : a = b
  · rw [this.2 h]; simp [h]
  · have h2 : ¬ cmpN a b = 0 := fun e => h (this.1 e)
    simp [h, h2]

/-- How many notes of l stand before t. -/
def lbound (l : List (Int × Int)) (t : Int × Int) : Nat := l.countP fun p => ltN p t
theorem lbound_eq {l : List (Int × Int)} {t : Int × Int} {i : Nat} (hi : i ≤ l.length) (h1 : ∀ x (hx : x < l.length), x < i → ltN l[x] t = true) (h2 : ∀ x (hx : x < l.length), i ≤ x → ltN l[x] t = false) : lbound l t = i := by
  unfold lbound
  rw [← List.take_append_drop i l, List.countP_append]
  have e1 : (l.take i).countP (fun p => ltN p t) = i := by
    have : (l.take i).length = i := by simp; omega
    conv => rhs; rw [← this]
    rw [List.countP_eq_length]
    intro p hp
    obtain ⟨x, hx, rfl⟩ := List.getElem_of_mem hp
    rw [List.getElem_take]
    simp at hx
    exact h1 x (by omega) (by omega)
  have e2 : (l.drop i).countP (fun p => ltN p t) = 0 := by
    rw [List.countP_eq_zero]
    intro p hp
    obtain ⟨x, hx, rfl⟩ := List.getElem_of_mem hp
    rw [List.getElem_drop]
    simp at hx
    simp [h2 (i + x) (by omega) (by omega)]
  rw [e1, e2, Nat.add_zero]
/-- A note is in a valid tune just where the search says. -/
theorem mem_search {l : List (Int × Int)} {t : Int × Int} (hok : okT l = true) {i : Nat} (hi : i ≤ l.length) (h1 : ∀ x (hx : x < l.length), x < i → ltN l[x] t = true) (h2 : ∀ x (hx : x < l.length), i ≤ x → ltN l[x] t = false) :
    t ∈ l ↔ ∃ h : i < l.length, l[i] = t := by
  constructor
  · intro hm
    obtain ⟨x, hx, rfl⟩ := List.getElem_of_mem hm
    have hxi : ¬ x < i := fun h => by have := h1 x hx h; rw [ltN_irrefl] at this; cases this
    by_cases e : x = i
    · subst e; exact ⟨hx, rfl⟩
    · have := h2 i (by omega) (Nat.le_refl _)
      rw [okT_lt hok hx (by omega)] at this
      cases this
  · rintro ⟨h, rfl⟩
    exact List.getElem_mem h

/-- How many notes of b, moved by s steps, are notes of a. -/
noncomputable def commonL (a b : List (Int × Int)) (s : Int) : Nat := b.countP fun q => decide ((q.1 + s, q.2) ∈ a)
theorem commonL_le (a b : List (Int × Int)) (s : Int) : commonL a b s ≤ b.length := List.countP_le_length
/-- One note of a, met in b. -/
def metL (p : Int × Int) (b : List (Int × Int)) (s : Int) : Nat := b.countP fun q => decide (p.2 = q.2) && decide (p.1 = q.1 + s)
theorem metL_le (p : Int × Int) (b : List (Int × Int)) (s : Int) : metL p b s ≤ b.length := List.countP_le_length
theorem metL_snoc (p : Int × Int) (b : List (Int × Int)) (s : Int) (k : Nat) (h : k < b.length) : metL p (b.take (k + 1)) s = metL p (b.take k) s + if decide (p.2 = b[k].2) && decide (p.1 = b[k].1 + s) then 1 else 0 := by
  unfold metL
  rw [List.take_succ_eq_append_getElem h, List.countP_append, List.countP_singleton]
def sumL (a b : List (Int × Int)) (s : Int) : Nat := (a.map fun p => metL p b s).sum
theorem sumL_snoc (a b : List (Int × Int)) (s : Int) (k : Nat) (h : k < a.length) : sumL (a.take (k + 1)) b s = sumL (a.take k) b s + metL a[k] b s := by
  unfold sumL
  rw [List.take_succ_eq_append_getElem h, List.map_append, List.sum_append]
  simp
theorem sumL_le (a b : List (Int × Int)) (s : Int) : sumL a b s ≤ a.length * b.length := by
  unfold sumL
  induction a with
  | nil => simp
  | cons p a ih => simp only [List.map_cons, List.sum_cons, List.length_cons]; have := metL_le p b s; rw [Nat.add_mul]; omega
theorem sumL_take_le (a b : List (Int × Int)) (s : Int) (k : Nat) : sumL (a.take k) b s ≤ a.length * b.length :=
  Nat.le_trans (sumL_le _ _ _) (Nat.mul_le_mul_right _ (by simp; omega))
theorem sumL_eq {a : List (Int × Int)} (b : List (Int × Int)) (s : Int) (h : a.Nodup) : sumL a b s = commonL a b s := by
  unfold sumL commonL
  induction a with
  | nil => simp
  | cons p a ih =>
    have hp := List.nodup_cons.1 h
    simp only [List.map_cons, List.sum_cons]
    rw [ih hp.2]
    unfold metL
    clear ih
    induction b with
    | nil => rfl
    | cons q b ihb =>
      simp only [List.countP_cons]
      have key : (if (decide (p.2 = q.2) && decide (p.1 = q.1 + s)) = true then 1 else 0) + (if decide ((q.1 + s, q.2) ∈ a) = true then 1 else 0) = (if decide ((q.1 + s, q.2) ∈ p :: a) = true then (1 : Nat) else 0) := by
        by_cases h1 : p = (q.1 + s, q.2)
        · have h2 : ¬ (q.1 + s, q.2) ∈ a := h1 ▸ hp.1
          have h3 : p.1 = q.1 + s ∧ p.2 = q.2 := by rw [h1]; exact ⟨rfl, rfl⟩
          simp [h2, h3.1, h3.2, h1]
        · have h3 : ¬ (p.2 = q.2 ∧ p.1 = q.1 + s) := fun h => h1 (Prod.ext h.2 h.1)
          have h4 : ¬ (q.1 + s, q.2) = p := fun h => h1 h.symm
          by_cases h2 : (q.1 + s, q.2) ∈ a
          · simp [h2, h4]; intro e1 e2; exact absurd ⟨e1, e2⟩ h3
          · simp [h2, h4]; intro e1 e2; exact absurd ⟨e1, e2⟩ h3
      omega
noncomputable def cTT (a b : List (Int × Int)) : Int := if okT a && okT b then 0 else 1
noncomputable def rCommonNotes (a b : List (Int × Int)) : Int := if okT a && okT b then (commonL a b 0 : Int) else 0
theorem commonL_snoc (a b : List (Int × Int)) (s : Int) (k : Nat) (h : k < b.length) : commonL a (b.take (k + 1)) s = commonL a (b.take k) s + if decide ((b[k].1 + s, b[k].2) ∈ a) then 1 else 0 := by
  unfold commonL
  rw [List.take_succ_eq_append_getElem h, List.countP_append, List.countP_singleton]

end Go.Proofs.YtnakdlfjjeligaaGreat

/-
  The plain side of tunes that are moved, transposed, stretched. No program in it.
-/
namespace Go.Proofs.YtnakdlfjjeligaaGreat
set_option linter.unusedVariables false
set_option linter.unusedSimpArgs false

/-- Are all notes made right ones? -/
def movB (g : Int × Int → Int × Int) (l : List (Int × Int)) : Bool := l.all fun p => okN (g p)
/-- The notes that are made of a list's, none if one of them is none. -/
def movR (g : Int × Int → Int × Int) (l : List (Int × Int)) : List (Int × Int) := if movB g l then l.map g else []
theorem movB_bad {g : Int × Int → Int × Int} {l : List (Int × Int)} {k : Nat} (hk : k < l.length) (h : okN (g l[k]) = false) : movB g l = false := by
  unfold movB; rw [List.all_eq_false]; exact ⟨l[k], List.getElem_mem hk, by simp [h]⟩
theorem movB_all {g : Int × Int → Int × Int} {l : List (Int × Int)} (h : ∀ i (hi : i < l.length), okN (g l[i]) = true) : movB g l = true := by
  unfold movB; rw [List.all_eq_true]; intro x hx; obtain ⟨i, hi, rfl⟩ := List.getElem_of_mem hx; exact h i hi
theorem movR_len (g : Int × Int → Int × Int) (l : List (Int × Int)) : (movR g l).length ≤ l.length := by unfold movR; split <;> simp
theorem okN_and {a p : Int} : okN (a, p) = (inB a 0 199 && inB p 0 47) := rfl
/-- Notes that are made in order are a tune. -/
theorem movR_ok {g : Int × Int → Int × Int} {l : List (Int × Int)} (hl : okT l = true) (hb : movB g l = true) (hm : ∀ p q, okN p = true → okN q = true → okN (g p) = true → okN (g q) = true → ltN p q = true → ltN (g p) (g q) = true) : okT (l.map g) = true := by
  have hb2 : ∀ p ∈ l, okN (g p) = true := by unfold movB at hb; rw [List.all_eq_true] at hb; exact hb
  have ho := (okT_iff.1 hl).1
  rw [okT_iff]
  refine ⟨fun i hi hi2 => ?_, by rw [List.length_map]; exact okT_len hl⟩
  rw [List.length_map] at hi
  refine ⟨by rw [List.getElem_map]; exact hb2 _ (List.getElem_mem hi), fun h0 => ?_⟩
  rw [List.getElem_map, List.getElem_map]
  exact hm _ _ (ho (i - 1) (by omega) (by omega)).1 (ho i hi (by omega)).1 (hb2 _ (List.getElem_mem (by omega))) (hb2 _ (List.getElem_mem hi)) ((ho i hi (by omega)).2 h0)

/-- Steps and pitches with something added. -/
def addG (s p : Int) (x : Int × Int) : Int × Int := (x.1 + s, x.2 + p)
theorem addG_mono (s p : Int) {x y : Int × Int} (h : ltN x y = true) : ltN (addG s p x) (addG s p y) = true := by
  rw [ltN_iff] at h ⊢
  unfold addG
  rcases h with h | ⟨h1, h2⟩
  · left; simp only []; omega
  · right; simp only []; exact ⟨by omega, by omega⟩
/-- Steps times n over d; -1 where that is none. -/
def strG (n d : Int) (x : Int × Int) : Int × Int := if (x.1 * n) % d = 0 then (x.1 * n / d, x.2) else (-1, x.2)
theorem strG_mono {n d : Int} (hn : 1 ≤ n) (hd : 1 ≤ d) {x y : Int × Int} (hx : okN (strG n d x) = true) (hy : okN (strG n d y) = true) (h : ltN x y = true) : ltN (strG n d x) (strG n d y) = true := by
  unfold strG at hx hy ⊢
  by_cases h1 : (x.1 * n) % d = 0
  · by_cases h2 : (y.1 * n) % d = 0
    · rw [if_pos h1, if_pos h2]
      rw [ltN_iff] at h ⊢
      rcases h with h | ⟨h3, h4⟩
      · left
        simp only []
        have e1 := Int.mul_ediv_cancel' (Int.dvd_of_emod_eq_zero h1)
        have e2 := Int.mul_ediv_cancel' (Int.dvd_of_emod_eq_zero h2)
        have h5 : x.1 * n < y.1 * n := Int.mul_lt_mul_of_pos_right h (by omega)
        rw [← e1, ← e2] at h5
        exact Int.lt_of_mul_lt_mul_left h5 (by omega)
      · right
        simp only []
        exact ⟨by rw [h3], h4⟩
    · rw [if_neg h2] at hy; exact absurd (okN_iff.1 hy).1 (by simp)
  · rw [if_neg h1] at hx; exact absurd (okN_iff.1 hx).1 (by simp)

/-- What MoveTune, Transpose and Stretched give: the notes, and the code. -/
noncomputable def cMove (l : List (Int × Int)) (ok : Bool) (bad : Int) (g : Int × Int → Int × Int) : Int := if okT l then (if ok then (if movB g l then 0 else 4) else bad) else 1
noncomputable def rMove (l : List (Int × Int)) (ok : Bool) (bad : Int) (g : Int × Int → Int × Int) : List (Int × Int) := if okT l && ok then movR g l else []
theorem rMove_len (l : List (Int × Int)) (ok : Bool) (bad : Int) (g : Int × Int → Int × Int) : (rMove l ok bad g).length ≤ l.length := by
  unfold rMove; split
  · exact movR_len g l
  · simp

end Go.Proofs.YtnakdlfjjeligaaGreat

/-
  Lists of notes put in order, equal ones being made one. Plain: no program in it.
-/
namespace Go.Proofs.YtnakdlfjjeligaaGreat
set_option linter.unusedVariables false
set_option linter.unusedSimpArgs false

/-- A list that rises. -/
def Rise (l : List (Int × Int)) : Prop := l.Pairwise fun a b => ltN a b = true
theorem Rise.nil : Rise [] := List.Pairwise.nil
theorem ltN_asymm {a b : Int × Int} (h : ltN a b = true) (k : ltN b a = true) : False := by
  have := ltN_trans h k; rw [ltN_irrefl] at this; cases this
theorem ltN_total {a b : Int × Int} (h : ltN a b = false) (k : ltN b a = false) : a = b := by
  rw [← Bool.not_eq_true, ltN_iff] at h k
  apply Prod.ext <;> omega
theorem Rise.at {l : List (Int × Int)} (h : Rise l) {i j : Nat} (hj : j < l.length) (hij : i < j) : ltN (l[i]'(by omega)) l[j] = true := List.pairwise_iff_getElem.1 h i j (by omega) hj hij
theorem Rise.unique {a b : List (Int × Int)} (ha : Rise a) (hb : Rise b) (h : ∀ x, x ∈ a ↔ x ∈ b) : a = b := by
  induction a generalizing b with
  | nil =>
    cases b with
    | nil => rfl
    | cons y b => exact absurd ((h y).2 (by simp)) (by simp)
  | cons x a ih =>
    cases b with
    | nil => exact absurd ((h x).1 (by simp)) (by simp)
    | cons y b =>
      unfold Rise at ha hb
      rw [List.pairwise_cons] at ha hb
      have hxy : x = y := by
        have h1 := (h x).1 (by simp)
        have h2 := (h y).2 (by simp)
        rw [List.mem_cons] at h1 h2
        rcases h1 with h1 | h1
        · exact h1
        · rcases h2 with h2 | h2
          · exact h2.symm
          · exact (ltN_asymm (ha.1 y h2) (hb.1 x h1)).elim
      subst hxy
      rw [ih ha.2 hb.2 (fun z => ?_)]
      constructor
      · intro hz
        have h1 := (h z).1 (by simp [hz])
        rw [List.mem_cons] at h1
        rcases h1 with h1 | h1
        · subst h1; have := ha.1 z hz; rw [ltN_irrefl] at this; cases this
        · exact h1
      · intro hz
        have h1 := (h z).2 (by simp [hz])
        rw [List.mem_cons] at h1
        rcases h1 with h1 | h1
        · subst h1; have := hb.1 z hz; rw [ltN_irrefl] at this; cases this
        · exact h1

/-! ### put into its place -/
/-- The first place whose note does not stand before x, from k on. -/
def placeGo (l : List (Int × Int)) (x : Int × Int) : Nat → Nat → Nat
  | k, 0 => k
  | k, n + 1 => if h : k < l.length then (if ltN l[k] x then placeGo l x (k + 1) n else k) else k
def placeU (l : List (Int × Int)) (x : Int × Int) : Nat := placeGo l x 0 l.length
theorem placeGo_spec (l : List (Int × Int)) (x : Int × Int) (n k : Nat) (hk : k + n = l.length) (hb : ∀ j (hj : j < l.length), j < k → ltN l[j] x = true) :
    placeGo l x k n ≤ l.length ∧ (∀ j (hj : j < l.length), j < placeGo l x k n → ltN l[j] x = true) ∧ ∀ (h : placeGo l x k n < l.length), ltN l[placeGo l x k n] x = false := by
  induction n generalizing k with
  | zero => unfold placeGo; exact ⟨by omega, hb, fun h => absurd h (by omega)⟩
  | succ n ih =>
    have hlt : k < l.length := by omega
    have hd : placeGo l x k (n + 1) = if ltN l[k] x then placeGo l x (k + 1) n else k := by rw [placeGo, dif_pos hlt]
    rcases hx : ltN l[k] x with _ | _
    · rw [hx] at hd
      have hd2 : placeGo l x k (n + 1) = k := hd
      simp only [hd2]
      exact ⟨by omega, hb, fun _ => hx⟩
    · rw [hx] at hd
      have hd2 : placeGo l x k (n + 1) = placeGo l x (k + 1) n := hd
      simp only [hd2]
      refine ih (k + 1) (by omega) (fun j hj hjk => ?_)
      by_cases e : j = k
      · subst e; exact hx
      · exact hb j hj (by omega)
theorem placeU_spec (l : List (Int × Int)) (x : Int × Int) : placeU l x ≤ l.length ∧ (∀ j (hj : j < l.length), j < placeU l x → ltN l[j] x = true) ∧ ∀ (h : placeU l x < l.length), ltN l[placeU l x] x = false :=
  placeGo_spec l x l.length 0 (by omega) (fun _ _ h => absurd h (by omega))
/-- The place is where the search stands still. -/
theorem placeU_eq {l : List (Int × Int)} {x : Int × Int} {k : Nat} (hk : k ≤ l.length) (h1 : ∀ j (hj : j < l.length), j < k → ltN l[j] x = true) (h2 : ∀ (h : k < l.length), ltN l[k] x = false) : placeU l x = k := by
  obtain ⟨p1, p2, p3⟩ := placeU_spec l x
  rcases Nat.lt_trichotomy (placeU l x) k with h | h | h
  · have a1 := p3 (by omega)
    rw [h1 _ (by omega) h] at a1
    cases a1
  · exact h
  · have a1 := h2 (by omega)
    rw [p2 _ (by omega) h] at a1
    cases a1
def insU (l : List (Int × Int)) (x : Int × Int) : List (Int × Int) := if l[placeU l x]? = some x then l else l.take (placeU l x) ++ [x] ++ l.drop (placeU l x)
def sortU (l : List (Int × Int)) : List (Int × Int) := l.foldl insU []
theorem sortU_nil : sortU [] = [] := rfl
theorem sortU_snoc (l : List (Int × Int)) (k : Nat) (h : k < l.length) : sortU (l.take (k + 1)) = insU (sortU (l.take k)) l[k] := by
  unfold sortU; rw [List.take_succ_eq_append_getElem h, List.foldl_append]; rfl
theorem insU_mem (l : List (Int × Int)) (x z : Int × Int) : z ∈ insU l x ↔ z = x ∨ z ∈ l := by
  unfold insU
  split
  · rename_i h
    have hx := List.mem_of_getElem? h
    constructor
    · exact Or.inr
    · rintro (rfl | h)
      · exact hx
      · exact h
  · have h1 : z ∈ l ↔ z ∈ l.take (placeU l x) ∨ z ∈ l.drop (placeU l x) := by
      rw [← List.mem_append, List.take_append_drop]
    rw [h1]
    simp only [List.mem_append, List.mem_cons, List.not_mem_nil, or_false]
    constructor
    · rintro ((h | h) | h)
      · exact Or.inr (Or.inl h)
      · exact Or.inl h
      · exact Or.inr (Or.inr h)
    · rintro (h | h | h)
      · exact Or.inl (Or.inr h)
      · exact Or.inl (Or.inl h)
      · exact Or.inr h
theorem insU_rise {l : List (Int × Int)} (hl : Rise l) (x : Int × Int) : Rise (insU l x) := by
  unfold insU
  split
  · exact hl
  · rename_i h
    obtain ⟨p1, p2, p3⟩ := placeU_spec l x
    have hb : ∀ a ∈ l.take (placeU l x), ltN a x = true := by
      intro a ha
      obtain ⟨i, hi, rfl⟩ := List.getElem_of_mem ha
      rw [List.getElem_take]
      exact p2 i (by simp at hi; omega) (by simp at hi; omega)
    have hc : ∀ a ∈ l.drop (placeU l x), ltN x a = true := by
      intro a ha
      obtain ⟨i, hi, rfl⟩ := List.getElem_of_mem ha
      rw [List.getElem_drop]
      rw [List.length_drop] at hi
      have h0 : placeU l x < l.length := by omega
      have hx : ltN x l[placeU l x] = true := by
        cases hq : ltN x l[placeU l x] with
        | true => rfl
        | false =>
          have := ltN_total hq (p3 h0)
          exact absurd (by rw [List.getElem?_eq_getElem h0, ← this]) h
      by_cases e : i = 0
      · subst e; simpa using hx
      · exact ltN_trans hx (hl.at (by omega) (by omega))
    unfold Rise
    rw [List.append_assoc, List.pairwise_append]
    refine ⟨hl.sublist (List.take_sublist _ _), ?_, ?_⟩
    · rw [List.singleton_append, List.pairwise_cons]
      exact ⟨hc, hl.sublist (List.drop_sublist _ _)⟩
    · intro a ha b hb2
      rw [List.singleton_append, List.mem_cons] at hb2
      rcases hb2 with rfl | hb2
      · exact hb a ha
      · exact ltN_trans (hb a ha) (hc b hb2)
theorem foldU (l : List (Int × Int)) (a : List (Int × Int)) (ha : Rise a) : Rise (l.foldl insU a) ∧ ∀ z, z ∈ l.foldl insU a ↔ z ∈ a ∨ z ∈ l := by
  induction l generalizing a with
  | nil => exact ⟨ha, fun z => by simp⟩
  | cons x l ih =>
    obtain ⟨h1, h2⟩ := ih (insU a x) (insU_rise ha x)
    refine ⟨h1, fun z => ?_⟩
    rw [List.foldl_cons, h2, insU_mem, List.mem_cons]
    constructor
    · rintro ((h | h) | h)
      · exact Or.inr (Or.inl h)
      · exact Or.inl h
      · exact Or.inr (Or.inr h)
    · rintro (h | h | h)
      · exact Or.inl (Or.inr h)
      · exact Or.inl (Or.inl h)
      · exact Or.inr h
theorem sortU_rise (l : List (Int × Int)) : Rise (sortU l) := (foldU l [] Rise.nil).1
theorem sortU_mem (l : List (Int × Int)) (z : Int × Int) : z ∈ sortU l ↔ z ∈ l := by rw [show sortU l = l.foldl insU [] from rfl, (foldU l [] Rise.nil).2]; simp
theorem insU_len (l : List (Int × Int)) (x : Int × Int) : (insU l x).length ≤ l.length + 1 := by
  unfold insU; split
  · omega
  · simp only [List.length_append, List.length_take, List.length_drop, List.length_cons, List.length_nil]; omega
theorem foldU_len (l a : List (Int × Int)) : (l.foldl insU a).length ≤ a.length + l.length := by
  induction l generalizing a with
  | nil => simp
  | cons x l ih => rw [List.foldl_cons]; have := ih (insU a x); have := insU_len a x; simp only [List.length_cons]; omega
theorem sortU_len (l : List (Int × Int)) : (sortU l).length ≤ l.length := by have := foldU_len l []; simpa [sortU] using this
theorem sortU_of_rise {l : List (Int × Int)} (h : Rise l) : sortU l = l := (sortU_rise l).unique h (sortU_mem l)

/-! ### neighbours that are equal made one -/
def compN (l : List (Int × Int)) : Nat → List (Int × Int)
  | 0 => []
  | k + 1 => if h : k < l.length then (if 0 < k ∧ l[k - 1]? = some l[k] then compN l k else compN l k ++ [l[k]]) else compN l k
theorem compN_keep {l : List (Int × Int)} {k : Nat} (hk : k < l.length) (h : ¬ (0 < k ∧ l[k - 1]? = some l[k])) : compN l (k + 1) = compN l k ++ [l[k]] := by
  rw [compN, dif_pos hk, if_neg h]
theorem compN_skip {l : List (Int × Int)} {k : Nat} (hk : k < l.length) (h : 0 < k ∧ l[k - 1]? = some l[k]) : compN l (k + 1) = compN l k := by
  rw [compN, dif_pos hk, if_pos h]
theorem compN_len (l : List (Int × Int)) (k : Nat) : (compN l k).length ≤ k := by
  induction k with
  | zero => simp [compN]
  | succ k ih =>
    rw [compN]
    split
    · split
      · omega
      · simp; omega
    · omega
theorem compN_spec {l : List (Int × Int)} (hl : l.Pairwise fun a b => ltN b a = false) (k : Nat) (hk : k ≤ l.length) : Rise (compN l k) ∧ ∀ z, z ∈ compN l k ↔ ∃ i, ∃ h : i < l.length, i < k ∧ z = l[i] := by
  induction k with
  | zero => exact ⟨Rise.nil, fun z => ⟨fun h => (by simp [compN] at h), fun ⟨i, _, h, _⟩ => absurd h (by omega)⟩⟩
  | succ k ih =>
    obtain ⟨h1, h2⟩ := ih (by omega)
    have hlt : k < l.length := by omega
    by_cases he : 0 < k ∧ l[k - 1]? = some l[k]
    · rw [compN_skip hlt he]
      refine ⟨h1, fun z => (h2 z).trans ⟨fun ⟨i, hi, hik, hz⟩ => ⟨i, hi, by omega, hz⟩, fun ⟨i, hi, hik, hz⟩ => ?_⟩⟩
      by_cases e : i = k
      · subst e
        obtain ⟨e1, e2⟩ := he
        rw [List.getElem?_eq_getElem (by omega), Option.some_inj] at e2
        exact ⟨i - 1, by omega, by omega, hz.trans e2.symm⟩
      · exact ⟨i, hi, by omega, hz⟩
    · rw [compN_keep hlt he]
      constructor
      · unfold Rise
        rw [List.pairwise_append]
        refine ⟨h1, List.pairwise_singleton _ _, fun a ha b hb => ?_⟩
        rw [List.mem_singleton] at hb
        subst hb
        obtain ⟨i, hi, hik, rfl⟩ := (h2 a).1 ha
        have hp := List.pairwise_iff_getElem.1 hl
        have hkk : ltN l[k] l[k - 1] = false := hp (k - 1) k (by omega) hlt (by omega)
        have hne : l[k - 1] ≠ l[k] := fun e => he ⟨by omega, by rw [List.getElem?_eq_getElem (by omega), e]⟩
        have h3 : ltN l[k - 1] l[k] = true := by
          cases hq : ltN l[k - 1] l[k] with
          | true => rfl
          | false => exact absurd (ltN_total hq hkk) hne
        by_cases e : i = k - 1
        · subst e; exact h3
        · have h4 := hp i (k - 1) hi (by omega) (by omega)
          cases hq : ltN l[i] l[k - 1] with
          | true => exact ltN_trans hq h3
          | false => rw [ltN_total hq h4]; exact h3
      · intro z
        rw [List.mem_append, h2, List.mem_singleton]
        constructor
        · rintro (⟨i, hi, hik, hz⟩ | hz)
          · exact ⟨i, hi, by omega, hz⟩
          · exact ⟨k, hlt, by omega, hz⟩
        · rintro ⟨i, hi, hik, hz⟩
          by_cases e : i = k
          · subst e; exact Or.inr hz
          · exact Or.inl ⟨i, hi, by omega, hz⟩
/-- The kit's sort, then equal neighbours made one: as put into its place one by one. -/
theorem compN_sorted (l m : List (Int × Int)) (hm : m.Pairwise fun a b => ltN b a = false) (hp : m.Perm l) : compN m m.length = sortU l := by
  obtain ⟨h1, h2⟩ := compN_spec hm m.length (Nat.le_refl _)
  refine h1.unique (sortU_rise l) (fun z => ?_)
  rw [h2, sortU_mem, ← hp.mem_iff]
  constructor
  · rintro ⟨i, hi, _, rfl⟩; exact List.getElem_mem hi
  · intro h; obtain ⟨i, hi, rfl⟩ := List.getElem_of_mem h; exact ⟨i, hi, hi, rfl⟩
def mergeN (l : List (Int × Int)) : List (Int × Int) := l.mergeSort fun x y => !(ltN y x)
theorem mergeN_perm (l : List (Int × Int)) : (mergeN l).Perm l := List.mergeSort_perm _ _
theorem mergeN_sorted (l : List (Int × Int)) : (mergeN l).Pairwise fun a b => ltN b a = false := by
  have := List.pairwise_mergeSort (le := fun x y => !(ltN y x)) (fun a b c hab hbc => by
      simp only [Bool.not_eq_true'] at hab hbc ⊢
      rw [← Bool.not_eq_true, ltN_iff] at *; omega) (fun a b => by
      simp only [Bool.or_eq_true, Bool.not_eq_true']
      rw [← Bool.not_eq_true, ← Bool.not_eq_true, ltN_iff, ltN_iff]; omega) l
  exact this.imp (fun h => by simpa using h)
theorem mergeN_comp (l : List (Int × Int)) : compN (mergeN l) (mergeN l).length = sortU l := compN_sorted l _ (mergeN_sorted l) (mergeN_perm l)

/-! ### tunes rise -/
theorem okT_rise {l : List (Int × Int)} (h : okT l = true) : Rise l := List.pairwise_iff_getElem.2 fun i j hi hj hij => okT_lt h hj hij
theorem okT_of_rise {l : List (Int × Int)} (h : Rise l) (hn : ∀ x ∈ l, okN x = true) (hl : l.length ≤ 120) : okT l = true := by
  rw [okT_iff]
  refine ⟨fun i hi _ => ⟨hn _ (List.getElem_mem hi), fun h0 => h.at hi (by omega)⟩, hl⟩
/-- A list of notes put in order is a tune if it is not too long. -/
theorem okT_sortU {l : List (Int × Int)} (hn : ∀ x ∈ l, okN x = true) : okT (sortU l) = decide ((sortU l).length ≤ 120) := by
  rcases hd : decide ((sortU l).length ≤ 120) with _ | _
  · have := of_decide_eq_false hd
    cases hq : okT (sortU l) with
    | false => rfl
    | true => exact absurd (okT_len hq) this
  · exact okT_of_rise (sortU_rise l) (fun x hx => hn x ((sortU_mem l x).1 hx)) (of_decide_eq_true hd)

end Go.Proofs.YtnakdlfjjeligaaGreat

/-
  Neighbours that are equal made one: what the row holds on the way. Plain: no program in it.
-/
namespace Go.Proofs.YtnakdlfjjeligaaGreat
set_option linter.unusedVariables false
set_option linter.unusedSimpArgs false

theorem compN_full {l : List (Int × Int)} (k : Nat) (hk : k ≤ l.length) (h : ∀ i (hi : i < l.length) (h0 : 0 < i), i < k → l[i - 1] ≠ l[i]) : compN l k = l.take k := by
  induction k with
  | zero => simp [compN]
  | succ k ih =>
    have hlt : k < l.length := by omega
    rw [compN_keep hlt (fun ⟨h0, e⟩ => h k hlt h0 (by omega) (by rwa [List.getElem?_eq_getElem (by omega), Option.some_inj] at e)), ih (by omega) (fun i hi h0 hik => h i hi h0 (by omega)), List.take_succ_eq_append_getElem hlt]
theorem compN_short {l : List (Int × Int)} {k : Nat} (hk : k < l.length) (h : 0 < k ∧ l[k - 1]? = some l[k]) (j : Nat) : (compN l (k + 1 + j)).length ≤ k + j := by
  induction j with
  | zero => rw [Nat.add_zero, compN_skip hk h]; exact compN_len l k
  | succ j ih =>
    rw [show k + 1 + (j + 1) = (k + 1 + j) + 1 by omega, compN]
    split
    · split
      · omega
      · simp; omega
    · omega
/-- What the row holds when m are read. -/
def compM (l : List (Int × Int)) (m : Nat) : List (Int × Int) := compN l m ++ l.drop (compN l m).length
theorem compM_len {l : List (Int × Int)} {m : Nat} (hm : m ≤ l.length) : (compM l m).length = l.length := by
  have := compN_len l m
  unfold compM; rw [List.length_append, List.length_drop]; omega
theorem compM_get {l : List (Int × Int)} {m i : Nat} (hm : m ≤ l.length) (hi : (compN l m).length ≤ i) (hil : i < l.length) : (compM l m)[i]'(by rw [compM_len hm]; exact hil) = l[i] := by
  unfold compM
  rw [List.getElem_append_right hi, List.getElem_drop]
  congr 1; omega
theorem compM_step {l : List (Int × Int)} {m : Nat} (hm : m < l.length) (hk : (compN l m).length < m) (h : ¬ (0 < m ∧ l[m - 1]? = some l[m])) : (compM l m).set (compN l m).length l[m] = compM l (m + 1) := by
  unfold compM
  rw [compN_keep hm h, List.length_append, List.length_cons, List.length_nil, List.append_assoc]
  have hd : l.drop (compN l m).length = l[(compN l m).length]'(by omega) :: l.drop ((compN l m).length + 1) := by rw [List.drop_eq_getElem_cons]
  rw [hd, List.set_append_right _ _ (Nat.le_refl _), Nat.sub_self, List.set_cons_zero, List.singleton_append]
theorem compM_same {l : List (Int × Int)} {m : Nat} (hm : m < l.length) (h : 0 < m ∧ l[m - 1]? = some l[m]) : compM l (m + 1) = compM l m := by unfold compM; rw [compN_skip hm h]
theorem compM_take (l : List (Int × Int)) (m : Nat) : (compM l m).take (compN l m).length = compN l m := by unfold compM; rw [List.take_left]

end Go.Proofs.YtnakdlfjjeligaaGreat

/-
  Tunes backward and inverted; joined and sounding together. Plain: no program in it.
-/
namespace Go.Proofs.YtnakdlfjjeligaaGreat
set_option linter.unusedVariables false
set_option linter.unusedSimpArgs false

def backG (n : Int) (x : Int × Int) : Int × Int := (n - 1 - x.1, x.2)
def invG (s : Int) (x : Int × Int) : Int × Int := (x.1, 2 * s - x.2)
theorem lengthL_bd {l : List (Int × Int)} (h : okT l = true) : 0 ≤ lengthL l ∧ lengthL l ≤ 200 := by
  by_cases h0 : 0 < l.length
  · rw [lengthL_last h0]
    have := okT_note h (i := l.length - 1) (by omega)
    omega
  · rw [lengthL_nil h0]; omega
/-- No note lies behind the last one. -/
theorem last_top {l : List (Int × Int)} (h : okT l = true) {i : Nat} (hi : i < l.length) : l[i].1 ≤ lengthL l - 1 := by
  rw [lengthL_last (by omega)]
  by_cases e : i = l.length - 1
  · subst e; omega
  · have := okT_lt h (i := i) (j := l.length - 1) (by omega) (by omega)
    rw [ltN_iff] at this
    omega
theorem movB_back {l : List (Int × Int)} (h : okT l = true) : movB (backG (lengthL l)) l = true := by
  refine movB_all fun i hi => ?_
  have h1 := okT_note h hi
  have h2 := last_top h hi
  have h3 := lengthL_bd h
  rw [okN_iff]
  unfold backG
  simp only []
  omega

end Go.Proofs.YtnakdlfjjeligaaGreat

/-
  What Backward, Inverted, JoinTunes, Together, CanonOf and MakeTune give. Plain: no program in it.
-/
namespace Go.Proofs.YtnakdlfjjeligaaGreat
set_option linter.unusedVariables false
set_option linter.unusedSimpArgs false

noncomputable def cBack (l : List (Int × Int)) : Int := if okT l then 0 else 1
noncomputable def rBack (l : List (Int × Int)) : List (Int × Int) := if okT l then sortU (l.map (backG (lengthL l))) else []
theorem rBack_len (l : List (Int × Int)) : (rBack l).length ≤ l.length := by
  unfold rBack; split
  · exact Nat.le_trans (sortU_len _) (by simp)
  · simp
theorem movR_back {l : List (Int × Int)} (h : okT l = true) : movR (backG (lengthL l)) l = l.map (backG (lengthL l)) := by unfold movR; rw [movB_back h]; rfl
noncomputable def rSort (l : List (Int × Int)) (ok : Bool) (bad : Int) (g : Int × Int → Int × Int) : List (Int × Int) := sortU (rMove l ok bad g)
theorem rSort_len (l : List (Int × Int)) (ok : Bool) (bad : Int) (g : Int × Int → Int × Int) : (rSort l ok bad g).length ≤ l.length := Nat.le_trans (sortU_len _) (rMove_len _ _ _ _)

/-! ### lists put in order, at most 120 of them -/
noncomputable def cLim (l : List (Int × Int)) : Int := if (sortU l).length ≤ 120 then 0 else 3
noncomputable def rLim (l : List (Int × Int)) : List (Int × Int) := if (sortU l).length ≤ 120 then sortU l else []
theorem rLim_len (l : List (Int × Int)) : (rLim l).length ≤ l.length := by
  unfold rLim; split
  · exact sortU_len _
  · simp
noncomputable def cTog (a b : List (Int × Int)) : Int := if okT a && okT b then cLim (a ++ b) else 1
noncomputable def rTog (a b : List (Int × Int)) : List (Int × Int) := if okT a && okT b then rLim (a ++ b) else []
theorem rTog_len (a b : List (Int × Int)) : (rTog a b).length ≤ a.length + b.length := by
  unfold rTog; split
  · exact Nat.le_trans (rLim_len _) (by simp)
  · simp
theorem okN_of_okT {l : List (Int × Int)} (h : okT l = true) {x : Int × Int} (hx : x ∈ l) : okN x = true := by
  obtain ⟨i, hi, rfl⟩ := List.getElem_of_mem hx
  exact okN_iff.2 (okT_note h hi)
theorem okN_wn {x : Int × Int} (h : okN x = true) : Wn x := by have := okN_iff.1 h; unfold Wn; omega
theorem wf_of_okN {l : List (Int × Int)} (h : ∀ x ∈ l, okN x = true) : Wf l := fun x hx => okN_wn (h x hx)
theorem wf_sortU {l : List (Int × Int)} (h : Wf l) : Wf (sortU l) := fun x hx => h x ((sortU_mem l x).1 hx)
theorem okN_two {a b : List (Int × Int)} (ha : okT a = true) (hb : okT b = true) : ∀ x ∈ a ++ b, okN x = true := fun x hx => by
  rcases List.mem_append.1 hx with h | h
  · exact okN_of_okT ha h
  · exact okN_of_okT hb h

/-! ### one tune behind the other -/
noncomputable def joinB (a b : List (Int × Int)) : Bool := movB (addG (lengthL a) 0) b && decide (a.length + b.length ≤ 120)
noncomputable def cJoin (a b : List (Int × Int)) : Int := if okT a && okT b then (if joinB a b then 0 else 3) else 1
noncomputable def rJoin (a b : List (Int × Int)) : List (Int × Int) := if okT a && okT b then (if joinB a b then a ++ b.map (addG (lengthL a) 0) else []) else []
theorem rJoin_len (a b : List (Int × Int)) : (rJoin a b).length ≤ a.length + b.length := by
  unfold rJoin; split
  · split <;> simp
  · simp
/-- Behind the last note of a, b's notes rise on. -/
theorem okT_join {a b : List (Int × Int)} (ha : okT a = true) (hb : okT b = true) (hm : movB (addG (lengthL a) 0) b = true) : okT (a ++ b.map (addG (lengthL a) 0)) = decide (a.length + b.length ≤ 120) := by
  have hall : ∀ x ∈ b, okN (addG (lengthL a) 0 x) = true := by unfold movB at hm; rw [List.all_eq_true] at hm; exact hm
  have hr : Rise (a ++ b.map (addG (lengthL a) 0)) := by
    unfold Rise
    rw [List.pairwise_append]
    refine ⟨okT_rise ha, ?_, ?_⟩
    · rw [List.pairwise_map]
      exact (okT_rise hb).imp (fun h => addG_mono _ _ h)
    · intro x hx y hy
      rw [List.mem_map] at hy
      obtain ⟨z, hz, rfl⟩ := hy
      obtain ⟨i, hi, rfl⟩ := List.getElem_of_mem hx
      obtain ⟨j, hj, rfl⟩ := List.getElem_of_mem hz
      have h1 := last_top ha hi
      have h2 := okT_note hb hj
      rw [ltN_iff]
      unfold addG
      left
      simp only []
      omega
  have hn : ∀ x ∈ a ++ b.map (addG (lengthL a) 0), okN x = true := fun x hx => by
    rcases List.mem_append.1 hx with h | h
    · exact okN_of_okT ha h
    · rw [List.mem_map] at h
      obtain ⟨z, hz, rfl⟩ := h
      exact hall z hz
  have hlen : (a ++ b.map (addG (lengthL a) 0)).length = a.length + b.length := by simp
  rcases hd : decide (a.length + b.length ≤ 120) with _ | _
  · have := of_decide_eq_false hd
    cases hq : okT (a ++ b.map (addG (lengthL a) 0)) with
    | false => rfl
    | true => have := okT_len hq; omega
  · exact okT_of_rise hr hn (by have := of_decide_eq_true hd; omega)

/-! ### any notes -/
noncomputable def cMake (l : List (Int × Int)) : Int := if l.all okN then cLim l else 2
noncomputable def rMake (l : List (Int × Int)) : List (Int × Int) := if l.all okN then rLim l else []
theorem rMake_len (l : List (Int × Int)) : (rMake l).length ≤ l.length := by
  unfold rMake; split
  · exact rLim_len _
  · simp

/-! ### voices -/
def voiceG (s t : Int) (v : Nat) : Int × Int → Int × Int := addG ((v : Int) * s) ((v : Int) * t)
/-- The first voice that cannot be moved; n if there is none. -/
def voicesOk (l : List (Int × Int)) (s t : Int) (n : Nat) : Prop := ∀ v, v < n → movB (voiceG s t v) l = true
instance (l : List (Int × Int)) (s t : Int) (n : Nat) : Decidable (voicesOk l s t n) := by unfold voicesOk; exact inferInstance
def voicesL (l : List (Int × Int)) (s t : Int) : Nat → List (Int × Int)
  | 0 => []
  | n + 1 => voicesL l s t n ++ l.map (voiceG s t n)
theorem voicesL_len (l : List (Int × Int)) (s t : Int) (n : Nat) : (voicesL l s t n).length = n * l.length := by
  induction n with
  | zero => simp [voicesL]
  | succ n ih => rw [voicesL, List.length_append, ih, List.length_map, Nat.add_mul]; omega
theorem voicesL_okN {l : List (Int × Int)} {s t : Int} {n : Nat} (h : voicesOk l s t n) : ∀ x ∈ voicesL l s t n, okN x = true := by
  induction n with
  | zero => intro x hx; simp [voicesL] at hx
  | succ n ih =>
    intro x hx
    rw [voicesL] at hx
    rcases List.mem_append.1 hx with hx | hx
    · exact ih (fun v hv => h v (by omega)) x hx
    · rw [List.mem_map] at hx
      obtain ⟨z, hz, rfl⟩ := hx
      have := h n (by omega)
      unfold movB at this
      rw [List.all_eq_true] at this
      exact this z hz
def inCan (v s t : Int) : Bool := inB v 1 8 && inB s 0 200 && inB t (-48) 48
noncomputable def cCan (l : List (Int × Int)) (v s t : Int) : Int := if okT l then (if inCan v s t then (if voicesOk l s t v.toNat then cLim (voicesL l s t v.toNat) else 3) else 2) else 1
noncomputable def rCan (l : List (Int × Int)) (v s t : Int) : List (Int × Int) := if okT l then (if inCan v s t then (if voicesOk l s t v.toNat then rLim (voicesL l s t v.toNat) else []) else []) else []
theorem rCan_len (l : List (Int × Int)) (v s t : Int) : (rCan l v s t).length ≤ 120 := by
  unfold rCan
  split
  · split
    · split
      · unfold rLim; split
        · omega
        · simp
      · simp
    · simp
  · simp

end Go.Proofs.YtnakdlfjjeligaaGreat

/-
  Plain functions: the best shift of two tunes, and the loudest step of a tune, with no program in sight.
-/
namespace Go.Proofs.YtnakdlfjjeligaaGreat
set_option linter.unusedVariables false
set_option linter.unusedSimpArgs false

/-- One more shift is tried: the number of common notes must be greater than the greatest so far. -/
noncomputable def stepB (a b : List (Int × Int)) (x : Int × Int) (s : Int) : Int × Int := if decide (x.2 < (commonL a b s : Nat)) then (s, (commonL a b s : Nat)) else x
noncomputable def bstL (a b : List (Int × Int)) : Nat → Int × Int
  | 0 => (0, (commonL a b 0 : Nat))
  | k + 1 => stepB a b (stepB a b (bstL a b k) ((k + 1 : Nat) : Int)) (-((k + 1 : Nat) : Int))
noncomputable def bstI (a b : List (Int × Int)) : Nat → Int × Int
  | 0 => (0, -1)
  | k + 1 => bstL a b k
theorem bstI_succ (a b : List (Int × Int)) (k : Nat) : bstI a b (k + 1) = stepB a b (stepB a b (bstI a b k) (k : Int)) (-(k : Int)) := by
  cases k with
  | zero =>
    have h : (-1 : Int) < (commonL a b 0 : Nat) := by omega
    simp [bstI, bstL, stepB, h]
  | succ k => rfl
theorem stepB_bd {a b : List (Int × Int)} {x : Int × Int} {s : Int} {m : Int} (hb : b.length ≤ 120) (h : -m ≤ x.1 ∧ x.1 ≤ m ∧ -1 ≤ x.2 ∧ x.2 ≤ 120) (hs : -m ≤ s ∧ s ≤ m) :
    -m ≤ (stepB a b x s).1 ∧ (stepB a b x s).1 ≤ m ∧ -1 ≤ (stepB a b x s).2 ∧ (stepB a b x s).2 ≤ 120 := by
  have := commonL_le a b s
  unfold stepB
  split
  · refine ⟨hs.1, hs.2, ?_, ?_⟩ <;> simp only [] <;> omega
  · exact h
noncomputable def rBest1 (a b : List (Int × Int)) : Int := if okT a && okT b then (bstL a b 200).1 else 0
noncomputable def rBest2 (a b : List (Int × Int)) : Int := if okT a && okT b then (bstL a b 200).2 else 0

/-- How many notes a step has. -/
def cntA (l : List (Int × Int)) (k : Int) : Nat := l.countP fun p => decide (p.1 = k)
theorem cntA_nil (k : Int) : cntA [] k = 0 := rfl
theorem cntA_snoc (l : List (Int × Int)) (k : Int) (i : Nat) (h : i < l.length) : cntA (l.take (i + 1)) k = cntA (l.take i) k + if l[i].1 = k then 1 else 0 := by
  unfold cntA
  rw [List.take_succ_eq_append_getElem h, List.countP_append, List.countP_singleton]
  simp
theorem cntA_le (l : List (Int × Int)) (k : Int) : cntA l k ≤ l.length := List.countP_le_length
/-- The first of the greatest among the first k + 1. -/
def argF (c : Nat → Nat) : Nat → Nat
  | 0 => 0
  | k + 1 => if c (argF c k) < c (k + 1) then k + 1 else argF c k
theorem argF_le (c : Nat → Nat) : ∀ k, argF c k ≤ k
  | 0 => Nat.le_refl _
  | k + 1 => by unfold argF; split; · exact Nat.le_refl _
                · have := argF_le c k; omega
theorem argF_max (c : Nat → Nat) : ∀ k j, j ≤ k → c j ≤ c (argF c k)
  | 0, j, h => by obtain rfl : j = 0 := by omega
                  exact Nat.le_refl _
  | k + 1, j, h => by
    unfold argF
    by_cases e : j = k + 1
    · subst e; split <;> omega
    · have := argF_max c k j (by omega)
      split <;> omega
theorem argF_first (c : Nat → Nat) : ∀ k j, j < argF c k → c j < c (argF c k)
  | 0, j, h => by simp [argF] at h
  | k + 1, j, h => by
    unfold argF at h ⊢
    split at h
    · rename_i hlt
      rw [if_pos hlt]
      have := argF_max c k j (by omega)
      omega
    · rename_i hlt
      rw [if_neg hlt]
      exact argF_first c k j h
theorem argF_unique {c : Nat → Nat} {k b : Nat} (hb : b ≤ k) (h1 : ∀ j, j ≤ k → c j ≤ c b) (h2 : ∀ j, j < b → c j < c b) : b = argF c k := by
  have a1 := argF_le c k
  rcases Nat.lt_trichotomy b (argF c k) with h | h | h
  · have := argF_first c k b h
    have := h1 (argF c k) a1
    omega
  · exact h
  · have := h2 _ h
    have := argF_max c k b hb
    omega
/-- The step, and how many notes it has. -/
def loud (l : List (Int × Int)) : Nat := argF (fun k => cntA l k) 199
noncomputable def cLo (l : List (Int × Int)) : Int := if okT l then (if 0 < l.length then 0 else 6) else 1
noncomputable def rLo1 (l : List (Int × Int)) : Int := if okT l && decide (0 < l.length) then (loud l : Int) else 0
noncomputable def rLo2 (l : List (Int × Int)) : Int := if okT l && decide (0 < l.length) then (cntA l (loud l) : Int) else 0

/-- What the program holds when it has seen i notes: the loudest step so far, its notes, the notes of the last step. -/
def Lo (l : List (Int × Int)) (i best most many : Nat) : Prop :=
  (i = 0 → best = 0 ∧ most = 0 ∧ many = 0) ∧
  (∀ j (hj : j < l.length), i = j + 1 → many = cntA (l.take i) l[j].1 ∧ (best : Int) ≤ l[j].1) ∧
  best ≤ 199 ∧ most = cntA (l.take i) best ∧ (∀ k : Nat, cntA (l.take i) k ≤ most) ∧ (∀ k : Nat, k < best → cntA (l.take i) k < most) ∧ most ≤ i ∧ many ≤ i
theorem Lo.zero (l : List (Int × Int)) : Lo l 0 0 0 0 := by
  refine ⟨fun _ => ⟨rfl, rfl, rfl⟩, fun j _ h => absurd h (by omega), by omega, by simp [cntA], fun k => by simp [cntA], fun k h => absurd h (by omega), by omega, by omega⟩
theorem okT_at_le {l : List (Int × Int)} (h : okT l = true) {i j : Nat} (hj : j < l.length) (hij : i ≤ j) : (l[i]'(by omega)).1 ≤ l[j].1 := by
  by_cases e : i = j
  · subst e; exact Int.le_refl _
  · have := ltN_iff.1 (okT_lt h hj (show i < j by omega)); omega
theorem cntA_later {l : List (Int × Int)} (h : okT l = true) {i : Nat} (hi : i < l.length) {k : Int} (hk : ∀ j (hj : j < l.length), i = j + 1 → l[j].1 < k) : cntA (l.take i) k = 0 := by
  unfold cntA
  rw [List.countP_eq_zero]
  intro p hp
  obtain ⟨x, hx, rfl⟩ := List.getElem_of_mem hp
  simp only [List.length_take] at hx
  have hx2 : x < l.length := by omega
  rw [List.getElem_take]
  cases i with
  | zero => omega
  | succ i =>
    have h1 := hk i (by omega) rfl
    have h2 := okT_at_le h (show i < l.length by omega) (show x ≤ i by omega)
    simp only [decide_eq_true_eq]
    omega
theorem Lo.step {l : List (Int × Int)} (hok : okT l = true) {i best most many : Nat} (h : Lo l i best most many) (hi : i < l.length) (m' : Nat)
    (hm : m' = (if ∃ j, ∃ hj : j < l.length, i = j + 1 ∧ l[j].1 ≠ l[i].1 then 0 else many) + 1) :
    (most < m' → Lo l (i + 1) l[i].1.toNat m' m') ∧ (¬ most < m' → Lo l (i + 1) best most m') := by
  obtain ⟨h0, h1, hb, h2, h3, h4, h5, h6⟩ := h
  obtain ⟨p1, p2, _, _⟩ := okT_note hok hi
  have hcm : m' = cntA (l.take (i + 1)) l[i].1 := by
    rw [cntA_snoc l _ i hi, if_pos rfl, hm]
    congr 1
    split
    · rename_i hx
      obtain ⟨j, hj, e, hne⟩ := hx
      refine (cntA_later hok hi fun j2 hj2 e2 => ?_).symm
      obtain rfl : j = j2 := by omega
      have := okT_at_le hok hi (show j ≤ i by omega)
      omega
    · rename_i hx
      cases i with
      | zero => rw [(h0 rfl).2.2]; simp [cntA]
      | succ j =>
        have hj : j < l.length := by omega
        have e : l[j].1 = l[j + 1].1 := by
          by_cases e : l[j].1 = l[j + 1].1
          · exact e
          · exact absurd ⟨j, hj, rfl, e⟩ hx
        rw [← e]
        exact (h1 j hj rfl).1
  have hm6 : m' ≤ i + 1 := by rw [hm]; split <;> omega
  have hbl : ((best : Int) ≤ l[i].1) := by
    cases i with
    | zero => rw [(h0 rfl).1]; omega
    | succ j => have a := (h1 j (by omega) rfl).2; have b := okT_at_le hok hi (show j ≤ j + 1 by omega); omega
  have hnat : ((l[i].1.toNat : Nat) : Int) = l[i].1 := by omega
  have hS := fun k : Nat => cntA_snoc l k i hi
  refine ⟨fun hlt => ⟨fun e => absurd e (by omega), fun j hj e => ?_, by omega, by rw [hnat]; exact hcm, fun k => ?_, fun k hk => ?_, by omega, by omega⟩,
    fun hlt => ⟨fun e => absurd e (by omega), fun j hj e => ?_, hb, ?_, fun k => ?_, fun k hk => ?_, by omega, by omega⟩⟩
  · obtain rfl : j = i := by omega
    exact ⟨hcm, by omega⟩
  · rw [hS k]
    split
    · rename_i e; rw [← e, cntA_snoc l _ i hi, if_pos rfl] at *; rw [hcm, e]; exact Nat.le_refl _
    · have := h3 k; omega
  · rw [hS k]
    split
    · omega
    · have := h3 k; omega
  · obtain rfl : j = i := by omega
    exact ⟨hcm, by omega⟩
  · rw [hS best]
    split
    · rename_i e
      rw [e, hS best, if_pos e] at hcm
      omega
    · omega
  · rw [hS k]
    split
    · rename_i e
      rw [e, hS k, if_pos e] at hcm
      omega
    · have := h3 k; omega
  · rw [hS k]
    split
    · omega
    · have := h4 k hk; omega
theorem Lo.done {l : List (Int × Int)} {best most many : Nat} (h : Lo l l.length best most many) : best = loud l ∧ most = cntA l (loud l) := by
  obtain ⟨h0, h1, hb, h2, h3, h4, _⟩ := h
  rw [List.take_length] at h2 h3 h4
  have : best = loud l := argF_unique hb (fun j _ => show cntA l (j : Int) ≤ cntA l (best : Int) by rw [← h2]; exact h3 j) (fun j hj => show cntA l (j : Int) < cntA l (best : Int) by rw [← h2]; exact h4 j hj)
  refine ⟨this, ?_⟩
  rw [← this]; exact h2
theorem Lo.most_le {l : List (Int × Int)} {i best most many : Nat} (h : Lo l i best most many) : best ≤ 199 ∧ most ≤ i ∧ many ≤ i := ⟨h.2.2.1, h.2.2.2.2.2.2.1, h.2.2.2.2.2.2.2⟩

/-- The counts of all steps, over the first i notes. -/
def cntL (l : List (Int × Int)) (i : Nat) : List Int := (List.range 200).map fun k => ((cntA (l.take i) (k : Nat) : Nat) : Int)
theorem cntL_len (l : List (Int × Int)) (i : Nat) : (cntL l i).length = 200 := by simp [cntL]
theorem cntL_get (l : List (Int × Int)) (i : Nat) {k : Nat} (h : k < (cntL l i).length) : (cntL l i)[k] = ((cntA (l.take i) (k : Nat) : Nat) : Int) := by simp [cntL]
theorem cntL_zero (l : List (Int × Int)) : cntL l 0 = List.replicate 200 0 := by
  refine List.ext_getElem (by rw [cntL_len, List.length_replicate]) fun i h1 h2 => ?_
  rw [cntL_get, List.getElem_replicate]; rfl
theorem cntL_step {l : List (Int × Int)} {i a : Nat} (h : i < l.length) (ha : l[i].1 = (a : Int)) (ha2 : a < 200) : (cntL l i).set a (((cntA (l.take i) (a : Nat) : Nat) : Int) + 1) = cntL l (i + 1) := by
  refine List.ext_getElem (by simp [cntL]) fun k h1 h2 => ?_
  rw [List.getElem_set, cntL_get, cntL_get, cntA_snoc l _ i h]
  by_cases e : a = k
  · subst e; rw [if_pos rfl, if_pos ha]; simp
  · rw [if_neg e, if_neg (by omega)]; simp

end Go.Proofs.YtnakdlfjjeligaaGreat

/-
  The least gap between notes of one pitch. Plain: no program in it; and a map's datum that keeps each pitch's last step.
-/
namespace Go.Proofs.YtnakdlfjjeligaaGreat
set_option linter.unusedVariables false
set_option linter.unusedSimpArgs false

def leP (x y : Int × Int) : Prop := x.1 < y.1 ∨ (x.1 = y.1 ∧ x.2 ≤ y.2)
theorem leP_trans {x y z : Int × Int} (h : leP x y) (k : leP y z) : leP x z := by unfold leP at *; omega
theorem leP_anti {x y : Int × Int} (h : leP x y) (k : leP y x) : x = y := by unfold leP at *; apply Prod.ext <;> omega
/-- What is known behind some pairs: none yet, or the least of them. -/
def MinOf (st : Int × Int) (S : Int × Int → Prop) : Prop := (st = (-1, 0) ∧ ∀ x, ¬ S x) ∨ (S st ∧ 0 < st.1 ∧ ∀ x, S x → leP st x)
theorem MinOf.unique {a b : Int × Int} {S : Int × Int → Prop} (ha : MinOf a S) (hb : MinOf b S) : a = b := by
  rcases ha with ⟨rfl, h1⟩ | ⟨h1, _, h2⟩
  · rcases hb with ⟨rfl, _⟩ | ⟨h3, _, _⟩
    · rfl
    · exact absurd h3 (h1 _)
  · rcases hb with ⟨rfl, h3⟩ | ⟨h3, _, h4⟩
    · exact absurd h1 (h3 _)
    · exact leP_anti (h2 _ h3) (h4 _ h1)
def bet (st c : Int × Int) : Bool := decide (st.1 < 0) || (decide (c.1 < st.1) || (decide (c.1 = st.1) && decide (c.2 < st.2)))
def updG (st c : Int × Int) : Int × Int := if bet st c then c else st
theorem updG_yes {st c : Int × Int} (h : bet st c = true) : updG st c = c := by unfold updG; rw [h]; rfl
theorem updG_no {st c : Int × Int} (h : bet st c = false) : updG st c = st := by unfold updG; rw [h]; rfl
theorem MinOf.congr {st : Int × Int} {S T : Int × Int → Prop} (h : MinOf st S) (hS : ∀ x, T x ↔ S x) : MinOf st T := by
  have : T = S := funext fun x => propext (hS x)
  rw [this]; exact h
/-- New pairs of which c is the least. -/
theorem MinOf.addAll {st c : Int × Int} {S T N : Int × Int → Prop} (h : MinOf st S) (hc : 0 < c.1) (hT : ∀ x, T x ↔ S x ∨ N x) (hN : N c) (hle : ∀ x, N x → leP c x) : MinOf (updG st c) T := by
  rcases hb : bet st c with _ | _
  · rw [updG_no hb]
    have hb2 : ¬ (st.1 < 0 ∨ (c.1 < st.1 ∨ (c.1 = st.1 ∧ c.2 < st.2))) := fun hx => by
      have : bet st c = true := by unfold bet; simpa using hx
      rw [hb] at this; cases this
    rcases h with ⟨rfl, _⟩ | ⟨h1, h2, h3⟩
    · exact absurd (Or.inl (by decide)) hb2
    · refine .inr ⟨(hT _).2 (.inl h1), h2, fun x hx => ?_⟩
      rcases (hT x).1 hx with hx | hx
      · exact h3 x hx
      · exact leP_trans (by unfold leP; omega) (hle x hx)
  · rw [updG_yes hb]
    have hb2 : st.1 < 0 ∨ (c.1 < st.1 ∨ (c.1 = st.1 ∧ c.2 < st.2)) := by unfold bet at hb; simpa using hb
    refine .inr ⟨(hT _).2 (.inr hN), hc, fun x hx => ?_⟩
    rcases (hT x).1 hx with hx | hx
    · rcases h with ⟨_, h1⟩ | ⟨_, h2, h3⟩
      · exact absurd hx (h1 x)
      · exact leP_trans (by unfold leP; omega) (h3 x hx)
    · exact hle x hx
theorem MinOf.add {st c : Int × Int} {S T : Int × Int → Prop} (h : MinOf st S) (hc : 0 < c.1) (hT : ∀ x, T x ↔ S x ∨ x = c) : MinOf (updG st c) T :=
  h.addAll (N := fun x => x = c) hc hT rfl (fun x hx => by subst hx; unfold leP; omega)

/-- The gaps of all pairs with the later one ahead of i, or at i with the earlier one ahead of j. -/
def GapS (l : List (Int × Int)) (i j : Nat) (x : Int × Int) : Prop := ∃ a b, ∃ (ha : a < l.length) (hb : b < l.length), a < b ∧ (b < i ∨ (b = i ∧ a < j)) ∧ l[a].2 = l[b].2 ∧ x = (l[b].1 - l[a].1, l[b].2)
theorem GapS_zero (l : List (Int × Int)) : MinOf (-1, 0) (GapS l 0 0) := .inl ⟨rfl, fun x ⟨a, b, _, _, _, h, _⟩ => by omega⟩
theorem gap_pos {l : List (Int × Int)} (h : okT l = true) {a b : Nat} (hb : b < l.length) (hab : a < b) (hp : (l[a]'(by omega)).2 = l[b].2) : 0 < l[b].1 - (l[a]'(by omega)).1 := by
  have := okT_lt h hb hab
  rw [ltN_iff] at this
  omega
theorem GapS_step {l : List (Int × Int)} {i j : Nat} (hi : i < l.length) (hj : j < i) (hp : (l[j]'(by omega)).2 = l[i].2) (x : Int × Int) : GapS l i (j + 1) x ↔ GapS l i j x ∨ x = (l[i].1 - (l[j]'(by omega)).1, l[i].2) := by
  constructor
  · rintro ⟨a, b, ha, hb, hab, hc, hq, rfl⟩
    by_cases e : b = i ∧ a = j
    · obtain ⟨rfl, rfl⟩ := e; exact .inr rfl
    · exact .inl ⟨a, b, ha, hb, hab, by omega, hq, rfl⟩
  · rintro (⟨a, b, ha, hb, hab, hc, hq, rfl⟩ | rfl)
    · exact ⟨a, b, ha, hb, hab, by omega, hq, rfl⟩
    · exact ⟨j, i, by omega, hi, hj, by omega, hp, rfl⟩
theorem GapS_skip {l : List (Int × Int)} {i j : Nat} (hi : i < l.length) (hj : j < i) (hp : ¬ (l[j]'(by omega)).2 = l[i].2) (x : Int × Int) : GapS l i (j + 1) x ↔ GapS l i j x := by
  constructor
  · rintro ⟨a, b, ha, hb, hab, hc, hq, rfl⟩
    by_cases e : b = i ∧ a = j
    · obtain ⟨rfl, rfl⟩ := e; exact absurd hq hp
    · exact ⟨a, b, ha, hb, hab, by omega, hq, rfl⟩
  · rintro ⟨a, b, ha, hb, hab, hc, hq, rfl⟩
    exact ⟨a, b, ha, hb, hab, by omega, hq, rfl⟩
theorem GapS_next (l : List (Int × Int)) (i : Nat) (x : Int × Int) : GapS l (i + 1) 0 x ↔ GapS l i i x := by
  constructor
  · rintro ⟨a, b, ha, hb, hab, hc, hq, rfl⟩; exact ⟨a, b, ha, hb, hab, by omega, hq, rfl⟩
  · rintro ⟨a, b, ha, hb, hab, hc, hq, rfl⟩; exact ⟨a, b, ha, hb, hab, by omega, hq, rfl⟩
/-- A note with no earlier one of its pitch adds nothing. -/
theorem gap_none {l : List (Int × Int)} {i : Nat} (hi : i < l.length) (hno : ∀ a (ha : a < l.length), a < i → l[a].2 ≠ l[i].2) {st : Int × Int} (h : MinOf st (GapS l i 0)) : MinOf st (GapS l (i + 1) 0) := by
  refine h.congr fun x => ⟨?_, ?_⟩
  · rintro ⟨a, b, ha, hb, hab, hc, hq, rfl⟩
    by_cases e : b = i
    · subst e; exact absurd hq (hno a ha hab)
    · exact ⟨a, b, ha, hb, hab, by omega, hq, rfl⟩
  · rintro ⟨a, b, ha, hb, hab, hc, hq, rfl⟩; exact ⟨a, b, ha, hb, hab, by omega, hq, rfl⟩
/-- The gap to the last earlier one is the least that a note adds. -/
theorem gap_last {l : List (Int × Int)} (hok : okT l = true) {i m : Nat} (hi : i < l.length) (hm : m < i) (hp : (l[m]'(by omega)).2 = l[i].2) (hlast : ∀ a (ha : a < l.length), m < a → a < i → l[a].2 ≠ l[i].2) {st : Int × Int} (h : MinOf st (GapS l i 0)) :
    MinOf (updG st (l[i].1 - (l[m]'(by omega)).1, l[i].2)) (GapS l (i + 1) 0) := by
  refine h.addAll (N := fun x => ∃ a, ∃ ha : a < i, (l[a]'(by omega)).2 = l[i].2 ∧ x = (l[i].1 - (l[a]'(by omega)).1, l[i].2)) (gap_pos hok hi hm hp) (fun x => ?_) ⟨m, hm, hp, rfl⟩ (fun x ⟨a, ha, hq, hx⟩ => ?_)
  · constructor
    · rintro ⟨a, b, ha, hb, hab, hc, hq, rfl⟩
      by_cases e : b = i
      · subst e; exact .inr ⟨a, hab, hq, rfl⟩
      · exact .inl ⟨a, b, ha, hb, hab, by omega, hq, rfl⟩
    · rintro (⟨a, b, ha, hb, hab, hc, hq, rfl⟩ | ⟨a, ha, hq, rfl⟩)
      · exact ⟨a, b, ha, hb, hab, by omega, hq, rfl⟩
      · exact ⟨a, i, by omega, hi, ha, by omega, hq, rfl⟩
  · subst hx
    by_cases e : a = m
    · subst e; unfold leP; omega
    · have ham : a < m := by
        rcases Nat.lt_trichotomy a m with h1 | h1 | h1
        · exact h1
        · exact absurd h1 e
        · exact absurd hq (hlast a (by omega) h1 ha)
      have := gap_pos hok (a := a) (b := m) (by omega) ham (hq.trans hp.symm)
      unfold leP
      left
      simp only []
      omega
open Classical in
noncomputable def gapL (l : List (Int × Int)) : Int × Int := if h : ∃ st, MinOf st (GapS l l.length 0) then h.choose else (0, 0)
theorem gapL_eq {l : List (Int × Int)} {st : Int × Int} (h : MinOf st (GapS l l.length 0)) : gapL l = st := by
  have hx : ∃ st, MinOf st (GapS l l.length 0) := ⟨st, h⟩
  unfold gapL
  rw [dif_pos hx]
  exact hx.choose_spec.unique h
noncomputable def rG1 (l : List (Int × Int)) : Int := if okT l then (if (gapL l).1 < 0 then 0 else (gapL l).1) else 0
noncomputable def rG2 (l : List (Int × Int)) : Int := if okT l then (if (gapL l).1 < 0 then 0 else (gapL l).2) else 0
noncomputable def cG (l : List (Int × Int)) : Int := if okT l then (if (gapL l).1 < 0 then 6 else 0) else 1
/-- Gaps are small. -/
theorem MinOf.bd {l : List (Int × Int)} (hok : okT l = true) {st : Int × Int} {i j : Nat} (h : MinOf st (GapS l i j)) : -1 ≤ st.1 ∧ st.1 ≤ 199 ∧ 0 ≤ st.2 ∧ st.2 ≤ 47 := by
  rcases h with ⟨rfl, _⟩ | ⟨⟨a, b, ha, hb, hab, _, _, rfl⟩, h0, _⟩
  · simp
  · have h1 := okT_note hok ha
    have h2 := okT_note hok hb
    simp only [] at h0 ⊢
    omega

/-! ### the map -/
open Go.Maps
def pKey (p : Int) : Lit := .int .i8 p
noncomputable def atD (l : List (Int × Int)) : Nat → DataW Unit
  | 0 => .map []
  | k + 1 => if h : k < l.length then (atD l k).put (pKey l[k].2) (.lit (.int .i16 l[k].1)) else atD l k
theorem atD_step {l : List (Int × Int)} {k : Nat} (h : k < l.length) : atD l (k + 1) = (atD l k).put (pKey l[k].2) (.lit (.int .i16 l[k].1)) := by rw [atD, dif_pos h]
theorem atD_map (l : List (Int × Int)) (k : Nat) : IsMap (atD l k) := by
  induction k with
  | zero => exact isMap_empty
  | succ k ih =>
    rw [atD]
    split
    · exact ih.put _ _
    · exact ih
theorem pKey_inj {p q : Int} (h : pKey p = pKey q) : p = q := by unfold pKey at h; simpa using h
theorem atD_spec (l : List (Int × Int)) (p : Int) (k : Nat) (hk : k ≤ l.length) :
    (Maps.has (atD l k) (pKey p) = false ∧ ∀ a (ha : a < l.length), a < k → l[a].2 ≠ p) ∨
    ∃ m, ∃ hm : m < l.length, m < k ∧ l[m].2 = p ∧ (∀ a (ha : a < l.length), m < a → a < k → l[a].2 ≠ p) ∧ Maps.has (atD l k) (pKey p) = true ∧ ∀ z, (atD l k).atKey (pKey p) z = .lit (.int .i16 l[m].1) := by
  induction k with
  | zero => exact .inl ⟨rfl, fun _ _ h => absurd h (by omega)⟩
  | succ k ih =>
    have hlt : k < l.length := by omega
    rw [atD_step hlt]
    by_cases e : l[k].2 = p
    · subst e
      exact .inr ⟨k, hlt, by omega, rfl, fun a ha h1 h2 => absurd h1 (by omega), has_put_same (atD_map l k) (by unfold pKey; exact trivial) _, fun z => atKey_put_same (atD_map l k) (by unfold pKey; exact trivial) _ z⟩
    · have hne : pKey p ≠ pKey l[k].2 := fun h => e (pKey_inj h).symm
      rcases ih (by omega) with ⟨h1, h2⟩ | ⟨m, hm, h1, h2, h3, h4, h5⟩
      · exact .inl ⟨by rw [has_put_other hne]; exact h1, fun a ha hak => by
          by_cases e2 : a = k
          · subst e2; exact e
          · exact h2 a ha (by omega)⟩
      · exact .inr ⟨m, hm, by omega, h2, fun a ha hma hak => by
          by_cases e2 : a = k
          · subst e2; exact e
          · exact h3 a ha hma (by omega), by rw [has_put_other hne]; exact h4, fun z => by rw [atKey_put_other hne]; exact h5 z⟩

end Go.Proofs.YtnakdlfjjeligaaGreat

/-
  What is said of likeness: shifts, gaps, canons, joined tunes. Plain: no program in it.
-/
namespace Go.Proofs.YtnakdlfjjeligaaGreat
set_option linter.unusedVariables false
set_option linter.unusedSimpArgs false

/-- A tune as it is drawn. -/
def Drawn (l : List (Int × Int)) : Prop := okT l = true ∧ l.length ≤ 9 ∧ ∀ x ∈ l, x.1 ≤ 27 ∧ 20 ≤ x.2 ∧ x.2 ≤ 27
theorem addG_zero (x : Int × Int) : addG 0 0 x = x := by unfold addG; simp
theorem map_addG_zero (l : List (Int × Int)) : l.map (addG 0 0) = l := by
  have : addG 0 0 = id := funext addG_zero
  rw [this, List.map_id]
theorem movB_zero {l : List (Int × Int)} (h : okT l = true) : movB (addG 0 0) l = true := movB_all fun i hi => by rw [addG_zero]; exact okN_of_okT h (List.getElem_mem hi)
theorem movR_zero {l : List (Int × Int)} (h : okT l = true) : movR (addG 0 0) l = l := by unfold movR; rw [movB_zero h]; exact map_addG_zero l

/-! ### the best shift -/
theorem stepB_spec (a b : List (Int × Int)) {x : Int × Int} {s : Int} (h : x.2 = (commonL a b x.1 : Nat)) : (stepB a b x s).2 = (commonL a b (stepB a b x s).1 : Nat) ∧ x.2 ≤ (stepB a b x s).2 ∧ ((commonL a b s : Nat) : Int) ≤ (stepB a b x s).2 ∧ ((stepB a b x s).1 = s ∨ (stepB a b x s).1 = x.1) := by
  unfold stepB
  by_cases hd : x.2 < (commonL a b s : Nat)
  · rw [if_pos (decide_eq_true hd)]
    exact ⟨rfl, by simp only []; omega, Int.le_refl _, .inl rfl⟩
  · rw [if_neg (by simpa using hd)]
    exact ⟨h, Int.le_refl _, by omega, .inr rfl⟩
theorem bstL_spec (a b : List (Int × Int)) (k : Nat) : (bstL a b k).2 = (commonL a b (bstL a b k).1 : Nat) ∧ (-(k : Int) ≤ (bstL a b k).1 ∧ (bstL a b k).1 ≤ k) ∧ ∀ s : Int, -(k : Int) ≤ s → s ≤ k → ((commonL a b s : Nat) : Int) ≤ (bstL a b k).2 := by
  induction k with
  | zero => exact ⟨rfl, by simp [bstL], fun s h1 h2 => by
      obtain rfl : s = 0 := by omega
      exact Int.le_refl _⟩
  | succ k ih =>
    obtain ⟨i1, i2, i3⟩ := ih
    obtain ⟨a1, a2, a3, a4⟩ := stepB_spec a b (s := ((k + 1 : Nat) : Int)) i1
    obtain ⟨b1, b2, b3, b4⟩ := stepB_spec a b (s := -((k + 1 : Nat) : Int)) a1
    refine ⟨b1, ?_, fun s h1 h2 => ?_⟩
    · show -((k + 1 : Nat) : Int) ≤ (stepB a b (stepB a b (bstL a b k) ((k + 1 : Nat) : Int)) (-((k + 1 : Nat) : Int))).1 ∧ (stepB a b (stepB a b (bstL a b k) ((k + 1 : Nat) : Int)) (-((k + 1 : Nat) : Int))).1 ≤ ((k + 1 : Nat) : Int)
      omega
    · show ((commonL a b s : Nat) : Int) ≤ (stepB a b (stepB a b (bstL a b k) ((k + 1 : Nat) : Int)) (-((k + 1 : Nat) : Int))).2
      by_cases e1 : s = ((k + 1 : Nat) : Int)
      · subst e1; exact Int.le_trans a3 b2
      · by_cases e2 : s = -((k + 1 : Nat) : Int)
        · subst e2; exact b3
        · have := i3 s (by omega) (by omega)
          omega
theorem commonL_moved (a b : List (Int × Int)) (s : Int) : commonL a (b.map (addG s 0)) 0 = commonL a b s := by
  unfold commonL
  rw [List.countP_map]
  congr 1
  funext q
  simp [addG]

/-! ### the least gap -/
theorem gap_le {l : List (Int × Int)} {st : Int × Int} (h : MinOf st (GapS l l.length 0)) {i k : Nat} (hi : i < l.length) (hk : k < i) (hp : (l[k]'(by omega)).2 = l[i].2) : 0 < st.1 ∧ st.1 ≤ l[i].1 - (l[k]'(by omega)).1 := by
  have hS : GapS l l.length 0 (l[i].1 - (l[k]'(by omega)).1, l[i].2) := ⟨k, i, by omega, hi, hk, by omega, hp, rfl⟩
  rcases h with ⟨_, h⟩ | ⟨_, h0, h⟩
  · exact absurd hS (h _)
  · have := h _ hS
    unfold leP at this
    simp only [] at this
    omega
/-- What is known when pairs have been looked at up to i, k. -/
def SomeG (l : List (Int × Int)) (g p : Int) (i k : Nat) : Prop := ∃ a b, ∃ (ha : a < l.length) (hb : b < l.length), a < b ∧ (b < i ∨ (b = i ∧ a < k)) ∧ l[a].2 = l[b].2 ∧ l[b].1 - l[a].1 = g ∧ l[b].2 = p
open Classical in
noncomputable def someG (l : List (Int × Int)) (g p : Int) (i k : Nat) : Bool := decide (SomeG l g p i k)
theorem someG_zero (l : List (Int × Int)) (g p : Int) : someG l g p 0 0 = false := by unfold someG; rw [decide_eq_false_iff_not]; rintro ⟨a, b, _, _, _, h, _⟩; omega
theorem someG_next (l : List (Int × Int)) (g p : Int) (i : Nat) : someG l g p i i = someG l g p (i + 1) 0 := by
  unfold someG
  rw [decide_eq_decide]
  constructor
  · rintro ⟨a, b, ha, hb, hab, hc, r⟩; exact ⟨a, b, ha, hb, hab, by omega, r⟩
  · rintro ⟨a, b, ha, hb, hab, hc, r⟩; exact ⟨a, b, ha, hb, hab, by omega, r⟩
theorem someG_skip {l : List (Int × Int)} {g p : Int} {i k : Nat} (hi : i < l.length) (hk : k < i) (hp : ¬ (l[k]'(by omega)).2 = l[i].2) : someG l g p i (k + 1) = someG l g p i k := by
  unfold someG
  rw [decide_eq_decide]
  constructor
  · rintro ⟨a, b, ha, hb, hab, hc, hq, r⟩
    by_cases e : b = i ∧ a = k
    · obtain ⟨rfl, rfl⟩ := e; exact absurd hq hp
    · exact ⟨a, b, ha, hb, hab, by omega, hq, r⟩
  · rintro ⟨a, b, ha, hb, hab, hc, r⟩; exact ⟨a, b, ha, hb, hab, by omega, r⟩
theorem someG_step {l : List (Int × Int)} {g p : Int} {i k : Nat} (hi : i < l.length) (hk : k < i) (hp : (l[k]'(by omega)).2 = l[i].2) : someG l g p i (k + 1) = (someG l g p i k || (decide (l[i].1 - (l[k]'(by omega)).1 = g) && decide (l[i].2 = p))) := by
  have e1 : ∀ i k, someG l g p i k = true ↔ SomeG l g p i k := fun i k => by unfold someG; simp
  rw [Bool.eq_iff_iff, Bool.or_eq_true, Bool.and_eq_true, decide_eq_true_eq, decide_eq_true_eq, e1, e1]
  constructor
  · rintro ⟨a, b, ha, hb, hab, hc, hq, h1, h2⟩
    by_cases e : b = i ∧ a = k
    · obtain ⟨rfl, rfl⟩ := e; exact .inr ⟨h1, h2⟩
    · exact .inl ⟨a, b, ha, hb, hab, by omega, hq, h1, h2⟩
  · rintro (⟨a, b, ha, hb, hab, hc, r⟩ | ⟨h1, h2⟩)
    · exact ⟨a, b, ha, hb, hab, by omega, r⟩
    · exact ⟨k, i, by omega, hi, hk, by omega, hp, h1, h2⟩
/-- Some pair has the least gap just if there is a least gap. -/
theorem someG_end {l : List (Int × Int)} {st : Int × Int} (h : MinOf st (GapS l l.length 0)) : someG l (if st.1 < 0 then 0 else st.1) (if st.1 < 0 then 0 else st.2) l.length 0 = decide (¬ st.1 < 0) := by
  unfold someG
  rw [decide_eq_decide]
  rcases h with ⟨rfl, h⟩ | ⟨⟨a, b, ha, hb, hab, hc, hq, he⟩, h0, h⟩
  · constructor
    · rintro ⟨a, b, ha, hb, hab, hc, hq, _, _⟩
      exact absurd ⟨a, b, ha, hb, hab, by omega, hq, rfl⟩ (h (l[b].1 - l[a].1, l[b].2))
    · intro h; exact absurd (by decide) h
  · constructor
    · intro _; omega
    · intro _
      rw [if_neg (by omega), if_neg (by omega)]
      refine ⟨a, b, ha, hb, hab, by omega, hq, ?_, ?_⟩
      · rw [he]
      · rw [he]

/-! ### canon, joined -/
theorem voices2_ok {t : List (Int × Int)} {s : Int} (h : Drawn t) (hs : 0 ≤ s ∧ s ≤ 9) : voicesOk t s 3 2 := fun v hv => by
  obtain ⟨hok, hl, hd⟩ := h
  refine movB_all fun i hi => ?_
  have h1 := okT_note hok hi
  have h2 := hd _ (List.getElem_mem hi)
  rw [okN_iff]
  unfold voiceG addG
  rcases (show v = 0 ∨ v = 1 by omega) with rfl | rfl <;> (simp only []; omega)
theorem can2 {t : List (Int × Int)} {s : Int} (h : Drawn t) (hs : 0 ≤ s ∧ s ≤ 9) : cCan t 2 s 3 = cLim (voicesL t s 3 2) ∧ rCan t 2 s 3 = rLim (voicesL t s 3 2) := by
  have hin : inCan 2 s 3 = true := by unfold inCan; simp [inB_iff]; omega
  have hv := voices2_ok h hs
  unfold cCan rCan
  rw [h.1, hin]
  simp only [if_true]
  rw [show (2 : Int).toNat = 2 from rfl, if_pos hv, if_pos hv]
  exact ⟨rfl, rfl⟩
theorem can2_code {t : List (Int × Int)} {s : Int} (h : Drawn t) (hs : 0 ≤ s ∧ s ≤ 9) (h0 : ¬ cCan t 2 s 3 = 0) : cCan t 2 s 3 = 3 := by
  rw [(can2 h hs).1] at h0 ⊢
  unfold cLim at h0 ⊢
  split
  · rename_i hx; rw [if_pos hx] at h0; exact absurd rfl h0
  · rfl
theorem can2_tune {t : List (Int × Int)} {s : Int} (h : Drawn t) (hs : 0 ≤ s ∧ s ≤ 9) (h0 : cCan t 2 s 3 = 0) : okT (rCan t 2 s 3) = true ∧ commonL (rCan t 2 s 3) t 0 = t.length := by
  obtain ⟨h1, h2⟩ := can2 h hs
  have hl : (sortU (voicesL t s 3 2)).length ≤ 120 := by
    rw [h1] at h0
    unfold cLim at h0
    split at h0
    · rename_i hx; exact hx
    · cases h0
  have hr : rCan t 2 s 3 = sortU (voicesL t s 3 2) := by rw [h2]; unfold rLim; rw [if_pos hl]
  rw [hr]
  constructor
  · rw [okT_sortU (voicesL_okN (voices2_ok h hs))]; exact decide_eq_true hl
  · unfold commonL
    rw [List.countP_eq_length]
    intro q hq
    rw [decide_eq_true_eq, sortU_mem]
    have h0 : voicesL t s 3 2 = ([] ++ t.map (voiceG s 3 0)) ++ t.map (voiceG s 3 1) := rfl
    rw [h0, List.mem_append, List.nil_append]
    left
    rw [List.mem_map]
    exact ⟨q, hq, by unfold voiceG addG; simp⟩
theorem join_drawn {t u : List (Int × Int)} (ht : Drawn t) (hu : Drawn u) : joinB t u = true := by
  have hL : lengthL t ≤ 28 := by
    by_cases h0 : 0 < t.length
    · rw [lengthL_last h0]
      have := ht.2.2 _ (List.getElem_mem (show t.length - 1 < t.length by omega))
      omega
    · rw [lengthL_nil h0]; omega
  have hb := lengthL_bd ht.1
  unfold joinB
  rw [Bool.and_eq_true]
  refine ⟨movB_all fun i hi => ?_, decide_eq_true (by have := ht.2.1; have := hu.2.1; omega)⟩
  have h1 := okT_note hu.1 hi
  have h2 := hu.2.2 _ (List.getElem_mem hi)
  rw [okN_iff]
  unfold addG
  simp only []
  omega

end Go.Proofs.YtnakdlfjjeligaaGreat

/-
  What is said of tunes that are drawn: moved and transposed there and back, played backward, cut and put together, inverted, stretched, made. Plain: no program in it.
-/
namespace Go.Proofs.YtnakdlfjjeligaaGreat
set_option linter.unusedVariables false
set_option linter.unusedSimpArgs false

theorem Drawn.bd {t : List (Int × Int)} (h : Drawn t) {x : Int × Int} (hx : x ∈ t) : 0 ≤ x.1 ∧ x.1 ≤ 27 ∧ 20 ≤ x.2 ∧ x.2 ≤ 27 := by
  have h1 := okN_iff.1 (okN_of_okT h.1 hx)
  have h2 := h.2.2 x hx
  omega
/-- A list whose notes are all ok, none twice, keeps its length when it is put in order. -/
theorem sortU_nodup {l : List (Int × Int)} (h : l.Nodup) : (sortU l).length = l.length := by
  have hn : (mergeN l).Nodup := (mergeN_perm l).nodup_iff.2 h
  have hr : Rise (mergeN l) := by
    have h2 := mergeN_sorted l
    refine List.pairwise_iff_getElem.2 fun i j hi hj hij => ?_
    have a := List.pairwise_iff_getElem.1 h2 i j hi hj hij
    have b := List.pairwise_iff_getElem.1 hn i j hi hj hij
    cases hq : ltN (mergeN l)[i] (mergeN l)[j] with
    | true => rfl
    | false => exact absurd (ltN_total hq a) b
  rw [(sortU_rise l).unique hr (fun x => by rw [sortU_mem]; exact ((mergeN_perm l).mem_iff).symm), (mergeN_perm l).length_eq]
/-! ### moved there and back -/
theorem mv_there {t : List (Int × Int)} (h : okT t = true) {g : Int × Int → Int × Int} (hg : movB g t = true) (bad : Int) : cMove t true bad g = 0 ∧ rMove t true bad g = t.map g := by
  unfold cMove rMove movR
  rw [h, hg]
  exact ⟨rfl, rfl⟩
theorem map_back {t : List (Int × Int)} {g k : Int × Int → Int × Int} (h : ∀ x ∈ t, k (g x) = x) : (t.map g).map k = t := by
  rw [List.map_map]
  conv => rhs; rw [← List.map_id t]
  exact List.map_congr_left fun x hx => by simpa using h x hx
theorem mv_round {t : List (Int × Int)} (h : Drawn t) {g k : Int × Int → Int × Int} (hok : ∀ x ∈ t, okN (g x) = true) (hb : ∀ x ∈ t, k (g x) = x) (hm : ∀ p q, ltN p q = true → ltN (g p) (g q) = true) (bad : Int) :
    (cMove t true bad g = 0 ∧ rMove t true bad g = t.map g) ∧ okT (t.map g) = true ∧ (cMove (t.map g) true bad k = 0 ∧ rMove (t.map g) true bad k = t) := by
  have h1 : movB g t = true := movB_all fun i hi => hok _ (List.getElem_mem hi)
  have h2 : okT (t.map g) = true := movR_ok h.1 h1 (fun p q _ _ _ _ hl => hm p q hl)
  have h3 : movB k (t.map g) = true := by
    unfold movB
    rw [List.all_eq_true]
    intro x hx
    obtain ⟨y, hy, rfl⟩ := List.mem_map.1 hx
    rw [hb y hy]
    exact okN_of_okT h.1 hy
  refine ⟨mv_there h.1 h1 bad, h2, ?_⟩
  have := mv_there h2 h3 bad
  rw [map_back hb] at this
  exact this
theorem move_facts {t : List (Int × Int)} (h : Drawn t) {s : Int} (hs : 0 ≤ s ∧ s < 20) :
    (cMove t (inB s (-200) 200) 4 (addG s 0) = 0 ∧ rMove t (inB s (-200) 200) 4 (addG s 0) = t.map (addG s 0)) ∧ okT (t.map (addG s 0)) = true ∧
    (cMove (t.map (addG s 0)) (inB (-s) (-200) 200) 4 (addG (-s) 0) = 0 ∧ rMove (t.map (addG s 0)) (inB (-s) (-200) 200) 4 (addG (-s) 0) = t) := by
  rw [show inB s (-200) 200 = true from inB_iff.2 (by omega), show inB (-s) (-200) 200 = true from inB_iff.2 (by omega)]
  exact mv_round h (fun x hx => okN_iff.2 (by have := h.bd hx; unfold addG; simp; omega)) (fun x hx => by unfold addG; exact Prod.ext (by simp; omega) (by simp)) (fun p q => addG_mono s 0) 4
theorem trans_facts {t : List (Int × Int)} (h : Drawn t) {s : Int} (hs : 0 ≤ s ∧ s < 20) :
    (cMove t (inB s (-48) 48) 4 (addG 0 s) = 0 ∧ rMove t (inB s (-48) 48) 4 (addG 0 s) = t.map (addG 0 s)) ∧ okT (t.map (addG 0 s)) = true ∧
    (cMove (t.map (addG 0 s)) (inB (-s) (-48) 48) 4 (addG 0 (-s)) = 0 ∧ rMove (t.map (addG 0 s)) (inB (-s) (-48) 48) 4 (addG 0 (-s)) = t) := by
  rw [show inB s (-48) 48 = true from inB_iff.2 (by omega), show inB (-s) (-48) 48 = true from inB_iff.2 (by omega)]
  exact mv_round h (fun x hx => okN_iff.2 (by have := h.bd hx; unfold addG; simp; omega)) (fun x hx => by unfold addG; exact Prod.ext (by simp) (by simp; omega)) (fun p q => addG_mono 0 s) 4
theorem str_facts {t : List (Int × Int)} (h : Drawn t) :
    (cMove t (inB 3 1 100 && inB 1 1 100) 2 (strG 3 1) = 0 ∧ rMove t (inB 3 1 100 && inB 1 1 100) 2 (strG 3 1) = t.map (strG 3 1)) ∧ okT (t.map (strG 3 1)) = true ∧
    (cMove (t.map (strG 3 1)) (inB 1 1 100 && inB 3 1 100) 2 (strG 1 3) = 0 ∧ rMove (t.map (strG 3 1)) (inB 1 1 100 && inB 3 1 100) 2 (strG 1 3) = t) := by
  have e : strG 3 1 = fun x : Int × Int => (x.1 * 3, x.2) := funext fun x => by unfold strG; simp
  rw [show (inB 3 1 100 && inB 1 1 100) = true from by decide, show (inB 1 1 100 && inB 3 1 100) = true from by decide, e]
  exact mv_round h (fun x hx => okN_iff.2 (by have := h.bd hx; simp; omega)) (fun x hx => by
    unfold strG
    simp only [Int.mul_one]
    rw [if_pos (by omega)]
    exact Prod.ext (by simp) rfl) (fun p q hl => by
    rw [ltN_iff] at hl ⊢
    simp only []
    omega) 2
/-! ### backward -/
theorem back_inj {n : Int} {x y : Int × Int} (h : backG n x = backG n y) : x = y := by
  unfold backG at h
  simp only [Prod.mk.injEq] at h
  exact Prod.ext (by omega) h.2
theorem nodup_map {t : List (Int × Int)} {g : Int × Int → Int × Int} (hi : ∀ x y, g x = g y → x = y) (h : t.Nodup) : (t.map g).Nodup := by
  refine List.pairwise_iff_getElem.2 fun i j hi2 hj hij e => ?_
  simp only [List.getElem_map] at e
  exact List.pairwise_iff_getElem.1 h i j (by simpa using hi2) (by simpa using hj) hij (hi _ _ e)
theorem okN_map_of_movB {t : List (Int × Int)} {g : Int × Int → Int × Int} (h : movB g t = true) : ∀ x ∈ t.map g, okN x = true := fun x hx => by
  obtain ⟨y, hy, rfl⟩ := List.mem_map.1 hx
  unfold movB at h
  exact List.all_eq_true.1 h y hy
theorem rBack_ok {l : List (Int × Int)} (h : okT l = true) : rBack l = sortU (l.map (backG (lengthL l))) := by unfold rBack; rw [h]; rfl
theorem back_facts {t : List (Int × Int)} (h : okT t = true) : cBack t = 0 ∧ okT (rBack t) = true ∧ (rBack t).length = t.length ∧ cBack (rBack t) = 0 ∧ okT (rBack (rBack t)) = true ∧ (t = [] ∨ (∀ hp : 0 < t.length, t[0].1 = 0 → rBack (rBack t) = t)) := by
  have hlen : (rBack t).length = t.length := by
    unfold rBack
    rw [h, if_pos rfl, sortU_nodup (nodup_map (fun _ _ => back_inj) (okT_nodup h)), List.length_map]
  have hall := okN_map_of_movB (movB_back h)
  have hok : okT (rBack t) = true := by
    have e : rBack t = sortU (t.map (backG (lengthL t))) := by unfold rBack; rw [h]; rfl
    rw [e, okT_sortU hall, decide_eq_true_eq, ← e, hlen]
    exact okT_len h
  have hall2 := okN_map_of_movB (movB_back hok)
  have hlen2 : (rBack (rBack t)).length = t.length := by
    rw [← hlen]
    rw [rBack_ok hok, sortU_nodup (nodup_map (fun _ _ => back_inj) (okT_nodup hok)), List.length_map]
  have e2 : rBack (rBack t) = sortU ((rBack t).map (backG (lengthL (rBack t)))) := rBack_ok hok
  have hok2 : okT (rBack (rBack t)) = true := by
    rw [e2, okT_sortU hall2, decide_eq_true_eq, ← e2, hlen2]
    exact okT_len h
  refine ⟨by unfold cBack; rw [h]; rfl, hok, hlen, by unfold cBack; rw [hok]; rfl, hok2, ?_⟩
  refine .inr fun hp h0 => ?_
  have hmem : ∀ x, x ∈ rBack t ↔ ∃ y ∈ t, backG (lengthL t) y = x := fun x => by
    have e : rBack t = sortU (t.map (backG (lengthL t))) := by unfold rBack; rw [h]; rfl
    rw [e, sortU_mem, List.mem_map]
  have hL : lengthL (rBack t) = lengthL t := by
    have hp2 : 0 < (rBack t).length := by omega
    have hl := lengthL_last hp2
    obtain ⟨y, hy, hy2⟩ := (hmem _).1 (List.getElem_mem (show (rBack t).length - 1 < (rBack t).length by omega))
    have hy3 := (okN_iff.1 (okN_of_okT h hy)).1
    have e1 : lengthL (rBack t) - 1 = lengthL t - 1 - y.1 := by
      rw [hl, ← hy2]; unfold backG; simp
    obtain ⟨i, hi, he⟩ := List.getElem_of_mem ((hmem (backG (lengthL t) t[0])).2 ⟨_, List.getElem_mem hp, rfl⟩)
    have h4 := last_top hok hi
    rw [he] at h4
    have h5 : lengthL t - 1 ≤ lengthL (rBack t) - 1 := by
      have : (backG (lengthL t) t[0]).1 = lengthL t - 1 - t[0].1 := rfl
      rw [this, h0] at h4
      omega
    omega
  rw [e2, hL]
  refine (sortU_rise _).unique (okT_rise h) fun x => ?_
  rw [sortU_mem, List.mem_map]
  constructor
  · rintro ⟨y, hy, rfl⟩
    obtain ⟨z, hz, rfl⟩ := (hmem y).1 hy
    have : backG (lengthL t) (backG (lengthL t) z) = z := by unfold backG; exact Prod.ext (by simp; omega) rfl
    rw [this]; exact hz
  · intro hx
    exact ⟨_, (hmem _).2 ⟨x, hx, rfl⟩, by unfold backG; exact Prod.ext (by simp; omega) rfl⟩
/-! ### cut and put together -/
theorem mem_cut {t : List (Int × Int)} {f g : Int} {x : Int × Int} : x ∈ cutL t f g ↔ ∃ y ∈ t, (f ≤ y.1 ∧ y.1 ≤ g - 1) ∧ (y.1 - f, y.2) = x := by
  unfold cutL
  simp only [List.mem_map, List.mem_filter, inB_iff]
  constructor
  · rintro ⟨y, ⟨h1, h2⟩, h3⟩; exact ⟨y, h1, h2, h3⟩
  · rintro ⟨y, h1, h2, h3⟩; exact ⟨y, ⟨h1, h2⟩, h3⟩
theorem cut_rise {t : List (Int × Int)} (h : Rise t) (f g : Int) : Rise (cutL t f g) := by
  unfold cutL Rise
  rw [List.pairwise_map]
  refine List.Pairwise.imp ?_ (List.Pairwise.filter _ h)
  intro a b hab
  rw [ltN_iff] at hab ⊢
  simp only []
  omega
theorem cut_ok {t : List (Int × Int)} (h : okT t = true) (f g : Int) (hf : 0 ≤ f) : okT (cutL t f g) = true :=
  okT_of_rise (cut_rise (okT_rise h) f g) (fun x hx => by
    obtain ⟨y, hy, hb, rfl⟩ := mem_cut.1 hx
    have := okN_iff.1 (okN_of_okT h hy)
    exact okN_iff.2 (by simp; omega)) (Nat.le_trans (cutL_len t f g) (okT_len h))
theorem cut_facts {t : List (Int × Int)} (h : Drawn t) {a : Int} (ha : 0 ≤ a ∧ a ≤ lengthL t) :
    (cCut t 0 a = 0 ∧ rCut t 0 a = cutL t 0 a) ∧ (cCut t a (lengthL t) = 0 ∧ rCut t a (lengthL t) = cutL t a (lengthL t)) ∧ okT (cutL t 0 a) = true ∧ okT (cutL t a (lengthL t)) = true ∧
    (cMove (cutL t a (lengthL t)) (inB a (-200) 200) 4 (addG a 0) = 0 ∧ rMove (cutL t a (lengthL t)) (inB a (-200) 200) 4 (addG a 0) = (cutL t a (lengthL t)).map (addG a 0)) ∧ okT ((cutL t a (lengthL t)).map (addG a 0)) = true ∧
    (cTog (cutL t 0 a) ((cutL t a (lengthL t)).map (addG a 0)) = 0 ∧ rTog (cutL t 0 a) ((cutL t a (lengthL t)).map (addG a 0)) = t) := by
  have hL := lengthL_bd h.1
  have h1 := cut_ok h.1 0 a (by omega)
  have h2 := cut_ok h.1 a (lengthL t) ha.1
  have h3 : movB (addG a 0) (cutL t a (lengthL t)) = true := movB_all fun i hi => by
    obtain ⟨y, hy, hb, e⟩ := mem_cut.1 (List.getElem_mem hi)
    rw [← e]
    have := okN_iff.1 (okN_of_okT h.1 hy)
    exact okN_iff.2 (by unfold addG; simp; omega)
  have h4 : okT ((cutL t a (lengthL t)).map (addG a 0)) = true := movR_ok h2 h3 (fun p q _ _ _ _ hl => addG_mono a 0 hl)
  have hs : sortU (cutL t 0 a ++ (cutL t a (lengthL t)).map (addG a 0)) = t := by
    refine (sortU_rise _).unique (okT_rise h.1) fun x => ?_
    rw [sortU_mem, List.mem_append, mem_cut, List.mem_map]
    constructor
    · rintro (⟨y, hy, _, rfl⟩ | ⟨z, hz, rfl⟩)
      · rw [show (y.1 - 0, y.2) = y from Prod.ext (by simp) rfl]; exact hy
      · obtain ⟨y, hy, _, rfl⟩ := mem_cut.1 hz
        rw [show addG a 0 (y.1 - a, y.2) = y from Prod.ext (by unfold addG; simp) (by unfold addG; simp)]; exact hy
    · intro hx
      have hb := h.bd hx
      obtain ⟨i, hi, rfl⟩ := List.getElem_of_mem hx
      have ht := last_top h.1 hi
      by_cases hc : t[i].1 ≤ a - 1
      · exact .inl ⟨_, List.getElem_mem hi, ⟨by omega, hc⟩, Prod.ext (by simp) rfl⟩
      · exact .inr ⟨(t[i].1 - a, t[i].2), mem_cut.2 ⟨_, List.getElem_mem hi, ⟨by omega, by omega⟩, rfl⟩, Prod.ext (by unfold addG; simp) (by unfold addG; simp)⟩
  refine ⟨⟨?_, ?_⟩, ⟨?_, ?_⟩, h1, h2, ?_, h4, ?_, ?_⟩
  · unfold cCut; rw [h.1, if_pos rfl, if_pos (by omega)]
  · unfold rCut; rw [h.1, if_pos rfl, if_pos (by omega)]
  · unfold cCut; rw [h.1, if_pos rfl, if_pos (by omega)]
  · unfold rCut; rw [h.1, if_pos rfl, if_pos (by omega)]
  · rw [show inB a (-200) 200 = true from inB_iff.2 (by omega)]
    exact mv_there h2 h3 4
  · unfold cTog cLim; rw [h1, h4, hs]; have := h.2.1; simp; omega
  · unfold rTog rLim; rw [h1, h4, hs]; have := h.2.1; simp; omega
/-! ### inverted -/
theorem inv_facts {t : List (Int × Int)} (h : Drawn t) {s : Int} (hs : 20 ≤ s ∧ s ≤ 27) :
    cMove t (inB s 0 47) 4 (invG s) = 0 ∧ okT (rSort t (inB s 0 47) 4 (invG s)) = true ∧ cMove (rSort t (inB s 0 47) 4 (invG s)) (inB s 0 47) 4 (invG s) = 0 ∧ rSort (rSort t (inB s 0 47) 4 (invG s)) (inB s 0 47) 4 (invG s) = t := by
  rw [show inB s 0 47 = true from inB_iff.2 (by omega)]
  have h1 : movB (invG s) t = true := movB_all fun i hi => by
    have := h.bd (List.getElem_mem hi)
    exact okN_iff.2 (by unfold invG; simp; omega)
  obtain ⟨e1, e2⟩ := mv_there h.1 h1 4
  have hsort : rSort t true 4 (invG s) = sortU (t.map (invG s)) := by unfold rSort; rw [e2]
  have hall := okN_map_of_movB h1
  have hok : okT (sortU (t.map (invG s))) = true := by
    rw [okT_sortU hall, decide_eq_true_eq]
    have := sortU_len (t.map (invG s))
    have := h.2.1
    rw [List.length_map] at *
    omega
  have hinv : ∀ x, invG s (invG s x) = x := fun x => by unfold invG; exact Prod.ext rfl (by simp; omega)
  have h2 : movB (invG s) (sortU (t.map (invG s))) = true := by
    unfold movB
    rw [List.all_eq_true]
    intro x hx
    obtain ⟨y, hy, rfl⟩ := List.mem_map.1 ((sortU_mem _ _).1 hx)
    rw [hinv]; exact okN_of_okT h.1 hy
  obtain ⟨e3, e4⟩ := mv_there hok h2 4
  refine ⟨e1, by rw [hsort]; exact hok, by rw [hsort]; exact e3, ?_⟩
  rw [hsort]
  unfold rSort
  rw [e4]
  refine (sortU_rise _).unique (okT_rise h.1) fun x => ?_
  rw [sortU_mem, List.mem_map]
  constructor
  · rintro ⟨y, hy, rfl⟩
    obtain ⟨z, hz, rfl⟩ := List.mem_map.1 ((sortU_mem _ _).1 hy)
    rw [hinv]; exact hz
  · intro hx
    exact ⟨invG s x, (sortU_mem _ _).2 (List.mem_map.2 ⟨x, hx, rfl⟩), hinv x⟩
/-! ### made -/
theorem make_facts {t : List (Int × Int)} (h : okT t = true) : cMake (t ++ t) = 0 ∧ rMake (t ++ t) = t := by
  have ha : (t ++ t).all okN = true := by
    rw [List.all_eq_true]
    exact okN_two h h
  have hs : sortU (t ++ t) = t := (sortU_rise _).unique (okT_rise h) fun x => by rw [sortU_mem, List.mem_append]; simp
  have hl := okT_len h
  constructor
  · unfold cMake cLim; rw [ha, hs, if_pos rfl, if_pos hl]
  · unfold rMake rLim; rw [ha, hs, if_pos rfl, if_pos hl]
theorem len_facts {t : List (Int × Int)} (h : Drawn t) : cT t = 0 ∧ rLengthOf t = lengthL t ∧ 0 ≤ lengthL t ∧ lengthL t ≤ 200 := by
  have := lengthL_bd h.1
  refine ⟨by unfold cT; rw [h.1]; rfl, by unfold rLengthOf; rw [h.1]; rfl, this.1, this.2⟩
end Go.Proofs.YtnakdlfjjeligaaGreat
