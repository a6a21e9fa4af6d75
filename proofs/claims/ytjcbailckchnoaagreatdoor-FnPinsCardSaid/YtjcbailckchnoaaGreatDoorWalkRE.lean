/-
  The reference's reading of a numeral; notes and hammers out of texts.
-/
import Derived.Test.YtjcbailckchnoaaGreatDoorWalkRD
namespace Go.Proofs.YtjcbailckchnoaaGreatDoor
open Go.RowKit
set_option linter.unusedVariables false
set_option linter.unusedSimpArgs false
set_option maxRecDepth 4000

def numB (t : List UInt8) : Value := .tuple #[.int .i64 (numZ (num t)), .bool (num t).isSome]
theorem numB_none {t : List UInt8} (h : num t = none) : numB t = .tuple #[.int .i64 0, .bool false] := by unfold numB; rw [h]; rfl
theorem numB_some {n : Nat} {t : List UInt8} (h : num t = some n) : numB t = .tuple #[.int .i64 (n : Int), .bool true] := by unfold numB; rw [h]; rfl
theorem decFrom_lt {l : List UInt8} : ∀ {acc n k : Nat}, Lib.decFrom acc l = some n → acc < 10 ^ k → n < 10 ^ (k + l.length) := by
  induction l with
  | nil => intro acc n k h1 h2; simp only [Lib.decFrom, Option.some.injEq] at h1; subst h1; simpa using h2
  | cons a t ih =>
    intro acc n k h1 h2
    unfold Lib.decFrom at h1
    cases hd : Lib.digitVal a with
    | none => rw [hd] at h1; cases h1
    | some d =>
      rw [hd] at h1
      have hd2 := (digitVal_inv hd).2
      have := ih (k := k + 1) h1 (by rw [Nat.pow_succ]; omega)
      rw [List.length_cons, show k + (t.length + 1) = k + 1 + t.length by omega]
      exact this



/-! ### what is read -/
theorem spl_piece (c : UInt8) : ∀ (s : List UInt8), ∀ x ∈ spl c s, x.length ≤ s.length
  | [], x, hx => by simp [spl] at hx; subst hx; simp
  | b :: l, x, hx => by
    have ih := spl_piece c l
    unfold spl at hx
    split at hx
    · rcases List.mem_cons.1 hx with rfl | hx
      · simp
      · have := ih x hx; simp; omega
    · cases h : spl c l with
      | nil => exact absurd h (spl_ne c l)
      | cons y ys =>
        rw [h] at hx ih
        simp only [addH, List.mem_cons] at hx
        rcases hx with rfl | hx
        · have := ih y (by simp); simp; omega
        · have := ih x (by simp [hx]); simp; omega
theorem num_nil : num [] = none := by unfold num; rw [if_pos (.inl rfl)]
theorem numI_nil (m : Nat) : numI m [] = none := by unfold numI; rw [num_nil]
theorem numI_out {m : Nat} {t : List UInt8} {c : UInt8} (hc : c ∈ t) (h : c.toNat < 48 ∨ 57 < c.toNat) : numI m t = none := by
  cases hq : numI m t with
  | none => rfl
  | some n => have := num_mem (numI_some.1 hq).1 c hc; omega
theorem nameP_ne {n : Nat} : nameP n ≠ [] := by
  unfold nameP
  intro e
  exact dec_ne _ (List.append_eq_nil_iff.1 e).2
theorem pit_nil : pit [] = none := pit_none (fun i _ => nameP_ne)
theorem nameP_mem {n : Nat} (h : n < 48) : ∀ c ∈ nameP n, c.toNat ≠ 58 := by
  intro c hc
  unfold nameP at hc
  rw [dec_small (by omega)] at hc
  rcases List.mem_append.1 hc with hc | hc
  · have : ∀ r, r < 12 → ∀ c ∈ pNames.getD r [], c.toNat ≠ 58 := by
      intro r hr
      match r, hr with
      | 0, _ => decide
      | 1, _ => decide
      | 2, _ => decide
      | 3, _ => decide
      | 4, _ => decide
      | 5, _ => decide
      | 6, _ => decide
      | 7, _ => decide
      | 8, _ => decide
      | 9, _ => decide
      | 10, _ => decide
      | 11, _ => decide
      | r + 12, hr => omega
    exact this (n % 12) (Nat.mod_lt _ (by omega)) c hc
  · simp only [List.mem_cons, List.mem_nil_iff, or_false] at hc
    subst hc
    rw [UInt8.toNat_ofNat', Nat.mod_eq_of_lt (by omega)]
    omega
theorem pit_out {t : List UInt8} (h : (58 : UInt8) ∈ t) : pit t = none := by
  cases hq : pit t with
  | none => rfl
  | some k =>
    obtain ⟨h1, h2⟩ := pit_inv hq
    subst h2
    exact absurd rfl (nameP_mem h1 58 h)
/-- Two readings that both succeed. -/
def both (a b : Option Nat) : Option (Int × Int) := match a, b with
  | some x, some y => some ((x : Int), (y : Int))
  | _, _ => none
theorem both_none1 (b : Option Nat) : both none b = none := rfl
theorem both_none2 (a : Option Nat) : both a none = none := by cases a <;> rfl
/-- A hammer out of its text, a note out of its text. -/
def hamO (t : List UInt8) : Option (Int × Int) := match spl 47 t with
  | [a, b] => both (pit a) (numI 20 b)
  | _ => none
def notO (t : List UInt8) : Option (Int × Int) := match spl 58 t with
  | [a, b] => both (numI 199 a) (pit b)
  | _ => none
theorem hamO_cut (t : List UInt8) : both (pit (Lib.cut t [47]).1) (numI 20 (Lib.cut t [47]).2.1) = hamO t := by
  unfold hamO
  rcases index_cases t 47 with h | ⟨i, h⟩
  · rw [cut_miss h, spl_miss h]
    exact both_none2 _
  · rw [cut_hit h, (spl_hit h).2]
    rcases index_cases (t.drop (i + 1)) 47 with h2 | ⟨j, h2⟩
    · rw [spl_miss h2]
    · rw [(spl_hit h2).2]
      show both _ (numI 20 (t.drop (i + 1))) = _
      rw [numI_out (index_mem h2) (by decide), both_none2]
      cases hq : spl 47 ((t.drop (i + 1)).drop (j + 1)) with
      | nil => exact absurd hq (spl_ne _ _)
      | cons y ys => rfl
theorem notO_cut (t : List UInt8) : both (numI 199 (Lib.cut t [58]).1) (pit (Lib.cut t [58]).2.1) = notO t := by
  unfold notO
  rcases index_cases t 58 with h | ⟨i, h⟩
  · rw [cut_miss h, spl_miss h]
    show both _ (pit []) = _
    rw [pit_nil]
    exact both_none2 _
  · rw [cut_hit h, (spl_hit h).2]
    rcases index_cases (t.drop (i + 1)) 58 with h2 | ⟨j, h2⟩
    · rw [spl_miss h2]
    · rw [(spl_hit h2).2]
      show both _ (pit (t.drop (i + 1))) = _
      rw [pit_out (index_mem h2), both_none2]
      cases hq : spl 58 ((t.drop (i + 1)).drop (j + 1)) with
      | nil => exact absurd hq (spl_ne _ _)
      | cons y ys => rfl
theorem both_some {a b : Option Nat} {p : Int × Int} (h : both a b = some p) : ∃ x y : Nat, a = some x ∧ b = some y ∧ p = ((x : Int), (y : Int)) := by
  cases a with
  | none => cases h
  | some x => cases b with
    | none => cases h
    | some y => exact ⟨x, y, rfl, rfl, by simpa [both] using h.symm⟩
theorem hamO_bd {t : List UInt8} {p : Int × Int} (h : hamO t = some p) : 0 ≤ p.1 ∧ p.1 ≤ 47 ∧ 0 ≤ p.2 ∧ p.2 ≤ 20 := by
  rw [← hamO_cut] at h
  obtain ⟨x, y, h1, h2, rfl⟩ := both_some h
  have := (pit_inv h1).1
  have := (numI_some.1 h2).2
  simp; omega
theorem notO_bd {t : List UInt8} {p : Int × Int} (h : notO t = some p) : 0 ≤ p.1 ∧ p.1 ≤ 199 ∧ 0 ≤ p.2 ∧ p.2 ≤ 47 := by
  rw [← notO_cut] at h
  obtain ⟨x, y, h1, h2, rfl⟩ := both_some h
  have := (pit_inv h2).1
  have := (numI_some.1 h1).2
  simp; omega
/-- The first k pieces read. -/
def got (f : List UInt8 → Option (Int × Int)) (P : List (List UInt8)) (k : Nat) : List (Int × Int) := (P.take k).filterMap f
theorem got_zero (f : List UInt8 → Option (Int × Int)) (P : List (List UInt8)) : got f P 0 = [] := rfl
theorem got_succ {f : List UInt8 → Option (Int × Int)} {P : List (List UInt8)} {k : Nat} (h : k < P.length) {p : Int × Int} (hp : f P[k] = some p) : got f P (k + 1) = got f P k ++ [p] := by
  unfold got
  rw [List.take_add_one, List.getElem?_eq_getElem h, Option.toList_some, List.filterMap_append]
  simp [hp]
theorem got_len (f : List UInt8 → Option (Int × Int)) (P : List (List UInt8)) (k : Nat) : (got f P k).length ≤ P.length := by
  unfold got
  refine Nat.le_trans (List.length_filterMap_le _ _) ?_
  rw [List.length_take]; omega
theorem got_mem {f : List UInt8 → Option (Int × Int)} {P : List (List UInt8)} {k : Nat} {p : Int × Int} (h : p ∈ got f P k) : ∃ t, f t = some p := by
  unfold got at h
  obtain ⟨t, _, ht⟩ := List.mem_filterMap.1 h
  exact ⟨t, ht⟩
def allO (f : List UInt8 → Option (Int × Int)) (P : List (List UInt8)) : Bool := P.all fun t => (f t).isSome
theorem allO_bad {f : List UInt8 → Option (Int × Int)} {P : List (List UInt8)} {k : Nat} (h : k < P.length) (hp : f P[k] = none) : allO f P = false := by
  unfold allO
  rw [List.all_eq_false]
  exact ⟨P[k], List.getElem_mem h, by simp [hp]⟩
theorem allO_ok {f : List UInt8 → Option (Int × Int)} {P : List (List UInt8)} (h : ∀ k (hk : k < P.length), (f P[k]).isSome = true) : allO f P = true := by
  unfold allO
  rw [List.all_eq_true]
  intro x hx
  obtain ⟨k, hk, rfl⟩ := List.getElem_of_mem hx
  exact h k hk
end Go.Proofs.YtjcbailckchnoaaGreatDoor
