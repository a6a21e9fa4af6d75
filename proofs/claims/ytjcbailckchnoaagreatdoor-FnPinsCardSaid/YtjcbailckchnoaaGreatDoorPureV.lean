/-
  The plain side of reading texts: cut at a letter, numerals, notes and hammers. No program in it.
-/
import Derived.Lib.Split
import Derived.Lib.SplitLaws
import Derived.Lib.IndexMore
import Derived.Lib.Atoi
import Derived.Lib.AtoiTie
import Derived.Lib.ParseIntBTie
import Derived.Lib.ItoaNum
namespace Go.Proofs.YtjcbailckchnoaaGreatDoor
set_option linter.unusedVariables false
set_option linter.unusedSimpArgs false

/-- A text put ahead of the first piece. -/
def addH (x : List UInt8) : List (List UInt8) → List (List UInt8)
  | [] => [x]
  | y :: ys => (x ++ y) :: ys
theorem addH_nil {z : List (List UInt8)} (h : z ≠ []) : addH [] z = z := by
  cases z with
  | nil => exact absurd rfl h
  | cons y ys => rfl
theorem addH_addH (x y : List UInt8) (z : List (List UInt8)) : addH x (addH y z) = addH (x ++ y) z := by
  cases z with
  | nil => rfl
  | cons u us => simp [addH]
/-- The pieces of a text between the letters c. -/
def spl (c : UInt8) : List UInt8 → List (List UInt8)
  | [] => [[]]
  | b :: l => if b = c then [] :: spl c l else addH [b] (spl c l)
theorem spl_ne (c : UInt8) (s : List UInt8) : spl c s ≠ [] := by
  cases s with
  | nil => simp [spl]
  | cons b l =>
    unfold spl
    split
    · simp
    · cases h : spl c l <;> simp [addH]
theorem spl_len (c : UInt8) : ∀ s : List UInt8, (spl c s).length ≤ s.length + 1
  | [] => by simp [spl]
  | b :: l => by
    have ih := spl_len c l
    unfold spl
    split
    · simp; omega
    · cases h : spl c l with
      | nil => simp [addH]
      | cons y ys => rw [h] at ih; simp [addH] at ih ⊢; omega
theorem pre_one (c b : UInt8) (l : List UInt8) : [c].isPrefixOf (b :: l) = (c == b) := by simp [List.isPrefixOf]
theorem spl_miss {c : UInt8} : ∀ {s : List UInt8}, Lib.index s [c] = -1 → spl c s = [s]
  | [], _ => rfl
  | b :: l, h => by
    unfold Lib.index at h
    rw [pre_one] at h
    by_cases hc : c = b
    · subst hc; simp at h
    · rw [if_neg (by simpa using hc)] at h
      have hl : Lib.index l [c] = -1 := by
        by_cases hq : Lib.index l [c] = -1
        · exact hq
        · rw [if_neg (by simpa using hq)] at h
          have := Lib.index_ge l [c]
          omega
      unfold spl
      rw [if_neg (fun e => hc e.symm), spl_miss hl]
      rfl
theorem spl_hit {c : UInt8} : ∀ {s : List UInt8} {i : Nat}, Lib.index s [c] = (i : Int) → i < s.length ∧ spl c s = s.take i :: spl c (s.drop (i + 1))
  | [], i, h => by simp [Lib.index] at h <;> omega
  | b :: l, i, h => by
    unfold Lib.index at h
    rw [pre_one] at h
    by_cases hc : c = b
    · subst hc
      rw [if_pos (by simp)] at h
      obtain rfl : i = 0 := by omega
      exact ⟨by simp, by simp [spl]⟩
    · rw [if_neg (by simpa using hc)] at h
      by_cases hq : Lib.index l [c] = -1
      · rw [if_pos (by simpa using hq)] at h; omega
      · rw [if_neg (by simpa using hq)] at h
        obtain ⟨j, rfl⟩ : ∃ j, i = j + 1 := ⟨i - 1, by have := Lib.index_ge l [c]; omega⟩
        obtain ⟨h1, h2⟩ := spl_hit (c := c) (s := l) (i := j) (by omega)
        refine ⟨by simp; omega, ?_⟩
        conv => lhs; unfold spl
        rw [if_neg (fun e => hc e.symm), h2]
        rfl
theorem splitK_spl (c : UInt8) : ∀ (fuel : Nat) (s : List UInt8), s.length < fuel → Lib.splitK [c] 0 (Lib.countFrom [c] fuel s) s = spl c s
  | 0, _, h => by omega
  | fuel + 1, s, h => by
    unfold Lib.countFrom
    by_cases hi : Lib.index s [c] = -1
    · rw [if_pos (by simpa using hi), spl_miss hi]; rfl
    · rw [if_neg (by simpa using hi)]
      obtain ⟨i, hi2⟩ := Int.eq_ofNat_of_zero_le (show 0 ≤ Lib.index s [c] by have := Lib.index_ge s [c]; omega)
      obtain ⟨h1, h2⟩ := spl_hit hi2
      rw [h2, Nat.add_comm 1]
      unfold Lib.splitK
      rw [if_neg (by simpa using hi), hi2]
      simp only [Int.toNat_natCast, Nat.add_zero, List.length_cons, List.length_nil, Nat.zero_add]
      rw [splitK_spl c fuel (s.drop (i + 1)) (by simp; omega)]
theorem split_spl (c : UInt8) (s : List UInt8) : Lib.split s [c] = spl c s := splitK_spl c (s.length + 1) s (Nat.lt_succ_self _)
theorem countF_spl (c : UInt8) : ∀ (fuel : Nat) (s : List UInt8), s.length < fuel → (spl c s).length = Lib.countFrom [c] fuel s + 1
  | 0, _, h => by omega
  | fuel + 1, s, h => by
    unfold Lib.countFrom
    by_cases hi : Lib.index s [c] = -1
    · rw [if_pos (by simpa using hi), spl_miss hi]; rfl
    · rw [if_neg (by simpa using hi)]
      obtain ⟨i, hi2⟩ := Int.eq_ofNat_of_zero_le (show 0 ≤ Lib.index s [c] by have := Lib.index_ge s [c]; omega)
      obtain ⟨h1, h2⟩ := spl_hit hi2
      have ih := countF_spl c fuel (s.drop (i + 1)) (by simp; omega)
      rw [h2, List.length_cons, ih, hi2]
      simp only [Int.toNat_natCast, List.length_cons, List.length_nil, Nat.zero_add]
      omega
theorem count_spl (c : UInt8) (s : List UInt8) : (spl c s).length = Lib.count s [c] + 1 := countF_spl c (s.length + 1) s (Nat.lt_succ_self _)
/-- strings.Cut at one letter, by its pieces. -/
theorem cut_miss {c : UInt8} {s : List UInt8} (h : Lib.index s [c] = -1) : Lib.cut s [c] = (s, [], false) := by
  unfold Lib.cut; rw [if_neg (by omega)]
theorem cut_hit {c : UInt8} {s : List UInt8} {i : Nat} (h : Lib.index s [c] = (i : Int)) : Lib.cut s [c] = (s.take i, s.drop (i + 1), true) := by
  unfold Lib.cut; rw [if_pos (by omega), h]; simp
theorem index_cases (s : List UInt8) (c : UInt8) : Lib.index s [c] = -1 ∨ ∃ i : Nat, Lib.index s [c] = (i : Int) := by
  by_cases h : Lib.index s [c] = -1
  · exact .inl h
  · exact .inr (Int.eq_ofNat_of_zero_le (show 0 ≤ Lib.index s [c] by have := Lib.index_ge s [c]; omega))
theorem index_mem {c : UInt8} : ∀ {s : List UInt8} {i : Nat}, Lib.index s [c] = (i : Int) → c ∈ s
  | [], i, h => by simp [Lib.index] at h <;> omega
  | b :: l, i, h => by
    unfold Lib.index at h
    rw [pre_one] at h
    by_cases hc : c = b
    · subst hc; simp
    · rw [if_neg (by simpa using hc)] at h
      by_cases hq : Lib.index l [c] = -1
      · rw [if_pos (by simpa using hq)] at h; omega
      · rw [if_neg (by simpa using hq)] at h
        obtain ⟨j, rfl⟩ : ∃ j, i = j + 1 := ⟨i - 1, by have := Lib.index_ge l [c]; omega⟩
        exact List.mem_cons_of_mem _ (index_mem (c := c) (s := l) (i := j) (by omega))

/-! ### numerals -/
theorem decFrom_mem {l : List UInt8} : ∀ {acc n : Nat}, Lib.decFrom acc l = some n → ∀ b ∈ l, 48 ≤ b.toNat ∧ b.toNat ≤ 57 := by
  induction l with
  | nil => intro _ _ _ b hb; cases hb
  | cons a t ih =>
    intro acc n h b hb
    unfold Lib.decFrom at h
    cases hd : Lib.digitVal a with
    | none => rw [hd] at h; cases h
    | some d =>
      rw [hd] at h
      unfold Lib.digitVal at hd
      split at hd
      · rename_i hx
        rcases List.mem_cons.1 hb with rfl | hb
        · exact hx
        · exact ih h b hb
      · cases hd
theorem decFrom_append (l : List UInt8) (x : UInt8) : ∀ acc, Lib.decFrom acc (l ++ [x]) = (Lib.decFrom acc l).bind fun n => (Lib.digitVal x).map fun d => n * 10 + d := by
  induction l with
  | nil =>
    intro acc
    simp only [List.nil_append, Lib.decFrom, Option.bind_some]
    cases Lib.digitVal x <;> rfl
  | cons a t ih =>
    intro acc
    rw [List.cons_append]
    unfold Lib.decFrom
    cases Lib.digitVal a with
    | none => rfl
    | some d => exact ih _
theorem digitVal_ofNat {d : Nat} (h : d < 10) : Lib.digitVal (UInt8.ofNat (48 + d)) = some d := by
  unfold Lib.digitVal
  have : (UInt8.ofNat (48 + d)).toNat = 48 + d := by rw [UInt8.toNat_ofNat', Nat.mod_eq_of_lt (by omega)]
  rw [this, if_pos (by omega)]
  simp
theorem digitVal_inv {x : UInt8} {d : Nat} (h : Lib.digitVal x = some d) : x = UInt8.ofNat (48 + d) ∧ d < 10 := by
  unfold Lib.digitVal at h
  split at h
  · rename_i hx
    simp only [Option.some.injEq] at h
    refine ⟨?_, by omega⟩
    rw [← h, show 48 + (x.toNat - 48) = x.toNat by omega, UInt8.ofNat_toNat]
  · cases h
/-- A numeral as the reference reads it: at most ten digits, no needless nought. -/
def num (t : List UInt8) : Option Nat := if t = [] ∨ 10 < t.length ∨ (t.head? = some 48 ∧ 1 < t.length) then none else Lib.decFrom 0 t
theorem decS {n : Nat} (h : n < 10) : Lib.decDigits n = [UInt8.ofNat (48 + n)] := by rw [Lib.decDigits, dif_pos h]
theorem decB {n : Nat} (h : ¬ n < 10) : Lib.decDigits n = Lib.decDigits (n / 10) ++ [UInt8.ofNat (48 + n % 10)] := by rw [Lib.decDigits, dif_neg h]
theorem dec_ne (n : Nat) : Lib.decDigits n ≠ [] := by
  by_cases h : n < 10
  · rw [decS h]; simp
  · rw [decB h]; simp
theorem decFrom_dec : ∀ n : Nat, Lib.decFrom 0 (Lib.decDigits n) = some n := by
  intro n
  induction n using Nat.strongRecOn with
  | _ n ih =>
    by_cases h : n < 10
    · rw [decS h]
      simp only [Lib.decFrom, digitVal_ofNat h]
      simp
    · rw [decB h, decFrom_append, ih _ (Nat.div_lt_self (by omega) (by omega)), Option.bind_some, digitVal_ofNat (Nat.mod_lt _ (by omega)), Option.map_some]
      congr 1
      omega
theorem dec_head : ∀ n : Nat, 0 < n → (Lib.decDigits n).head? ≠ some 48 := by
  intro n
  induction n using Nat.strongRecOn with
  | _ n ih =>
    intro hn
    by_cases h : n < 10
    · rw [decS h]
      intro e
      simp only [List.head?_cons, Option.some.injEq] at e
      have := congrArg UInt8.toNat e
      rw [UInt8.toNat_ofNat', Nat.mod_eq_of_lt (by omega)] at this
      simp at this
      omega
    · rw [decB h]
      have h2 := ih (n / 10) (Nat.div_lt_self (by omega) (by omega)) (by omega)
      cases hq : Lib.decDigits (n / 10) with
      | nil => exact absurd hq (dec_ne _)
      | cons a r => rw [hq] at h2; simpa using h2
theorem dec_small_len {n : Nat} (h : n < 1000) : (Lib.decDigits n).length ≤ 3 := by
  by_cases h1 : n < 10
  · rw [decS h1]; simp
  · rw [decB h1]
    by_cases h2 : n / 10 < 10
    · rw [decS h2]; simp
    · rw [decB h2, decS (by omega)]; simp
theorem num_dec {n : Nat} (h : n < 1000) : num (Lib.decDigits n) = some n := by
  unfold num
  have h3 := dec_small_len h
  rw [if_neg, decFrom_dec]
  intro hx
  rcases hx with hx | hx | ⟨hx, hy⟩
  · exact dec_ne n hx
  · omega
  · by_cases h0 : 0 < n
    · exact dec_head n h0 hx
    · obtain rfl : n = 0 := by omega
      rw [decS (by omega)] at hy; simp at hy
/-- A numeral without a needless nought is the decimal digits of its value. -/
theorem dec_of {t : List UInt8} : t ≠ [] → (1 < t.length → t.head? ≠ some 48) → ∀ {n : Nat}, Lib.decFrom 0 t = some n → t = Lib.decDigits n ∧ (1 < t.length → 10 ≤ n) := by
  induction h : t.length generalizing t with
  | zero => intro h1; exact absurd (List.length_eq_zero_iff.1 h) h1
  | succ m ih =>
    intro h1 h2 n hn
    obtain ⟨l, x, rfl⟩ : ∃ l x, t = l ++ [x] := ⟨t.dropLast, t.getLast h1, (List.dropLast_concat_getLast h1).symm⟩
    rw [decFrom_append] at hn
    cases hv : Lib.decFrom 0 l with
    | none => rw [hv] at hn; cases hn
    | some v =>
      rw [hv, Option.bind_some] at hn
      cases hd : Lib.digitVal x with
      | none => rw [hd] at hn; cases hn
      | some d =>
        rw [hd] at hn
        simp only [Option.map_some, Option.some.injEq] at hn
        obtain ⟨rfl, hd10⟩ := digitVal_inv hd
        by_cases hl : l = []
        · subst hl
          simp only [Lib.decFrom, Option.some.injEq] at hv
          obtain rfl : n = d := by omega
          exact ⟨by rw [decS hd10]; rfl, fun e => by simp at h; omega⟩
        · have hlen : l.length = m := by simp at h; exact h
          have hpos : 0 < l.length := List.length_pos_iff.2 hl
          have hh : l.head? ≠ some 48 := by
            have := h2 (by omega)
            cases l with
            | nil => exact absurd rfl hl
            | cons a r => simpa using this
          obtain ⟨e1, e2⟩ := ih hlen hl (fun _ => hh) hv
          have hv1 : 1 ≤ v := by
            by_cases h0 : v = 0
            · subst h0
              by_cases h1l : 1 < m
              · have := e2 h1l; omega
              · exfalso
                rw [e1, decS (by omega)] at hh
                exact hh rfl
            · omega
          have hn10 : ¬ n < 10 := by omega
          refine ⟨?_, fun _ => by omega⟩
          rw [decB hn10, show n / 10 = v by omega, show n % 10 = d by omega, ← e1]
theorem num_inv {t : List UInt8} {n : Nat} (h : num t = some n) : t = Lib.decDigits n := by
  unfold num at h
  split at h
  · cases h
  · rename_i hx
    exact (dec_of (fun e => hx (.inl e)) (fun hl e => hx (.inr (.inr ⟨e, hl⟩))) h).1
theorem num_mem {t : List UInt8} {n : Nat} (h : num t = some n) : ∀ b ∈ t, 48 ≤ b.toNat ∧ b.toNat ≤ 57 := by
  unfold num at h
  split at h
  · cases h
  · exact decFrom_mem h
theorem parse_dec {n : Nat} (h : n < 1000) : Lib.parseIntB 64 (Lib.decDigits n) = .ok (n : Int) := by
  rw [Lib.parseIntB_64, Lib.atoiAll_short _ (by have := dec_small_len h; omega)]
  have hd := decFrom_dec n
  have hmem := decFrom_mem hd
  cases hq : Lib.decDigits n with
  | nil => exact absurd hq (dec_ne n)
  | cons b r =>
    rw [hq] at hd hmem
    have hb := hmem b (by simp)
    have h45 : (b == 45) = false := by
      rw [beq_eq_false_iff_ne]; intro e; subst e; simp at hb
    have h43 : (b == 43) = false := by
      rw [beq_eq_false_iff_ne]; intro e; subst e; simp at hb
    unfold Lib.atoi
    simp only [h45, h43, Bool.false_eq_true, if_false]
    unfold Lib.decNat
    simp only [List.isEmpty_cons, Bool.false_eq_true, if_false, hd, Option.map_some]
    rfl
/-- A numeral up to a bound. -/
def numI (m : Nat) (t : List UInt8) : Option Nat := match num t with
  | some n => if n ≤ m then some n else none
  | none => none
theorem numI_some {m : Nat} {t : List UInt8} {n : Nat} : numI m t = some n ↔ num t = some n ∧ n ≤ m := by
  unfold numI
  cases num t with
  | none => simp
  | some k => simp only [Option.some.injEq]; split <;> simp <;> omega
/-- What the program asks of a text. -/
theorem numI_iff {m : Nat} (hm : m < 1000) (t : List UInt8) (n : Nat) : numI m t = some n ↔ t = Lib.decDigits n ∧ n ≤ m := by
  rw [numI_some]
  constructor
  · rintro ⟨h1, h2⟩; exact ⟨num_inv h1, h2⟩
  · rintro ⟨rfl, h2⟩; exact ⟨num_dec (by omega), h2⟩
end Go.Proofs.YtjcbailckchnoaaGreatDoor
