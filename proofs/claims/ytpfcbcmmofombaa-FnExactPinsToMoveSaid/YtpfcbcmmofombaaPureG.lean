/-
  The plain side of counting pins. No program and no memory in it.
-/
import Derived.Test.YtpfcbcmmofombaaPureF
import Derived.Lib.Tables
namespace Go.Proofs.Ytpfcbcmmofombaa
set_option linter.unusedVariables false
set_option linter.unusedSimpArgs false

/-- The ones among the lowest k bits of n. -/
def popF : Nat → Nat → Nat
  | 0, _ => 0
  | k + 1, n => n % 2 + popF k (n / 2)
theorem popF_zero (k : Nat) : popF k 0 = 0 := by
  induction k with
  | zero => rfl
  | succ k ih => simp [popF, ih]
theorem popF_le (k : Nat) : ∀ n, popF k n ≤ k := by
  induction k with
  | zero => intro n; exact Nat.le_refl _
  | succ k ih => intro n; have := ih (n / 2); simp only [popF]; omega
theorem popF_split (a b : Nat) : ∀ n, popF (a + b) n = popF a (n % 2 ^ a) + popF b (n / 2 ^ a) := by
  induction a with
  | zero => intro n; simp [popF]
  | succ a ih =>
    intro n
    rw [show a + 1 + b = (a + b) + 1 by omega]
    simp only [popF]
    rw [ih (n / 2)]
    have h1 : n % 2 ^ (a + 1) % 2 = n % 2 := by
      rw [Nat.pow_succ, Nat.mul_comm, Nat.mod_mul_right_mod]
    have h2 : n % 2 ^ (a + 1) / 2 = n / 2 % 2 ^ a := by
      rw [Nat.pow_succ, Nat.mul_comm, Nat.mod_mul_right_div_self]
    have h3 : n / 2 / 2 ^ a = n / 2 ^ (a + 1) := by
      rw [Nat.div_div_eq_div_mul, Nat.pow_succ, Nat.mul_comm 2]
    rw [h1, h2, h3]
    omega
theorem popF_more (k : Nat) : ∀ n, n < 2 ^ k → ∀ j, popF (k + j) n = popF k n := by
  intro n hn j
  rw [popF_split, Nat.mod_eq_of_lt hn, Nat.div_eq_of_lt hn, popF_zero]
  rfl
theorem pop8_eq : ∀ i : Nat, i < 256 → Lib.pop8 (i : Int) = (popF 8 i : Int) := by decide +kernel
/-- The ones of a number of 32 bits. -/
def popI (x : Int) : Int := (popF 32 x.toNat : Int)
theorem popI_bd (x : Int) : 0 ≤ popI x ∧ popI x ≤ 32 := by
  have := popF_le 32 x.toNat
  unfold popI; omega
theorem popI_bytes (n : Nat) (h : n < 2 ^ 32) : popF 32 n = popF 8 (n / 2 ^ 24) + popF 8 (n / 2 ^ 16 % 256) + popF 8 (n / 2 ^ 8 % 256) + popF 8 (n % 256) := by
  have e1 : popF 32 n = popF 8 (n % 2 ^ 8) + popF 24 (n / 2 ^ 8) := popF_split 8 24 n
  have e2 : popF 24 (n / 2 ^ 8) = popF 8 (n / 2 ^ 8 % 2 ^ 8) + popF 16 (n / 2 ^ 8 / 2 ^ 8) := popF_split 8 16 (n / 2 ^ 8)
  have e3 : popF 16 (n / 2 ^ 8 / 2 ^ 8) = popF 8 (n / 2 ^ 8 / 2 ^ 8 % 2 ^ 8) + popF 8 (n / 2 ^ 8 / 2 ^ 8 / 2 ^ 8) := popF_split 8 8 (n / 2 ^ 8 / 2 ^ 8)
  have h1 : n / 2 ^ 8 / 2 ^ 8 = n / 2 ^ 16 := by rw [Nat.div_div_eq_div_mul]
  have h2 : n / 2 ^ 16 / 2 ^ 8 = n / 2 ^ 24 := by rw [Nat.div_div_eq_div_mul]
  rw [h1] at e2 e3
  rw [h2] at e3
  have h4 : (2 : Nat) ^ 8 = 256 := rfl
  rw [h4] at e1 e2 e3 ⊢
  omega
def popL (d : List Int) : Int := (d.map popI).foldl (· + ·) 0
theorem popL_snoc (d : List Int) (k : Nat) (h : k < d.length) : popL (d.take (k + 1)) = popL (d.take k) + popI d[k] := by
  unfold popL; rw [List.take_succ_eq_append_getElem h, List.map_append, List.foldl_append]; rfl
theorem popL_bd (d : List Int) : ∀ k, k ≤ d.length → 0 ≤ popL (d.take k) ∧ popL (d.take k) ≤ 32 * (k : Int)
  | 0, _ => by simp [popL]
  | k + 1, h => by
    have := popL_bd d k (by omega)
    have h2 := popI_bd (d[k]'(by omega))
    rw [popL_snoc d k (by omega)]
    omega
noncomputable def rCountPins (s : Int) (hs : List (Int × Int)) (d : List Int) : Int := if vD s hs d then popL d else 0
/-- What d has and e has not. -/
def lessD (d e : List Int) : List Int := (d.zip e).map fun p => bits .andNot .u32 p.1 p.2

end Go.Proofs.Ytpfcbcmmofombaa
