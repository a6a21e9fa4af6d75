/-
  Tracks that are exchanged: the words of a drum, the hammers of a frame. Plain: no program in it.
-/
import Derived.Test.YtnakdlfjjeligaaGreatWalkDP
namespace Go.Proofs.YtnakdlfjjeligaaGreat
open Go.RowKit
set_option linter.unusedVariables false
set_option linter.unusedSimpArgs false
set_option maxRecDepth 4000

theorem bits_or (x m : Int) : bits .or .u32 x m = (((BitVec.ofInt 32 x ||| BitVec.ofInt 32 m).toNat : Nat) : Int) := by
  have : bits .or .u32 x m = IntKind.u32.wrap (((BitVec.ofInt 32 x ||| BitVec.ofInt 32 m).toNat : Nat) : Int) := rfl
  rw [this]; exact IntWalk.u32_in _ (by have := (BitVec.ofInt 32 x ||| BitVec.ofInt 32 m).isLt; omega)
theorem bits_xor (x m : Int) : bits .xor .u32 x m = (((BitVec.ofInt 32 x ^^^ BitVec.ofInt 32 m).toNat : Nat) : Int) := by
  have : bits .xor .u32 x m = IntKind.u32.wrap (((BitVec.ofInt 32 x ^^^ BitVec.ofInt 32 m).toNat : Nat) : Int) := rfl
  rw [this]; exact IntWalk.u32_in _ (by have := (BitVec.ofInt 32 x ^^^ BitVec.ofInt 32 m).isLt; omega)
theorem bits_andNot (x m : Int) : bits .andNot .u32 x m = (((BitVec.ofInt 32 x &&& ~~~ BitVec.ofInt 32 m).toNat : Nat) : Int) := by
  have : bits .andNot .u32 x m = IntKind.u32.wrap (((BitVec.ofInt 32 x &&& ~~~ BitVec.ofInt 32 m).toNat : Nat) : Int) := rfl
  rw [this]; exact IntWalk.u32_in _ (by have := (BitVec.ofInt 32 x &&& ~~~ BitVec.ofInt 32 m).isLt; omega)
theorem ofInt_toNat (v : BitVec 32) : BitVec.ofInt 32 ((v.toNat : Nat) : Int) = v := by
  rw [BitVec.ofInt_natCast, BitVec.ofNat_toNat]; simp
/-- A bit of a word. -/
theorem bit_at {x : Int} (h : 0 ≤ x ∧ x ≤ 4294967295) {t : Nat} (ht : t < 32) : (x / 2 ^ t % 2 == 1) = (BitVec.ofInt 32 x).getLsbD t := by
  obtain ⟨n, rfl⟩ := Int.eq_ofNat_of_zero_le h.1
  rw [BitVec.ofInt_natCast, BitVec.getLsbD_ofNat, Nat.testBit_eq_decide_div_mod_eq]
  have h1 : ((n : Int) / 2 ^ t % 2) = ((n / 2 ^ t % 2 : Nat) : Int) := by push_cast; rfl
  rw [h1]
  simp only [ht, decide_true, Bool.true_and]
  rw [Bool.eq_iff_iff, beq_iff_eq, decide_eq_true_eq]
  omega
theorem mask_bit {t : Nat} (ht : t < 32) (i : Nat) (hi : i < 32) : (BitVec.ofInt 32 (2 ^ t % 4294967296)).getLsbD i = decide (t = i) := by
  have h1 : ((2 : Int) ^ t % 4294967296) = ((2 ^ t : Nat) : Int) := by
    have : (2 ^ t : Nat) < 2 ^ 32 := Nat.pow_lt_pow_right (by omega) ht
    have h2 : (2 : Int) ^ t = ((2 ^ t : Nat) : Int) := by push_cast; rfl
    rw [h2]
    exact Int.emod_eq_of_lt (Int.natCast_nonneg _) (Int.ofNat_lt.2 this)
  rw [h1, BitVec.ofInt_natCast, BitVec.getLsbD_ofNat, Nat.testBit_two_pow]
  simp [hi]
theorem ofInt_back {x : Int} (h : 0 ≤ x ∧ x ≤ 4294967295) : (((BitVec.ofInt 32 x).toNat : Nat) : Int) = x := by
  obtain ⟨n, rfl⟩ := Int.eq_ofNat_of_zero_le h.1
  rw [BitVec.ofInt_natCast, BitVec.toNat_ofNat]
  have : n % 2 ^ 32 = n := Nat.mod_eq_of_lt (by omega)
  rw [this]
/-- The two bits of a step exchanged. -/
def swL (d : List Int) (k a b : Nat) : List Int := if pinB d k a == pinB d k b then d else d.set k (bits .xor .u32 (bits .xor .u32 (d.getD k 0) (2 ^ a % 4294967296)) (2 ^ b % 4294967296))
theorem swL_len (d : List Int) (k a b : Nat) : (swL d k a b).length = d.length := by unfold swL; split <;> simp
theorem putL_bd {d : List Int} (h : Wd d) (k t : Nat) (on : Bool) : Wd (putL d k t on) := by
  intro x hx
  unfold putL at hx
  rcases List.mem_or_eq_of_mem_set hx with hx | rfl
  · exact h x hx
  · rcases on with _ | _
    · rw [if_neg (by simp), bits_andNot]
      have := (BitVec.ofInt 32 (d.getD k 0) &&& ~~~ BitVec.ofInt 32 (2 ^ t % 4294967296)).isLt
      omega
    · rw [if_pos rfl, bits_or]
      have := (BitVec.ofInt 32 (d.getD k 0) ||| BitVec.ofInt 32 (2 ^ t % 4294967296)).isLt
      omega
theorem swL_bd {d : List Int} (h : Wd d) (k a b : Nat) : Wd (swL d k a b) := by
  intro x hx
  unfold swL at hx
  split at hx
  · exact h x hx
  · rcases List.mem_or_eq_of_mem_set hx with hx | rfl
    · exact h x hx
    · rw [bits_xor]
      have := (BitVec.ofInt 32 (bits .xor .u32 (d.getD k 0) (2 ^ a % 4294967296)) ^^^ BitVec.ofInt 32 (2 ^ b % 4294967296)).isLt
      omega
/-- Put here, put there. -/
theorem put_put {d : List Int} (h : Wd d) {k a b : Nat} (hk : k < d.length) (ha : a < 32) (hb : b < 32) : putL (putL d k a (pinB d k b)) k b (pinB d k a) = swL d k a b := by
  have hx := h.get hk
  rw [pinB_at hk, pinB_at hk, bit_at hx ha, bit_at hx hb]
  unfold swL
  rw [pinB_at hk, pinB_at hk, bit_at hx ha, bit_at hx hb]
  have hgd : d.getD k 0 = d[k] := by simp [List.getD, hk]
  have hback := ofInt_back hx
  have key : ∀ (p q : Bool), putL (putL d k a q) k b p = d.set k (((fun Y : BitVec 32 => if p then Y ||| BitVec.ofInt 32 (2 ^ b % 4294967296) else Y &&& ~~~ BitVec.ofInt 32 (2 ^ b % 4294967296)) (if q then BitVec.ofInt 32 d[k] ||| BitVec.ofInt 32 (2 ^ a % 4294967296) else BitVec.ofInt 32 d[k] &&& ~~~ BitVec.ofInt 32 (2 ^ a % 4294967296))).toNat : Nat) := by
    intro p q
    unfold putL
    rw [List.set_set, hgd]
    have hg2 : ∀ z : Int, (d.set k z).getD k 0 = z := fun z => by simp [List.getD, hk]
    rw [hg2]
    rcases p with _ | _ <;> rcases q with _ | _ <;> simp only [Bool.false_eq_true, if_false, if_true, bits_or, bits_andNot, ofInt_toNat]
  rw [key]
  rcases hpa : (BitVec.ofInt 32 d[k]).getLsbD a with _ | _ <;> rcases hpb : (BitVec.ofInt 32 d[k]).getLsbD b with _ | _
  · simp only [Bool.false_eq_true, if_false, beq_self_eq_true, if_true]
    refine (congrArg (d.set k) ?_).trans (List.set_getElem_self hk)
    refine (congrArg (fun v : BitVec 32 => ((v.toNat : Nat) : Int)) ?_).trans hback
    refine BitVec.eq_of_getLsbD_eq fun i hi => ?_
    simp only [BitVec.getLsbD_and, BitVec.getLsbD_not, mask_bit ha i hi, mask_bit hb i hi, hi, decide_true, Bool.true_and]
    by_cases e1 : a = i
    · subst e1; simp [hpa]
    · by_cases e2 : b = i
      · subst e2; simp [hpb]
      · simp [e1, e2]
  · simp only [Bool.false_eq_true, if_false, if_true, show (false == true) = false from rfl]
    rw [hgd, bits_xor, bits_xor, ofInt_toNat]
    congr 3
    refine BitVec.eq_of_getLsbD_eq fun i hi => ?_
    simp only [BitVec.getLsbD_and, BitVec.getLsbD_or, BitVec.getLsbD_xor, BitVec.getLsbD_not, mask_bit ha i hi, mask_bit hb i hi, hi, decide_true, Bool.true_and]
    by_cases e1 : a = i
    · subst e1
      by_cases e2 : b = a
      · subst e2; rw [hpa] at hpb; cases hpb
      · simp [hpa, e2]
    · by_cases e2 : b = i
      · subst e2; simp [hpb, e1]
      · simp [e1, e2]
  · simp only [Bool.false_eq_true, if_false, if_true, show (true == false) = false from rfl]
    rw [hgd, bits_xor, bits_xor, ofInt_toNat]
    congr 3
    refine BitVec.eq_of_getLsbD_eq fun i hi => ?_
    simp only [BitVec.getLsbD_and, BitVec.getLsbD_or, BitVec.getLsbD_xor, BitVec.getLsbD_not, mask_bit ha i hi, mask_bit hb i hi, hi, decide_true, Bool.true_and]
    by_cases e1 : a = i
    · subst e1
      by_cases e2 : b = a
      · subst e2; rw [hpa] at hpb; cases hpb
      · simp [hpa, e2]
    · by_cases e2 : b = i
      · subst e2; simp [hpb, e1]
      · simp [e1, e2]
  · simp only [if_true, beq_self_eq_true]
    refine (congrArg (d.set k) ?_).trans (List.set_getElem_self hk)
    refine (congrArg (fun v : BitVec 32 => ((v.toNat : Nat) : Int)) ?_).trans hback
    refine BitVec.eq_of_getLsbD_eq fun i hi => ?_
    simp only [BitVec.getLsbD_or, mask_bit ha i hi, mask_bit hb i hi]
    by_cases e1 : a = i
    · subst e1; simp [hpa]
    · by_cases e2 : b = i
      · subst e2; simp [hpb]
      · simp [e1, e2]
/-- All steps before k. -/
def swT (d : List Int) (a b : Nat) : Nat → List Int
  | 0 => d
  | k + 1 => swL (swT d a b k) k a b
theorem swT_len (d : List Int) (a b : Nat) : ∀ k, (swT d a b k).length = d.length
  | 0 => rfl
  | k + 1 => by rw [swT, swL_len, swT_len d a b k]
theorem swT_bd {d : List Int} (h : Wd d) (a b : Nat) : ∀ k, Wd (swT d a b k)
  | 0 => h
  | k + 1 => swL_bd (swT_bd h a b k) k a b
/-- Two hammers exchanged. -/
def swH (l : List (Int × Int)) (a b : Nat) : List (Int × Int) := (l.set a (l.getD b (0, 0))).set b (l.getD a (0, 0))
theorem swH_len (l : List (Int × Int)) (a b : Nat) : (swH l a b).length = l.length := by simp [swH]
noncomputable def cSw (s : Int) (l : List (Int × Int)) (d : List Int) (a b : Int) : Int := if cP s l d 0 a = 0 then cP s l d 0 b else cP s l d 0 a
noncomputable def sSw (s : Int) (l : List (Int × Int)) (d : List Int) (a b : Int) : Int := if cSw s l d a b = 0 then s else 0
noncomputable def fSw (s : Int) (l : List (Int × Int)) (d : List Int) (a b : Int) : List (Int × Int) := if cSw s l d a b = 0 then swH l a.toNat b.toNat else []
noncomputable def dSw (s : Int) (l : List (Int × Int)) (d : List Int) (a b : Int) : List Int := if cSw s l d a b = 0 then swT d a.toNat b.toNat s.toNat else zD
theorem fSw_len (s : Int) (l : List (Int × Int)) (d : List Int) (a b : Int) : (fSw s l d a b).length ≤ l.length := by
  unfold fSw
  split
  · rw [swH_len]; exact Nat.le_refl _
  · simp
theorem dSw_len {d : List Int} (hd : d.length = 96) (s : Int) (l : List (Int × Int)) (a b : Int) : (dSw s l d a b).length = 96 := by
  unfold dSw
  split
  · rw [swT_len]; exact hd
  · exact zD_len
theorem cSw_zero {s : Int} {l : List (Int × Int)} {d : List Int} {a b : Int} (h : cSw s l d a b = 0) : cP s l d 0 a = 0 ∧ cP s l d 0 b = 0 := by
  unfold cSw at h
  split at h
  · rename_i h1; exact ⟨h1, h⟩
  · rename_i h1; exact absurd h h1
end Go.Proofs.YtnakdlfjjeligaaGreat
