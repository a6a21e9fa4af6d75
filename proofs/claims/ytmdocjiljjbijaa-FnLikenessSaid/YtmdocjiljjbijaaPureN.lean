/-
  Neighbours that are equal made one: what the row holds on the way. Plain: no program in it.
-/
import Derived.Test.YtmdocjiljjbijaaPureM
namespace Go.Proofs.Ytmdocjiljjbijaa
set_option linter.unusedVariables false
set_option linter.unusedSimpArgs false

theorem compN_full {l : List (Int × Int)} (k : Nat) (hk : k ≤ l.length) (h : ∀ i (hi : i < l.length) (h0 : 0 < i), i < k → l[i - 1] ≠ l[i]) : compN l k = l.take k := by
  induction k with
  | zero => simp [compN]
  | succ k ih =>
    have hlt : k < l.length := by omega
    rw [compN_keep hlt (fun ⟨h0, e⟩ => h k hlt h0 (by omega) (by rwa [List.getElem?_eq_getElem (by omega), Option.some_inj] at e)), ih (by omega) (fun i hi h0 hik => h i hi h0 (by omega)), List.take_succ_eq_append_getElem hlt]
theorem compN_short {l : List (Int × Int)} {k : Nat} (hk : k < l.length) (h : 0 < k ∧ l[k - 1]? = some l[k]) (j : Nat) : (compN l (k + 1 + j)).length ≤ k + j := by
  induction j with
  | zero => rw [Nat.add_zero, compN_skip hk h]; exact compN_len l k
  | succ j ih =>
    rw [show k + 1 + (j + 1) = (k + 1 + j) + 1 by omega, compN]
    split
    · split
      · omega
      · simp; omega
    · omega
/-- What the row holds when m are read. -/
def compM (l : List (Int × Int)) (m : Nat) : List (Int × Int) := compN l m ++ l.drop (compN l m).length
theorem compM_len {l : List (Int × Int)} {m : Nat} (hm : m ≤ l.length) : (compM l m).length = l.length := by
  have := compN_len l m
  unfold compM; rw [List.length_append, List.length_drop]; omega
theorem compM_get {l : List (Int × Int)} {m i : Nat} (hm : m ≤ l.length) (hi : (compN l m).length ≤ i) (hil : i < l.length) : (compM l m)[i]'(by rw [compM_len hm]; exact hil) = l[i] := by
  unfold compM
  rw [List.getElem_append_right hi, List.getElem_drop]
  congr 1; omega
theorem compM_step {l : List (Int × Int)} {m : Nat} (hm : m < l.length) (hk : (compN l m).length < m) (h : ¬ (0 < m ∧ l[m - 1]? = some l[m])) : (compM l m).set (compN l m).length l[m] = compM l (m + 1) := by
  unfold compM
  rw [compN_keep hm h, List.length_append, List.length_cons, List.length_nil, List.append_assoc]
  have hd : l.drop (compN l m).length = l[(compN l m).length]'(by omega) :: l.drop ((compN l m).length + 1) := by rw [List.drop_eq_getElem_cons]
  rw [hd, List.set_append_right _ _ (Nat.le_refl _), Nat.sub_self, List.set_cons_zero, List.singleton_append]
theorem compM_same {l : List (Int × Int)} {m : Nat} (hm : m < l.length) (h : 0 < m ∧ l[m - 1]? = some l[m]) : compM l (m + 1) = compM l m := by unfold compM; rw [compN_skip hm h]
theorem compM_take (l : List (Int × Int)) (m : Nat) : (compM l m).take (compN l m).length = compN l m := by unfold compM; rw [List.take_left]

end Go.Proofs.Ytmdocjiljjbijaa
