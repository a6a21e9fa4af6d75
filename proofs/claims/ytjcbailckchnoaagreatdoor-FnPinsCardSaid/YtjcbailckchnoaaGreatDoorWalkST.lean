/-
  The walks of the law's own functions on slices of texts: equality, marks.
-/
import Derived.Test.YtjcbailckchnoaaGreatDoorWalkDA
import Derived.Test.YtjcbailckchnoaaGreatDoorDataS
namespace Go.Proofs.YtjcbailckchnoaaGreatDoor
open Go.RowKit
set_option linter.unusedVariables false
set_option linter.unusedSimpArgs false
set_option maxRecDepth 4000

theorem After.callG {P : Program} {w : World} {f : FuncId} {args : Array Value} {v : Value} (h : ∀ x : After w, Calls P f args x.w fun e w' => e = .returned v ∧ Below x.w.heap.size x.w w') (x : After w) :
    Calls P f args x.w fun e w'' => e = .returned v ∧ ∃ y : After w, w'' = y.w := After.call (h x)
theorem After.callS {P : Program} {w : World} {f : FuncId} {args : Array Value} {v : Value} (h : ∀ x : After w, Calls P f args x.w fun e w' => e = .returned v ∧ x.w = w') (x : After w) :
    Calls P f args x.w fun e w'' => e = .returned v ∧ ∃ y : After w, w'' = y.w := After.call_same (h x)
theorem info_str : (Tryz.prog.info? 9).map (fun i => (i.zero, i.size, i.bytes)) = some (some (txt []), 1, 16) := by kernel_rfl
/-- The digits of a number ahead of a text. -/
def digF : Nat → Nat → List UInt8 → List UInt8
  | 0, _, s => s
  | f + 1, q, s => if q = 0 then s else digF f (q / 10) (UInt8.ofNat (48 + q % 10) :: s)
theorem digF_zero (f : Nat) (s : List UInt8) : digF f 0 s = s := by cases f <;> simp [digF]
theorem digF_pos (f q : Nat) (s : List UInt8) (h : 0 < q) : digF (f + 1) q s = digF f (q / 10) (UInt8.ofNat (48 + q % 10) :: s) := by
  rw [digF, if_neg (by omega)]
/-- The text that marks a place with the number m. -/
def mkT (m : Nat) : List UInt8 := 109 :: digF m m []
def mkTs (n m : Nat) : List (List UInt8) := (List.range n).map fun i => mkT (m + i)
theorem mkTs_len (n m : Nat) : (mkTs n m).length = n := by simp [mkTs]
theorem mkTs_get {n m i : Nat} (h : i < (mkTs n m).length) : (mkTs n m)[i] = mkT (m + i) := by simp [mkTs]
def mkTq (l : List (List UInt8)) (k m : Nat) : List (List UInt8) := mkTs k m ++ l.drop k
theorem mkTq_len {l : List (List UInt8)} {k : Nat} (m : Nat) (h : k ≤ l.length) : (mkTq l k m).length = l.length := by simp [mkTq, mkTs_len]; omega
theorem mkTq_zero (l : List (List UInt8)) (m : Nat) : mkTq l 0 m = l := by simp [mkTq, mkTs]
theorem mkTq_end (l : List (List UInt8)) (m : Nat) : mkTq l l.length m = mkTs l.length m := by simp [mkTq]
theorem mkTq_set {l : List (List UInt8)} {k : Nat} (m : Nat) (h : k < l.length) : (mkTq l k m).set k (mkT (m + k)) = mkTq l (k + 1) m := by
  unfold mkTq
  rw [List.set_append_right _ _ (by rw [mkTs_len]; exact Nat.le_refl _), mkTs_len, Nat.sub_self, List.drop_eq_getElem_cons h, List.set_cons_zero]
  have : mkTs (k + 1) m = mkTs k m ++ [mkT (m + k)] := by unfold mkTs; rw [List.range_succ, List.map_append]; rfl
  rw [this, List.append_assoc]; rfl





end Go.Proofs.YtjcbailckchnoaaGreatDoor
