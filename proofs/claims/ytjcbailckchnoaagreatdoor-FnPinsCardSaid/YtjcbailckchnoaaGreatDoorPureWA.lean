/-
  The plain side of texts that are read back: names, numerals, pieces. No program in it.
-/
import Derived.Test.YtjcbailckchnoaaGreatDoorWalkRE
namespace Go.Proofs.YtjcbailckchnoaaGreatDoor
set_option linter.unusedVariables false
set_option linter.unusedSimpArgs false

theorem dec_out (n : Nat) {c : UInt8} (h : c.toNat < 48 ∨ 57 < c.toNat) : c ∉ Lib.decDigits n := fun hc => by
  have := decFrom_mem (decFrom_dec n) c hc
  omega
def nameQ (n : Nat) : List UInt8 := pNames.getD (n % 12) [] ++ [UInt8.ofNat (48 + n / 12)]
theorem nameQ_eq {n : Nat} (h : n < 48) : nameP n = nameQ n := by
  unfold nameP nameQ
  rw [dec_small (by omega)]
set_option maxRecDepth 100000 in
theorem nameQ_out : ∀ n : Fin 48, (32 : UInt8) ∉ nameQ n.val ∧ (47 : UInt8) ∉ nameQ n.val ∧ (58 : UInt8) ∉ nameQ n.val := by decide +kernel
set_option maxRecDepth 100000 in
theorem nameQ_inj : ∀ n m : Fin 48, nameQ n.val = nameQ m.val → n = m := by decide +kernel
theorem nameP_out {n : Nat} (h : n < 48) : (32 : UInt8) ∉ nameP n ∧ (47 : UInt8) ∉ nameP n ∧ (58 : UInt8) ∉ nameP n := by
  rw [nameQ_eq h]; exact nameQ_out ⟨n, h⟩
theorem pit_name {n : Nat} (h : n < 48) : pit (nameP n) = some n :=
  pit_some h rfl fun i hi e => by
    rw [nameQ_eq h, nameQ_eq (by omega)] at e
    have := congrArg Fin.val (nameQ_inj ⟨i, by omega⟩ ⟨n, h⟩ e)
    simp at this; omega
theorem spl_no {c : UInt8} : ∀ {x : List UInt8}, c ∉ x → spl c x = [x]
  | [], _ => rfl
  | b :: l, h => by
    unfold spl
    rw [if_neg (fun e => h (by rw [e]; exact List.mem_cons_self)), spl_no (fun hl => h (List.mem_cons_of_mem _ hl))]
    rfl
theorem spl_app {c : UInt8} {y : List UInt8} : ∀ {x : List UInt8}, c ∉ x → spl c (x ++ c :: y) = x :: spl c y
  | [], _ => by simp [spl]
  | b :: l, h => by
    rw [List.cons_append]
    conv => lhs; unfold spl
    rw [if_neg (fun e => h (by rw [e]; exact List.mem_cons_self)), spl_app (fun hl => h (List.mem_cons_of_mem _ hl))]
    rfl
theorem numI_dec {m n : Nat} (h : n ≤ m) (hm : m < 1000) : numI m (Lib.decDigits n) = some n := (numI_iff hm _ _).2 ⟨rfl, h⟩
theorem got_map {f : List UInt8 → Option (Int × Int)} {g : Int × Int → List UInt8} : ∀ {l : List (Int × Int)}, (∀ p ∈ l, f (g p) = some p) → (l.map g).filterMap f = l
  | [], _ => rfl
  | p :: l, h => by
    rw [List.map_cons, List.filterMap_cons_some (h p List.mem_cons_self), got_map (fun q hq => h q (List.mem_cons_of_mem _ hq))]
theorem allO_map {f : List UInt8 → Option (Int × Int)} {g : Int × Int → List UInt8} {l : List (Int × Int)} (h : ∀ p ∈ l, f (g p) = some p) : allO f (l.map g) = true := by
  unfold allO
  rw [List.all_eq_true]
  intro x hx
  obtain ⟨p, hp, rfl⟩ := List.mem_map.1 hx
  rw [h p hp]; rfl

end Go.Proofs.YtjcbailckchnoaaGreatDoor
