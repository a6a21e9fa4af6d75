/-
  The walk of put: a pin is put in, or taken out.
-/
import Derived.Test.YtjcbailckchnoaaGreatDoorWalkDI
import Derived.Test.YtjcbailckchnoaaGreatDoorData
import Derived.Maps.AppendAt
namespace Go.Proofs.YtjcbailckchnoaaGreatDoor
open Go.RowKit
set_option linter.unusedVariables false
set_option linter.unusedSimpArgs false
set_option maxRecDepth 4000

theorem ofInt_u32 (v : BitVec 32) : BitVec.ofInt 32 (IntKind.u32.wrap (v.toNat : Int)) = v := by
  rw [IntKind.wrap_u32]
  have h1 : ((v.toNat : Int) % 4294967296) = (v.toNat : Int) := Int.emod_eq_of_lt (by omega) (by have := v.isLt; omega)
  rw [h1, BitVec.ofInt_natCast, BitVec.ofNat_toNat]; simp
theorem or_andNot (x m : Int) : bits .or .u32 (bits .andNot .u32 x m) m = bits .or .u32 x m := by
  have e : bits .andNot .u32 x m = IntKind.u32.wrap (((BitVec.ofInt 32 x &&& ~~~ BitVec.ofInt 32 m).toNat : Nat) : Int) := rfl
  have f : ∀ y : Int, bits .or .u32 y m = IntKind.u32.wrap (((BitVec.ofInt 32 y ||| BitVec.ofInt 32 m).toNat : Nat) : Int) := fun _ => rfl
  rw [f, f, e, ofInt_u32]
  have g : (BitVec.ofInt 32 x &&& ~~~ BitVec.ofInt 32 m) ||| BitVec.ofInt 32 m = BitVec.ofInt 32 x ||| BitVec.ofInt 32 m := by
    ext i hi
    simp only [BitVec.getElem_or, BitVec.getElem_and, BitVec.getElem_not]
    cases (BitVec.ofInt 32 x)[i] <;> cases (BitVec.ofInt 32 m)[i] <;> rfl
  rw [g]
/-- A drum with the pin at k, t put in, or taken out. -/
def putL (d : List Int) (k t : Nat) (on : Bool) : List Int := d.set k (if on then bits .or .u32 (d.getD k 0) (2 ^ t % 4294967296) else bits .andNot .u32 (d.getD k 0) (2 ^ t % 4294967296))
theorem putL_len (d : List Int) (k t : Nat) (on : Bool) : (putL d k t on).length = d.length := by simp [putL]
theorem putL_off {d : List Int} {k : Nat} (h : k < d.length) (t : Nat) : putL d k t false = d.set k (bits .andNot .u32 d[k] (2 ^ t % 4294967296)) := by
  unfold putL; rw [List.getD_eq_getElem?_getD, List.getElem?_eq_getElem h]; rfl
theorem putL_on {d : List Int} {k : Nat} (h : k < d.length) (t : Nat) : putL d k t true = d.set k (bits .or .u32 d[k] (2 ^ t % 4294967296)) := by
  unfold putL; rw [List.getD_eq_getElem?_getD, List.getElem?_eq_getElem h]; rfl


end Go.Proofs.YtjcbailckchnoaaGreatDoor
