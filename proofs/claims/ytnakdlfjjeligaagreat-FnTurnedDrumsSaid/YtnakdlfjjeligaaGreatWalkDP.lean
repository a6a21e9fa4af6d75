/-
  The walk of put: a pin is put in, or taken out.
-/
import Derived.Test.YtnakdlfjjeligaaGreatWalkDI
import Derived.Test.YtnakdlfjjeligaaGreatData
import Derived.Maps.AppendAt
namespace Go.Proofs.YtnakdlfjjeligaaGreat
open Go.RowKit
set_option linter.unusedVariables false
set_option linter.unusedSimpArgs false
set_option maxRecDepth 4000

theorem ofInt_u32 (v : BitVec 32) : BitVec.ofInt 32 (IntKind.u32.wrap (v.toNat : Int)) = v := by
  rw [IntKind.wrap_u32]
  have h1 : ((v.toNat : Int) % 4294967296) = (v.toNat : Int) := Int.emod_eq_of_lt (by omega) (by have := v.isLt; omega)
  rw [h1, BitVec.ofInt_natCast, BitVec.ofNat_toNat]; simp
theorem or_andNot (x m : Int) : bits .or .u32 (bits .andNot .u32 x m) m = bits .or .u32 x m := by
  have e : bits .andNot .u32 x m = IntKind.u32.wrap (((BitVec.ofInt 32 x &&& ~~~ BitVec.ofInt 32 m).toNat : Nat) : Int) := rfl
  have f : ∀ y : Int, bits .or .u32 y m = IntKind.u32.wrap (((BitVec.ofInt 32 y ||| BitVec.ofInt 32 m).toNat : Nat) : Int) := fun _ => rfl
  rw [f, f, e, ofInt_u32]
  have g : (BitVec.ofInt 32 x &&& ~~~ BitVec.ofInt 32 m) ||| BitVec.ofInt 32 m = BitVec.ofInt 32 x ||| BitVec.ofInt 32 m := by
    ext i hi
    simp only [BitVec.getElem_or, BitVec.getElem_and, BitVec.getElem_not]
    cases (BitVec.ofInt 32 x)[i] <;> cases (BitVec.ofInt 32 m)[i] <;> rfl
  rw [g]
/-- A drum with the pin at k, t put in, or taken out. -/
def putL (d : List Int) (k t : Nat) (on : Bool) : List Int := d.set k (if on then bits .or .u32 (d.getD k 0) (2 ^ t % 4294967296) else bits .andNot .u32 (d.getD k 0) (2 ^ t % 4294967296))
theorem putL_len (d : List Int) (k t : Nat) (on : Bool) : (putL d k t on).length = d.length := by simp [putL]
theorem putL_off {d : List Int} {k : Nat} (h : k < d.length) (t : Nat) : putL d k t false = d.set k (bits .andNot .u32 d[k] (2 ^ t % 4294967296)) := by
  unfold putL; rw [List.getD_eq_getElem?_getD, List.getElem?_eq_getElem h]; rfl
theorem putL_on {d : List Int} {k : Nat} (h : k < d.length) (t : Nat) : putL d k t true = d.set k (bits .or .u32 d[k] (2 ^ t % 4294967296)) := by
  unfold putL; rw [List.getD_eq_getElem?_getD, List.getElem?_eq_getElem h]; rfl

theorem c_put (b k t : Nat) (on : Bool) (d : List Int) (ty : TypeId) (w : World) (hv : Var w b (drumV d) ty) (hd : d.length = 96) (hk : k < 96) (ht : t < 32) :
    Calls Tryz.prog 48 #[.pointer (some ⟨b, 0, none⟩), .int .i64 (k : Int), .int .i64 (t : Int), .bool on] w fun e w' => e = .returned (.tuple #[]) ∧ Var w' b (drumV (putL d k t on)) ty ∧ w.grownBy w' (some b) := by
  have hk2 : k < d.length := by omega
  have HV := Lib.hid hv
  clear hv
  have x1 : ∀ x : After w, _ := fun x => (HV.out.below x.below).cell (drumV_get hk2)
  have h1 : (0 : Int) ≤ (k : Int) := by omega
  have h2 : (k : Int) < 96 := by omega
  have h3 : (0 : Int) ≤ (t : Int) := by omega
  have h4 : (t : Int) < 32 := by omega
  go_enter Tryz.func48, Tryz.ntmps48
  go_wp2
  refine region_tail 9 (by kernel_rfl) (by kernel_rfl) ?_
  simp only [List.take_succ_cons, List.take_zero, List.drop_succ_cons, List.drop_zero]
  repeat (go_big_quiet_step (fail))
  refine wpQuiet_nil ?_
  intro w2 hb2
  clear x1
  have y1 := (HV.out.below hb2).cell (drumV_get hk2)
  have y2 := (HV.out.below hb2).frozen k
  have g1 : w.grownBy (w2.setCell ⟨b, k, none⟩ (.int .u32 (bits .andNot .u32 d[k] (2 ^ t % 4294967296)))) (some b) := gset (gbelow hb2 _) (.inl rfl) _
  have v1 := (HV.out.below hb2).set k (.int .u32 (bits .andNot .u32 d[k] (2 ^ t % 4294967296)))
  rw [drumV_set] at v1
  cases on
  · have HP := Lib.hid (putL_off hk2 t)
    have G1 := Lib.hid g1
    have W1 := Lib.hid v1
    clear g1 v1
    go_wp2
    go_end0
    exact ⟨rfl, HP.out ▸ W1.out, G1.out⟩
  · have HP := Lib.hid (putL_on hk2 t)
    have HO := Lib.hid (or_andNot d[k] (2 ^ t % 4294967296))
    have G1 := Lib.hid g1
    have W1 := Lib.hid v1
    clear g1 v1
    obtain ⟨u, hu⟩ : ∃ u, bits .andNot .u32 d[k] (2 ^ t % 4294967296) = u := ⟨_, rfl⟩
    rw [hu] at HO G1 W1
    have HU := Lib.hid hu
    have hk3 : k < (d.set k u).length := by simp; omega
    have hgk : (d.set k u)[k] = u := by simp
    have hc0 := drumV_get hk3
    rw [hgk] at hc0
    have HC := Lib.hid hc0
    clear hc0 hgk
    go_wp2
    rw [HU.out]
    obtain ⟨w3, hw3⟩ : ∃ w3, w3 = w2.setCell ⟨b, k, none⟩ (.int .u32 u) := ⟨_, rfl⟩
    rw [← hw3] at G1 W1 ⊢
    clear hw3 hb2 y1 y2
    have x1 : ∀ x : After w3, _ := fun x => (W1.out.below x.below).cell HC.out
    refine region_tail 9 (by kernel_rfl) (by kernel_rfl) ?_
    simp only [List.take_succ_cons, List.take_zero, List.drop_succ_cons, List.drop_zero]
    repeat (go_big_quiet_step (fail))
    refine wpQuiet_nil ?_
    intro w2 hb2
    clear x1
    have y1 := (W1.out.below hb2).cell HC.out
    have y2 := (W1.out.below hb2).frozen k
    go_wp2
    go_end0
    refine ⟨rfl, ?_, gset (World.grownBy.trans G1.out (gbelow hb2 _)) (.inl rfl) _⟩
    have := (W1.out.below hb2).set k (.int .u32 (bits .or .u32 u (2 ^ t % 4294967296)))
    rw [drumV_set, HO.out, List.set_set] at this
    rw [HP.out, HO.out]
    exact this

end Go.Proofs.YtnakdlfjjeligaaGreat
