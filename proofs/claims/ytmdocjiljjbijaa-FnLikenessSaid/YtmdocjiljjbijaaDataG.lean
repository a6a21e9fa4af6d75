/-
  Laws on an array variable of 200 numbers: made, without opening it cell by cell. No program in it.
-/
import Derived.Test.YtmdocjiljjbijaaDataD
import Derived.Laws.Tables
import Derived.Great.BuildSlice
namespace Go.Proofs.Ytmdocjiljjbijaa
open Go.RowKit
set_option linter.unusedVariables false
set_option linter.unusedSimpArgs false

/-- The cells of an array of 64-bit numbers. -/
@[irreducible] def cntV (d : List Int) : Array Value := (d.map (Value.int .i64)).toArray
@[irreducible] def zC : List Int := List.replicate 200 0
theorem zC_eq : zC = List.replicate 200 0 := by unfold zC; rfl
theorem zC_len : zC.length = 200 := by unfold zC; rfl
theorem cntV_size (d : List Int) : (cntV d).size = d.length := by unfold cntV; simp
theorem cntV_get {d : List Int} {k : Nat} (h : k < d.length) : (cntV d)[k]? = some (.int .i64 d[k]) := by unfold cntV; simp [h]
theorem cntV_set (d : List Int) (k : Nat) (x : Int) : (cntV d).setIfInBounds k (.int .i64 x) = cntV (d.set k x) := by
  unfold cntV; rw [List.map_set]; simp
theorem cntV_one (d : List Int) : (cntV d).all (·.oneCell') = true := by
  unfold cntV
  rw [Array.all_eq_true_iff_forall_mem]
  intro v hv
  simp at hv
  obtain ⟨x, _, rfl⟩ := hv
  rfl
theorem run_build_zeroC {P : Program} {ty e : TypeId} {n : Nat} (hu : P.underlying ty = some (.array n e)) (hz : (P.info? ty).map (·.zero) = some (some (.agg (cntV zC)))) (hs : (P.info? e).map (·.size) = some 1) (W : World) :
    (Instr.build ty #[]).run P W = .ok (.agg (cntV zC)) W := by
  cases hq : P.info? ty with
  | none => simp [hq] at hz
  | some i =>
    have h2 : i.zero = some (.agg (cntV zC)) := by simpa [hq] using hz
    cases hq2 : P.info? e with
    | none => simp [hq2] at hs
    | some j => simp [Instr.build, zeroValue, typeInfo, hq, h2, run_underlying hu, sizeOf, hq2, Instr.fill, Value.cells]
theorem wpList_bzC {P : Program} {ops : Array Oper} {rest : List Oper} {o : Oper} {a : Act} {w : World} {Q : Exit → Act → World → Prop} {ty e : TypeId} {n : Nat} (hw : Region.wanted o (yielded ops a.tmps) = true) (ho : o.op = .build ty #[]) (hu : P.underlying ty = some (.array n e)) (hz : (P.info? ty).map (·.zero) = some (some (.agg (cntV zC)))) (hs : (P.info? e).map (·.size) = some 1)
    (h : wpList P ops Q rest (a.put o.dst (.agg (cntV zC))) w) : wpList P ops Q (o :: rest) a w :=
  wpList_step fun K hK => by
    rw [if_pos hw]
    have := run_build_zeroC hu hz hs w
    unfold Oper.wp execOp
    simp only [ho, List.map_toArray, List.map_nil, Sem.run_bind, this, Result.andThen_ok]
    exact hK _ _ h
theorem wpList_allocC {P : Program} {ops : Array Oper} {rest : List Oper} {o : Oper} {a : Act} {w : World} {Q : Exit → Act → World → Prop} (hgd : o.guard = none) (ty : TypeId) (ho : o.op = .alloc ty)
    (hz : (P.info? ty).map (·.zero) = some (some (.agg (cntV zC))))
    (h : wpList P ops Q rest (a.put o.dst (.pointer (some ⟨w.heap.size, 0, none⟩))) (w.alloc (.cells (cntV zC) ty))) : wpList P ops Q (o :: rest) a w :=
  wpList_plain hgd fun _ hK => by
    cases hq : P.info? ty with
    | none => simp [hq] at hz
    | some i =>
      have h2 : i.zero = some (.agg (cntV zC)) := by simpa [hq] using hz
      have : (Instr.alloc ty true (.tuple #[])).run P w = .ok (.pointer (some ⟨w.heap.size, 0, none⟩)) (w.alloc (.cells (cntV zC) ty)) := by
        simp [Instr.alloc, zeroValue, typeInfo, hq, h2, newVar, newRow, Value.cells, go_sem]
      unfold Oper.wp execOp
      simp only [ho, Sem.run_bind, this, Result.andThen_ok]
      exact hK _ _ h
theorem wpList_storeC {P : Program} {ops : Array Oper} {rest : List Oper} {o : Oper} {a : Act} {w : World} {Q : Exit → Act → World → Prop} {ty : TypeId} {x y : Operand} {g : Nat} {t : TypeId} {d old : List Int} (hgd : o.guard = none) (ho : o.op = .store ty x y)
    (hg : Var w g (cntV old) t) (hx : a.eval x = .pointer (some ⟨g, 0, none⟩)) (hy : a.eval y = .agg (cntV d)) (hi : (P.info? ty).map (·.size) = some 200) (hd : d.length = 200) (hold : old.length = 200)
    (h : wpList P ops Q rest (a.put o.dst undef) (w.setRow g (cntV d))) : wpList P ops Q (o :: rest) a w :=
  wpList_store_row hgd ty x y ho g (cntV d) hx hy t (cntV old) hg (by rw [cntV_size, hd]; exact hi) (by rw [cntV_size, cntV_size, hd, hold]) (cntV_one d) h
theorem Var.rowG {w : World} {b : Nat} {old : Array Value} {t : TypeId} (h : Var w b old t) (cs : Array Value) : Var (w.setRow b cs) b cs t := setRow_heap w b old cs t (0, 0) h
theorem browG {W w : World} (h : Below W.heap.size W w) {g : Nat} (hg : W.heap.size ≤ g) (cs : Array Value) : Below W.heap.size W (w.setRow g cs) :=
  ⟨h.os, h.tape, h.output, by simpa using h.size, fun k hk => (setRow_other w g k cs (by omega)).trans (h.block k hk)⟩

end Go.Proofs.Ytmdocjiljjbijaa
