/-
  Laws on whole drums (96 cells): made, read, written, without opening them cell by cell. No program in it.
-/
import Derived.Test.YtkjpiokmccnhdaaDoorDataD
import Derived.Test.YtkjpiokmccnhdaaDoorPureD
import Derived.Laws.Tables
import Derived.Great.BuildSlice
namespace Go.Proofs.YtkjpiokmccnhdaaDoor
open Go.RowKit
set_option linter.unusedVariables false
set_option linter.unusedSimpArgs false

/-- The drum without a pin. -/
@[irreducible] def zD : List Int := List.replicate 96 0
theorem zD_len : zD.length = 96 := by unfold zD; rfl
theorem zD_eq : zD = List.replicate 96 0 := by unfold zD; rfl
theorem zD_get? (i : Nat) (h : i < 96) : zD[i]? = some 0 := by rw [zD_eq, List.getElem?_replicate, if_pos h]
theorem zD_get (i : Nat) (h : i < zD.length) : zD[i] = 0 := Option.some.inj ((List.getElem?_eq_getElem h).symm.trans (zD_get? i (by rw [← zD_len]; exact h)))

theorem wpList_alloc_row {P : Program} {ops : Array Oper} {rest : List Oper} {o : Oper} {a : Act} {w : World} {Q : Exit → Act → World → Prop} (hgd : o.guard = none) (ty : TypeId) (ho : o.op = .alloc ty) (z : Value)
    (hz : (P.info? ty).map (·.zero) = some (some z))
    (h : wpList P ops Q rest (a.put o.dst (.pointer (some ⟨w.heap.size, 0, none⟩))) (w.alloc (.cells z.cells ty))) : wpList P ops Q (o :: rest) a w :=
  wpList_plain hgd fun _ hK => by
    cases hq : P.info? ty with
    | none => simp [hq] at hz
    | some i =>
      have hz2 : i.zero = some z := by simpa [hq] using hz
      unfold Oper.wp
      simp [execOp, ho, Instr.alloc, zeroValue, typeInfo, hq, hz2, newVar, newRow, go_sem]
      exact hK _ _ h

theorem Var.row {w : World} {b : Nat} {old : Array Value} {t : TypeId} (h : Var w b old t) (cs : Array Value) : Var (w.setRow b cs) b cs t := setRow_heap w b old cs t (0, 0) h
theorem Var.rowOther {w : World} {b g : Nat} {old : Array Value} {t : TypeId} (h : Var w b old t) (cs : Array Value) (hne : b ≠ g) : Var (w.setRow g cs) b old t := (setRow_other w g b cs hne).trans h
theorem brow {W w : World} (h : Below W.heap.size W w) {g : Nat} (hg : W.heap.size ≤ g) (cs : Array Value) : Below W.heap.size W (w.setRow g cs) :=
  ⟨h.os, h.tape, h.output, by simpa using h.size, fun k hk => (setRow_other w g k cs (by omega)).trans (h.block k hk)⟩
theorem Var.range {w : World} {b : Nat} {cs : Array Value} {t : TypeId} (h : Var w b cs t) : w.rangeAt b 0 cs.toList := fun j v hv => by
  rw [Nat.zero_add]; exact h.cell (by simpa using hv)

/-- A drum whose first k numbers are d's, the others e's. -/
def mixD (d e : List Int) (k : Nat) : List Int := d.take k ++ e.drop k
theorem mixD_len {d e : List Int} (hd : d.length = 96) (he : e.length = 96) (k : Nat) (hk : k ≤ 96) : (mixD d e k).length = 96 := by simp [mixD, hd, he]; omega
theorem mixD_zero (d e : List Int) : mixD d e 0 = e := by simp [mixD]
theorem mixD_end {d e : List Int} (hd : d.length = 96) (he : e.length = 96) : mixD d e 96 = d := by
  unfold mixD; rw [List.take_of_length_le (by omega), List.drop_of_length_le (by omega), List.append_nil]
theorem mixD_set {d e : List Int} {k : Nat} (h : k < d.length) (h2 : k < e.length) : (mixD d e k).set k d[k] = mixD d e (k + 1) := by
  refine List.ext_getElem? fun i => ?_
  unfold mixD
  by_cases hi : i = k
  · subst hi
    rw [List.getElem?_set_self (by simp; omega), List.getElem?_append_left (by simp; omega)]
    simp [h]
  · rw [List.getElem?_set_ne (fun e => hi e.symm)]
    by_cases hlt : i < k
    · rw [List.getElem?_append_left (by simp; omega), List.getElem?_append_left (by simp; omega)]
      simp [hlt, show i < k + 1 by omega]
    · rw [List.getElem?_append_right (by simp; omega), List.getElem?_append_right (by simp; omega)]
      simp only [List.length_take, List.getElem?_drop]
      congr 1
      omega

theorem wpList_loadD {P : Program} {ops : Array Oper} {rest : List Oper} {o : Oper} {a : Act} {w : World} {Q : Exit → Act → World → Prop} {ty e : TypeId} {x : Operand} {g : Nat} {t : TypeId} {d : List Int} (hw : Region.wanted o (yielded ops a.tmps) = true) (ho : o.op = .load ty x)
    (hg : Var w g (drumV d) t) (hx : a.eval x = .pointer (some ⟨g, 0, none⟩)) (hu : P.underlying ty = some (.array 96 e)) (hi : (P.info? ty).map (·.size) = some 96) (hd : d.length = 96)
    (h : wpList P ops Q rest (a.put o.dst (.agg (drumV d))) w) : wpList P ops Q (o :: rest) a w :=
  wpList_step fun K hK => by rw [if_pos hw]; exact wp_load_row ty x ho g hx t (drumV d) (0, 0) _ hg hu rfl (by rw [drumV_size, hd]; exact hi) (hK _ _ h)
theorem wpList_storeD {P : Program} {ops : Array Oper} {rest : List Oper} {o : Oper} {a : Act} {w : World} {Q : Exit → Act → World → Prop} {ty : TypeId} {x y : Operand} {g : Nat} {t : TypeId} {d old : List Int} (hgd : o.guard = none) (ho : o.op = .store ty x y)
    (hg : Var w g (drumV old) t) (hx : a.eval x = .pointer (some ⟨g, 0, none⟩)) (hy : a.eval y = .agg (drumV d)) (hi : (P.info? ty).map (·.size) = some 96) (hd : d.length = 96) (hold : old.length = 96)
    (h : wpList P ops Q rest (a.put o.dst undef) (w.setRow g (drumV d))) : wpList P ops Q (o :: rest) a w :=
  wpList_store_row hgd ty x y ho g (drumV d) hx hy t (drumV old) hg (by rw [drumV_size, hd]; exact hi) (by rw [drumV_size, drumV_size, hd, hold]) (drumV_one d) h
theorem results_cell_drum {P : Program} {fn : Func} {p : Tmp} {ty e : TypeId} (h : fn.results = #[.cell p ty]) (tmps : Array Value) (w : World) (g : Nat) (t : TypeId) (d : List Int)
    (hp : tmps.getD p undef = .pointer (some ⟨g, 0, none⟩)) (hg : Var w g (drumV d) t) (hu : P.underlying ty = some (.array 96 e)) (hi : (P.info? ty).map (·.size) = some 96) (hd : d.length = 96) :
    (results fn tmps).run P w = .ok (.agg (drumV d)) w :=
  results_cell_row h tmps w g t (drumV d) (0, 0) _ hp hg hu rfl (by rw [drumV_size, hd]; exact hi)

theorem run_index_drum {P : Program} {ty e : TypeId} {k : Nat} {d : List Int} (hu : P.underlying ty = some (.array 96 e)) (he : P.underlying e = some (.int .u32)) (hs : (P.info? e).map (·.size) = some 1) (hd : d.length = 96) (h : k < d.length) (W : World) :
    (Instr.index ty (.agg (drumV d)) (.int .i64 (k : Int))).run P W = .ok (.int .u32 d[k]) W := by
  cases hq : P.info? e with
  | none => simp [hq] at hs
  | some i =>
    have hs2 : i.size = 1 := by simpa [hq] using hs
    have hk : (0 : Int) ≤ (k : Int) ∧ (k : Int) < ((96 : Nat) : Int) := by omega
    have hag : (isAgg e).run P W = .ok false W := by
      unfold isAgg
      rw [Sem.run_bind, run_underlying he W]
      rfl
    simp [Instr.index, asIntOf, run_underlying hu, hk, sizeOf, typeInfo, hq, hs2, part, Sem.run_bind, hag, drumV_get h, go_sem]
    intro hge
    omega

/-! ### slices of drums, and drums without a pin -/
theorem foldSet (vs : List Value) : ∀ (k off : Nat) (cells : Array Value), off + k + vs.length ≤ cells.size →
    ((vs.zipIdx k).foldl (fun cs x => cs.setIfInBounds (off + x.2) x.1) cells).size = cells.size ∧
    ∀ i, ((vs.zipIdx k).foldl (fun cs x => cs.setIfInBounds (off + x.2) x.1) cells)[i]? = if off + k ≤ i ∧ i < off + k + vs.length then vs[i - (off + k)]? else cells[i]? := by
  induction vs with
  | nil => intro k off cells _; exact ⟨rfl, fun i => by simp; omega⟩
  | cons v vs ih =>
    intro k off cells hsz
    simp only [List.length_cons] at hsz
    have h := ih (k + 1) off (cells.setIfInBounds (off + k) v) (by simp; omega)
    rw [List.zipIdx_cons, List.foldl_cons]
    refine ⟨by rw [h.1]; simp, fun i => ?_⟩
    rw [h.2 i]
    by_cases h1 : i = off + k
    · subst h1
      rw [if_neg (by omega), if_pos (by simp), Nat.sub_self, Array.getElem?_setIfInBounds, if_pos rfl, if_pos (by omega)]
      rfl
    · by_cases h2 : off + (k + 1) ≤ i ∧ i < off + (k + 1) + vs.length
      · rw [if_pos h2, if_pos (by simp; omega), show i - (off + k) = i - (off + (k + 1)) + 1 by omega]
        simp
      · rw [if_neg h2, if_neg (by simp; omega), Array.getElem?_setIfInBounds_ne (by omega)]
theorem foldSetA (vs cells : Array Value) (off : Nat) (h : off + vs.size ≤ cells.size) :
    (vs.zipIdx.foldl (fun cs x => cs.setIfInBounds (off + x.2) x.1) cells).size = cells.size ∧
    ∀ i, (vs.zipIdx.foldl (fun cs x => cs.setIfInBounds (off + x.2) x.1) cells)[i]? = if off ≤ i ∧ i < off + vs.size then vs[i - off]? else cells[i]? := by
  have := foldSet vs.toList 0 off cells (by simpa using h)
  rw [← Array.toList_zipIdx, Array.foldl_toList] at this
  simpa using this

theorem info_split {P : Program} {e : TypeId} {z : Value} (hz : (P.info? e).map (·.zero) = some (some z)) (hs : (P.info? e).map (·.size) = some 96) : ∃ ie, P.info? e = some ie ∧ ie.zero = some z ∧ ie.size = 96 := by
  cases hq : P.info? e with
  | none => simp [hq] at hz
  | some i => exact ⟨i, rfl, by simpa [hq] using hz, by simpa [hq] using hs⟩

theorem run_build_drum1 {P : Program} {t e : TypeId} (hu : P.underlying t = some (.slice e)) (hz : (P.info? e).map (·.zero) = some (some (.agg (drumV zD)))) (hs : (P.info? e).map (·.size) = some 96) {d : List Int} (hd : d.length = 96) (W : World) :
    (Instr.buildSlice t 1 #[(0, .agg (drumV d))]).run P W = .ok (.slice (some ⟨W.heap.size, 0, none⟩) 1 1) (W.alloc (.cells (drumV d) e)) := by
  obtain ⟨ie, h1, h2, h3⟩ := info_split hz hs
  refine run_buildSlice W t e 1 _ (drumV d) ie _ hu h1 h2 (by rw [h3]; decide) (by rw [h3]; decide) ?_
  have hf := foldSetA (drumV d) ((Array.range (1 * ie.size)).map ((Value.agg (drumV zD)).cells[· % (Value.agg (drumV zD)).cells.size]!)) (0 * ie.size) (by rw [drumV_size, hd, h3]; simp)
  have hc : (Value.agg (drumV d)).cells = drumV d := rfl
  simp only [Instr.fill, hc]
  rw [if_neg (by rw [drumV_size, hd, h3]; simp)]
  congr 1
  refine Array.ext_getElem? fun i => ?_
  rw [hf.2 i]
  by_cases hi : i < 96
  · rw [if_pos (by rw [drumV_size, hd]; omega)]; simp
  · rw [if_neg (by rw [drumV_size, hd]; omega), Array.getElem?_eq_none (by simp [h3]; omega), Array.getElem?_eq_none (by rw [drumV_size, hd]; omega)]

theorem run_build_drum2 {P : Program} {t e : TypeId} (hu : P.underlying t = some (.slice e)) (hz : (P.info? e).map (·.zero) = some (some (.agg (drumV zD)))) (hs : (P.info? e).map (·.size) = some 96) {d f : List Int} (hd : d.length = 96) (hf : f.length = 96) (W : World) :
    (Instr.buildSlice t 2 #[(0, .agg (drumV d)), (1, .agg (drumV f))]).run P W = .ok (.slice (some ⟨W.heap.size, 0, none⟩) 2 2) (W.alloc (.cells (drumV (d ++ f)) e)) := by
  obtain ⟨ie, h1, h2, h3⟩ := info_split hz hs
  refine run_buildSlice W t e 2 _ (drumV (d ++ f)) ie _ hu h1 h2 (by rw [h3]; decide) (by rw [h3]; decide) ?_
  have g1 := foldSetA (drumV d) ((Array.range (2 * ie.size)).map ((Value.agg (drumV zD)).cells[· % (Value.agg (drumV zD)).cells.size]!)) (0 * ie.size) (by rw [drumV_size, hd, h3]; simp)
  have g2 := foldSetA (drumV f) ((drumV d).zipIdx.foldl (fun cs x => cs.setIfInBounds (0 * ie.size + x.2) x.1) ((Array.range (2 * ie.size)).map ((Value.agg (drumV zD)).cells[· % (Value.agg (drumV zD)).cells.size]!))) (1 * ie.size) (by rw [g1.1, drumV_size, hf, h3]; simp)
  have hc : (Value.agg (drumV d)).cells = drumV d := rfl
  have hc2 : (Value.agg (drumV f)).cells = drumV f := rfl
  simp only [Instr.fill, hc, hc2]
  rw [if_neg (by rw [drumV_size, hd, h3]; simp), if_neg (by rw [g1.1, drumV_size, hf, h3]; simp)]
  congr 1
  refine Array.ext_getElem? fun i => ?_
  rw [g2.2 i, g1.2 i]
  by_cases hi : i < 96
  · rw [if_neg (by rw [drumV_size, hf, h3]; omega), if_pos (by rw [drumV_size, hd]; omega), drumV_get (d := d ++ f) (by simp; omega)]
    rw [List.getElem_append_left (by omega), Nat.zero_mul, Nat.sub_zero, drumV_get (d := d) (by omega)]
  · by_cases hi2 : i < 192
    · rw [if_pos (by rw [drumV_size, hf, h3]; omega), drumV_get (d := d ++ f) (by simp; omega), List.getElem_append_right (by omega)]
      rw [drumV_get (d := f) (by rw [h3]; omega)]
      simp [h3, hd]
    · rw [if_neg (by rw [drumV_size, hf, h3]; omega), if_neg (by rw [drumV_size, hd]; omega), Array.getElem?_eq_none (by simp [h3]; omega), Array.getElem?_eq_none (by rw [drumV_size]; simp; omega)]

theorem run_build_zero {P : Program} {ty e : TypeId} {z : Value} (hu : P.underlying ty = some (.array 96 e)) (hz : (P.info? ty).map (·.zero) = some (some (.agg (drumV zD)))) (hs : (P.info? e).map (·.size) = some 1) (W : World) :
    (Instr.build ty #[]).run P W = .ok (.agg (drumV zD)) W := by
  cases hq : P.info? ty with
  | none => simp [hq] at hz
  | some i =>
    have h2 : i.zero = some (.agg (drumV zD)) := by simpa [hq] using hz
    cases hq2 : P.info? e with
    | none => simp [hq2] at hs
    | some j => simp [Instr.build, zeroValue, typeInfo, hq, h2, run_underlying hu, sizeOf, hq2, Instr.fill, Value.cells]
theorem run_alloc_drum {P : Program} {ty : TypeId} (hz : (P.info? ty).map (·.zero) = some (some (.agg (drumV zD)))) (W : World) :
    (Instr.alloc ty true (.tuple #[])).run P W = .ok (.pointer (some ⟨W.heap.size, 0, none⟩)) (W.alloc (.cells (drumV zD) ty)) := by
  cases hq : P.info? ty with
  | none => simp [hq] at hz
  | some i =>
    have h2 : i.zero = some (.agg (drumV zD)) := by simpa [hq] using hz
    simp [Instr.alloc, zeroValue, typeInfo, hq, h2, newVar, newRow, Value.cells, go_sem]

/-- The drums of a slice. -/
def DrumsAt (w : World) (b : Nat) (ds : List (List Int)) : Prop := b < w.heap.size ∧ ∀ i (h : i < ds.length), w.rangeAt b (i * 96) (drumV ds[i]).toList ∧ ds[i].length = 96
theorem DrumsAt.below {w w' : World} {b : Nat} {ds : List (List Int)} (h : DrumsAt w b ds) (hb : Below w.heap.size w w') : DrumsAt w' b ds :=
  ⟨by have := hb.size; have := h.1; omega, fun i hi => ⟨keepr (h.2 i hi).1 hb, (h.2 i hi).2⟩⟩
theorem DrumsAt.one {w : World} {b : Nat} {d : List Int} {t : TypeId} (h : Var w b (drumV d) t) (hd : d.length = 96) : DrumsAt w b [d] :=
  ⟨h.lt, fun i hi => by
    simp only [List.length_cons, List.length_nil] at hi
    obtain rfl : i = 0 := by omega
    exact ⟨by simpa using h.range, hd⟩⟩
theorem DrumsAt.two {w : World} {b : Nat} {d f : List Int} {t : TypeId} (h : Var w b (drumV (d ++ f)) t) (hd : d.length = 96) (hf : f.length = 96) : DrumsAt w b [d, f] :=
  ⟨h.lt, fun i hi => by
    simp only [List.length_cons, List.length_nil] at hi
    rcases (by omega : i = 0 ∨ i = 1) with rfl | rfl
    · refine ⟨fun j v hj => ?_, hd⟩
      have hlt : j < d.length := by have := (List.getElem?_eq_some_iff.1 hj).1; rwa [drumV_len] at this
      rw [Array.getElem?_toList] at hj
      simp only [List.getElem_cons_zero] at hj
      rw [drumV_get hlt] at hj
      rw [Nat.zero_mul, Nat.zero_add]
      refine h.cell ?_
      rw [drumV_get (by simp; omega), List.getElem_append_left hlt]
      exact hj
    · refine ⟨fun j v hj => ?_, hf⟩
      have hlt : j < f.length := by have := (List.getElem?_eq_some_iff.1 hj).1; rwa [drumV_len] at this
      rw [Array.getElem?_toList] at hj
      simp only [List.getElem_cons_succ, List.getElem_cons_zero] at hj
      rw [drumV_get hlt] at hj
      rw [Nat.one_mul]
      refine h.cell ?_
      rw [drumV_get (by simp; omega), List.getElem_append_right (by omega)]
      simp only [hd, Nat.add_sub_cancel_left]
      exact hj⟩
theorem DrumsAt.load {P : Program} {w : World} {b : Nat} {ds : List (List Int)} (h : DrumsAt w b ds) {ty e : TypeId} (hu : P.underlying ty = some (.array 96 e)) (hi : (P.info? ty).map (·.size) = some 96) {i : Nat} (hlt : i < ds.length) :
    (Instr.loadAt ty (.pointer (some ⟨b, i * 96, none⟩))).run P w = .ok (.agg (drumV ds[i])) w := by
  have := run_loadAt_mid (P := P) w b (i * 96) ty (drumV ds[i]).toList (.array 96 e) (h.2 i hlt).1 hu rfl (by rw [drumV_len, (h.2 i hlt).2]; exact hi)
  simpa using this

theorem wpList_loadDs {P : Program} {ops : Array Oper} {rest : List Oper} {o : Oper} {a : Act} {w : World} {Q : Exit → Act → World → Prop} {ty e : TypeId} {x : Operand} {g i : Nat} {ds : List (List Int)} (hw : Region.wanted o (yielded ops a.tmps) = true) (ho : o.op = .load ty x)
    (hg : DrumsAt w g ds) (hlt : i < ds.length) (hx : a.eval x = .pointer (some ⟨g, i * 96, none⟩)) (hu : P.underlying ty = some (.array 96 e)) (hi : (P.info? ty).map (·.size) = some 96)
    (h : wpList P ops Q rest (a.put o.dst (.agg (drumV ds[i]))) w) : wpList P ops Q (o :: rest) a w := by
  refine wpList_step fun K hK => ?_
  rw [if_pos hw]
  refine wp_load_mid ty x ho g (i * 96) hx (drumV ds[i]).toList _ (hg.2 i hlt).1 hu rfl (by rw [drumV_len, (hg.2 i hlt).2]; exact hi) (hK _ _ ?_)
  simpa using h

theorem wp_build_drum1 {P : Program} {o : Oper} {a : Act} {w : World} {K : Act → World → Prop} {Q : Exit → Act → World → Prop} {t e : TypeId} {parts : Array (Nat × Operand)} {d : List Int} (ho : o.op = .buildSlice t 1 parts)
    (hp : (parts.map fun (i, x) => (i, a.eval x)) = #[(0, .agg (drumV d))]) (hu : P.underlying t = some (.slice e)) (hz : (P.info? e).map (·.zero) = some (some (.agg (drumV zD)))) (hs : (P.info? e).map (·.size) = some 96) (hd : d.length = 96)
    (h : K (a.put o.dst (.slice (some ⟨w.heap.size, 0, none⟩) 1 1)) (w.alloc (.cells (drumV d) e))) : o.wp P a w K Q := by
  unfold Oper.wp execOp
  simp only [ho, Sem.run_bind, hp, run_build_drum1 hu hz hs hd w, Result.andThen_ok]
  exact h
theorem wp_build_drum2 {P : Program} {o : Oper} {a : Act} {w : World} {K : Act → World → Prop} {Q : Exit → Act → World → Prop} {t e : TypeId} {parts : Array (Nat × Operand)} {d f : List Int} (ho : o.op = .buildSlice t 2 parts)
    (hp : (parts.map fun (i, x) => (i, a.eval x)) = #[(0, .agg (drumV d)), (1, .agg (drumV f))]) (hu : P.underlying t = some (.slice e)) (hz : (P.info? e).map (·.zero) = some (some (.agg (drumV zD)))) (hs : (P.info? e).map (·.size) = some 96) (hd : d.length = 96) (hf : f.length = 96)
    (h : K (a.put o.dst (.slice (some ⟨w.heap.size, 0, none⟩) 2 2)) (w.alloc (.cells (drumV (d ++ f)) e))) : o.wp P a w K Q := by
  unfold Oper.wp execOp
  simp only [ho, Sem.run_bind, hp, run_build_drum2 hu hz hs hd hf w, Result.andThen_ok]
  exact h
theorem wp_alloc_drum {P : Program} {o : Oper} {a : Act} {w : World} {K : Act → World → Prop} {Q : Exit → Act → World → Prop} {ty : TypeId} (ho : o.op = .alloc ty) (hz : (P.info? ty).map (·.zero) = some (some (.agg (drumV zD))))
    (h : K (a.put o.dst (.pointer (some ⟨w.heap.size, 0, none⟩))) (w.alloc (.cells (drumV zD) ty))) : o.wp P a w K Q := by
  unfold Oper.wp execOp
  simp only [ho, Sem.run_bind, run_alloc_drum hz w, Result.andThen_ok]
  exact h
theorem wp_build_zero {P : Program} {o : Oper} {a : Act} {w : World} {K : Act → World → Prop} {Q : Exit → Act → World → Prop} {ty e : TypeId} (ho : o.op = .build ty #[]) (hu : P.underlying ty = some (.array 96 e)) (hz : (P.info? ty).map (·.zero) = some (some (.agg (drumV zD)))) (hs : (P.info? e).map (·.size) = some 1)
    (h : K (a.put o.dst (.agg (drumV zD))) w) : o.wp P a w K Q := by
  have := run_build_zero (z := .agg (drumV zD)) hu hz hs w
  unfold Oper.wp execOp
  simp only [ho, Sem.run_bind, List.map_toArray, List.map_nil, this, Result.andThen_ok]
  exact h

theorem wpList_bd1 {P : Program} {ops : Array Oper} {rest : List Oper} {o : Oper} {a : Act} {w : World} {Q : Exit → Act → World → Prop} {t e : TypeId} {parts : Array (Nat × Operand)} {d : List Int} (hw : Region.wanted o (yielded ops a.tmps) = true) (ho : o.op = .buildSlice t 1 parts)
    (hp : (parts.map fun (i, x) => (i, a.eval x)) = #[(0, .agg (drumV d))]) (hu : P.underlying t = some (.slice e)) (hz : (P.info? e).map (·.zero) = some (some (.agg (drumV zD)))) (hs : (P.info? e).map (·.size) = some 96) (hd : d.length = 96)
    (h : wpList P ops Q rest (a.put o.dst (.slice (some ⟨w.heap.size, 0, none⟩) 1 1)) (w.alloc (.cells (drumV d) e))) : wpList P ops Q (o :: rest) a w :=
  wpList_step fun K hK => by rw [if_pos hw]; exact wp_build_drum1 ho hp hu hz hs hd (hK _ _ h)
theorem wpList_bd2 {P : Program} {ops : Array Oper} {rest : List Oper} {o : Oper} {a : Act} {w : World} {Q : Exit → Act → World → Prop} {t e : TypeId} {parts : Array (Nat × Operand)} {d f : List Int} (hw : Region.wanted o (yielded ops a.tmps) = true) (ho : o.op = .buildSlice t 2 parts)
    (hp : (parts.map fun (i, x) => (i, a.eval x)) = #[(0, .agg (drumV d)), (1, .agg (drumV f))]) (hu : P.underlying t = some (.slice e)) (hz : (P.info? e).map (·.zero) = some (some (.agg (drumV zD)))) (hs : (P.info? e).map (·.size) = some 96) (hd : d.length = 96) (hf : f.length = 96)
    (h : wpList P ops Q rest (a.put o.dst (.slice (some ⟨w.heap.size, 0, none⟩) 2 2)) (w.alloc (.cells (drumV (d ++ f)) e))) : wpList P ops Q (o :: rest) a w :=
  wpList_step fun K hK => by rw [if_pos hw]; exact wp_build_drum2 ho hp hu hz hs hd hf (hK _ _ h)
theorem wpList_bz {P : Program} {ops : Array Oper} {rest : List Oper} {o : Oper} {a : Act} {w : World} {Q : Exit → Act → World → Prop} {ty e : TypeId} (hw : Region.wanted o (yielded ops a.tmps) = true) (ho : o.op = .build ty #[]) (hu : P.underlying ty = some (.array 96 e)) (hz : (P.info? ty).map (·.zero) = some (some (.agg (drumV zD)))) (hs : (P.info? e).map (·.size) = some 1)
    (h : wpList P ops Q rest (a.put o.dst (.agg (drumV zD))) w) : wpList P ops Q (o :: rest) a w :=
  wpList_step fun K hK => by rw [if_pos hw]; exact wp_build_zero ho hu hz hs (hK _ _ h)

end Go.Proofs.YtkjpiokmccnhdaaDoor
