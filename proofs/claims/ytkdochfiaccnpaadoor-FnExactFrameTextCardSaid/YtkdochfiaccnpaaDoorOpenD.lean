/-
  From an argument of the statement (a frame, a drum) to the rows of cells that the walks speak of.
-/
import Derived.Test.YtkdochfiaccnpaaDoorOpen
import Derived.Test.YtkdochfiaccnpaaDoorDataD
import Derived.Test.YtkdochfiaccnpaaDoorPureD
import Derived.Lib.SmallJoins
namespace Go.Proofs.YtkdochfiaccnpaaDoor
open Go.RowKit Go.ChangeShapes Go.WideShapes Go.Deep
set_option linter.unusedVariables false
set_option linter.unusedSimpArgs false

section
variable {H : Type} {enc : TypeId × Value → H} {P : Program} {w : World} {base : Nat} {spare : Nat → Bool} {held : Bool}

/-- A slice of structs of two whole numbers, as one cell. -/
theorem open_pairs_cell {t e : TypeId} {k1 k2 : IntKind} {f1 f2 : Field} {v : Value} {n : Nat} {y : DataW H × List MemPlace} (ht : P.underlying t = some (.slice e)) (he : P.underlying e = some (.struct #[f1, f2]))
    (h1 : P.underlying f1.type = some (.int k1)) (h2 : P.underlying f2.type = some (.int k2)) (hone : oneCellFields P #[f1, f2] = true) (hC : P.cellsOf e = 2)
    (h : DataW.trod enc P w base spare held n t [v] = some y) :
    ∃ (A : Option Addr) (c : Nat) (l : List (Int × Int)), v = .slice A l.length c ∧ l.length ≤ maxLen ∧ At2 k1 k2 w A l ∧ ∀ q ∈ l, (Lit.int k1 q.1).wf = true ∧ (Lit.int k2 q.2).wf = true := by
  rcases open_slice_fields ht he hone hC h with ⟨hcs, _⟩ | ⟨a, len, cap, m, D, Pl, hcs, hb, hl, hm, hmm, hx, hi⟩
  · obtain rfl : v = .slice none 0 0 := by simpa using hcs
    exact ⟨none, 0, [], rfl, by simp, At2.nil _ _ _ _, fun q hq => by cases hq⟩
  · obtain rfl : v = .slice (some a) len cap := by simpa using hcs
    have hlm : len ≤ m := by rw [hmm]; split <;> omega
    have key : ∀ i, ∃ q : Int × Int, i < len → w.cell? (a.add (i * 2)) = some (.int k1 q.1) ∧ w.cell? (a.add (i * 2 + 1)) = some (.int k2 q.2) ∧ (Lit.int k1 q.1).wf = true ∧ (Lit.int k2 q.2).wf = true := fun i => by
      by_cases hlt : i < len
      · obtain ⟨ys, n, _, _, _, hfs⟩ := hi i (by omega)
        obtain ⟨u1, y1, c1, _, t1⟩ := hfs 0 f1 rfl
        obtain ⟨u2, y2, c2, _, t2⟩ := hfs 1 f2 rfl
        obtain ⟨n1, e1, _, w1⟩ := DataW.trod_int h1 t1
        obtain ⟨n2, e2, _, w2⟩ := DataW.trod_int h2 t2
        simp only [List.cons.injEq, and_true] at e1 e2
        subst e1; subst e2
        exact ⟨(n1, n2), fun _ => ⟨c1, c2, w1, w2⟩⟩
      · exact ⟨(0, 0), fun h => absurd h hlt⟩
    obtain ⟨g, hg⟩ := Classical.axiomOfChoice key
    refine ⟨some a, cap, (List.range len).map g, by simp, by simp; omega, fun hne => ?_, fun q hq => ?_⟩
    · have hpos : 0 < len := by
        rcases Nat.eq_zero_or_pos len with h0 | h0
        · subst h0; simp [flat2] at hne
        · exact h0
      have ha := addr_of_cell (hg 0 hpos).1
      have ha0 : a = ⟨a.block, a.off, none⟩ := by simpa [Addr.add] using ha
      have hcell0 := (hg 0 hpos).1
      rw [ha0] at hg hcell0 ⊢
      refine ⟨a.block, a.off, rfl, ?_, fun j hj => ?_⟩
      · have := World.block_lt_of_cell? w _ hcell0
        simpa [Addr.add] using this
      · have hj' : j < len * 2 := by rw [length_flat2] at hj; simpa using hj
        have hk : j / 2 < ((List.range len).map g).length := by simp; omega
        have hfl := flat2_get k1 k2 _ (j / 2) hk
        have hgk := hg (j / 2) (by omega)
        rw [List.getElem_map, List.getElem_range] at hfl
        have hsome : (flat2 k1 k2 ((List.range len).map g))[j]? = some (flat2 k1 k2 ((List.range len).map g))[j] := List.getElem?_eq_getElem hj
        rcases (by omega : j = j / 2 * 2 ∨ j = j / 2 * 2 + 1) with e | e
        · have hc := hgk.1
          rw [add_plain] at hc
          rw [← hsome]
          rw [← e] at hc hfl
          rw [hfl.1]
          exact hc
        · have hc := hgk.2.1
          rw [add_plain] at hc
          rw [← hsome]
          rw [← e] at hc hfl
          rw [hfl.2]
          exact hc
    · obtain ⟨i, hi', rfl⟩ := List.mem_map.1 hq
      exact (hg i (List.mem_range.1 hi')).2.2

theorem whs_of_lits {l : List (Int × Int)} (h : ∀ q ∈ l, (Lit.int .i8 q.1).wf = true ∧ (Lit.int .i8 q.2).wf = true) : Whs l := fun q hq => by
  obtain ⟨h1, h2⟩ := h q hq
  simp [Lit.wf, IntKind.min, IntKind.max, IntKind.signed, IntKind.bits] at h1 h2
  exact ⟨h1.1, h1.2, h2.1, h2.2⟩

/-- A frame: a struct of a number of 16 bits and a slice of hammers. -/
theorem open_frame {t s e : TypeId} {g0 g1 f1 f2 : Field} {r : Reach} {b0 : Nat} {v : Value} {d : DataW H} {p : List MemPlace} (hs : P.underlying t = some (.struct #[g0, g1])) (hone2 : oneCellFields P #[g0, g1] = true) (hC2 : P.cellsOf t = 2)
    (h0 : P.underlying g0.type = some (.int .i16)) (hg1 : g1.type = s) (ht : P.underlying s = some (.slice e)) (he : P.underlying e = some (.struct #[f1, f2]))
    (h1 : P.underlying f1.type = some (.int .i8)) (h2 : P.underlying f2.type = some (.int .i8)) (hone : oneCellFields P #[f1, f2] = true) (hC : P.cellsOf e = 2)
    (hv : Value.okWide P w r b0 t v) (h : DataW.Trod enc P w base spare held t v d p) :
    ∃ (x : Int) (A : Option Addr) (c : Nat) (l : List (Int × Int)), v = .agg #[.int .i16 x, .slice A l.length c] ∧ W16 x ∧ l.length ≤ 9223372036854775807 ∧ At2 .i8 .i8 w A l ∧ Whs l := by
  obtain ⟨v0, v1, y0, y1, n, rfl, _, _, t0, t1⟩ := Go.Joins.open_agg2 hs hone2 hC2 hv h
  obtain ⟨x, e0, _, w0⟩ := DataW.trod_int h0 t0
  obtain rfl : v0 = .int .i16 x := by simpa using e0
  rw [hg1] at t1
  obtain ⟨A, c, l, rfl, hn, hat, hw⟩ := open_pairs_cell ht he h1 h2 hone hC t1
  exact ⟨x, A, c, l, rfl, bounds_i16 w0, by unfold maxLen at hn; omega, hat, whs_of_lits hw⟩

/-- A drum: an array of 96 numbers of 32 bits. -/
theorem open_drum {t e : TypeId} {r : Reach} {b0 : Nat} {v : Value} {d : DataW H} {p : List MemPlace} (ht : P.underlying t = some (.array 96 e)) (he : P.underlying e = some (.int .u32)) (hC : P.cellsOf e = 1) (hC2 : P.cellsOf t = 96)
    (hv : Value.okWide P w r b0 t v) (h : DataW.Trod enc P w base spare held t v d p) :
    ∃ (l : List Int), v = .agg (drumV l) ∧ l.length = 96 ∧ ∀ x ∈ l, 0 ≤ x ∧ x ≤ 4294967295 := by
  have hv' := hv
  simp only [Value.okWide, ht] at hv'
  obtain ⟨cs, rfl, hsz, _⟩ := hv'
  rw [hC2] at hsz
  obtain ⟨fuel, hf⟩ := h
  obtain ⟨xs, m, _, _, _, hxl, hi⟩ := DataW.trod_array ht hf
  rw [hC] at hi
  have key : ∀ i, ∃ x : Int, i < 96 → cs[i]? = some (.int .u32 x) ∧ 0 ≤ x ∧ x ≤ 4294967295 := fun i => by
    by_cases hlt : i < 96
    · have h1 := hi i hlt
      have hcs : ((Value.agg cs).cells.toList.drop (i * 1)).take 1 = [cs[i]] := by
        show (cs.toList.drop (i * 1)).take 1 = _
        rw [Nat.mul_one, List.drop_eq_getElem_cons (by simpa [hsz] using hlt)]
        simp
      rw [hcs] at h1
      have hys : xs[i]? = some (xs[i]'(by omega)) := List.getElem?_eq_getElem (by omega)
      rw [hys] at h1
      obtain ⟨x, e0, _, w0⟩ := DataW.trod_int he h1
      refine ⟨x, fun _ => ⟨?_, ?_⟩⟩
      · have e1 : cs[i] = .int .u32 x := by simpa using e0
        rw [Array.getElem?_eq_getElem (by omega), e1]
      · simpa [Lit.wf, IntKind.min, IntKind.max, IntKind.signed, IntKind.bits] using w0
    · exact ⟨0, fun h => absurd h hlt⟩
  obtain ⟨g, hg⟩ := Classical.axiomOfChoice key
  refine ⟨(List.range 96).map g, ?_, by simp, fun x hx => ?_⟩
  · congr 1
    refine Array.ext_getElem? fun i => ?_
    by_cases hlt : i < 96
    · rw [(hg i hlt).1, drumV_get (by simpa using hlt)]
      simp
    · rw [Array.getElem?_eq_none (by omega), Array.getElem?_eq_none (by rw [drumV_size]; simp; omega)]
  · obtain ⟨i, hi', rfl⟩ := List.mem_map.1 hx
    exact (hg i (List.mem_range.1 hi')).2
end

end Go.Proofs.YtkdochfiaccnpaaDoor
