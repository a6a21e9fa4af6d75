/-
  From an argument as the statement reads it to the rows of cells that the walks speak of, and back.
-/
import Derived.Test.YtnakdlfjjeligaaGreatData
import Derived.Test.YtnakdlfjjeligaaGreatPure
import Derived.ProofKit
import Derived.OpenShut
import Derived.ChangeSame
import Derived.Carry
import Derived.Deep.Slices
import Derived.Deep.Fields
import Derived.SizedLaws
namespace Go.Proofs.YtnakdlfjjeligaaGreat
open Go.RowKit Go.ChangeShapes Go.WideShapes Go.Deep
set_option linter.unusedVariables false
set_option linter.unusedSimpArgs false

section
variable {H : Type} {enc : TypeId × Value → H} {P : Program} {w : World} {base : Nat} {spare : Nat → Bool} {held : Bool}
theorem open_slice_fields {t e : TypeId} {fs : Array Field} {fuel : Nat} {cs : List Value} {x : DataW H × List MemPlace} (ht : P.underlying t = some (.slice e)) (he : P.underlying e = some (.struct fs))
    (hone : oneCellFields P fs = true) (hC : P.cellsOf e = fs.size) (h : DataW.trod enc P w base spare held fuel t cs = some x) :
    (cs = [.slice none 0 0] ∧ x = (.nil, [])) ∨
    ∃ (a : Addr) (len cap m : Nat) (D : Nat → DataW H) (Pl : Nat → List MemPlace), cs = [.slice (some a) len cap] ∧ base ≤ a.block ∧ len ≤ cap ∧ cap ≤ maxLen ∧ m = (if spare a.block then cap else len) ∧
      x = (.slice ((List.range len).map D) ((List.range (m - len)).map fun j => D (len + j)), MemPlace.row a (m * fs.size) ++ (List.range m).flatMap Pl) ∧
      ∀ i, i < m → ∃ (ys : List (DataW H × List MemPlace)) (n : Nat), D i = .agg (ys.map (·.1)) ∧ Pl i = ys.flatMap (·.2) ∧ ys.length = fs.size ∧
        ∀ (j : Nat) (f : Field), fs[j]? = some f → ∃ (v : Value) (y : DataW H × List MemPlace), w.cell? (a.add (i * fs.size + j)) = some v ∧ ys[j]? = some y ∧ DataW.trod enc P w base spare held n f.type [v] = some y := by
  rcases open_slice ht h with h0 | ⟨a, len, cap, m, n, D, Pl, hcs, hb, hl, hm, hmm, hx, hi⟩
  · exact .inl h0
  · refine .inr ⟨a, len, cap, m, D, Pl, hcs, hb, hl, hm, hmm, by rw [hC] at hx; exact hx, fun i him => ?_⟩
    obtain ⟨cs', hc, ht'⟩ := hi i him
    rw [hC] at hc
    obtain ⟨ys, n', hn', hy, hlen, hyl, hf⟩ := DataW.trod_struct he ht'
    obtain ⟨_, hcl, hat⟩ := World.cells?_some hc
    simp only [Prod.mk.injEq] at hy
    refine ⟨ys, n', hy.1, hy.2, hyl, fun j f hj => ?_⟩
    obtain ⟨ho, hk⟩ := hone_of hone j f hj
    have hjl : j < fs.size := (Array.getElem?_eq_some_iff.1 hj).1
    have hcell := hat j hjl
    have hv : cs'[j]? = some (cs'[j]'(by omega)) := List.getElem?_eq_getElem (by omega)
    have h1 := hf j f hj
    rw [ho, hk] at h1
    have hone' : (cs'.drop j).take 1 = [cs'[j]'(by omega)] := by
      rw [List.drop_eq_getElem_cons (by omega)]
      rfl
    rw [hone'] at h1
    have hys : ys[j]? = some (ys[j]'(by omega)) := List.getElem?_eq_getElem (by omega)
    refine ⟨_, _, ?_, hys, h1.trans hys⟩
    rw [← Go.Deep.add_add, hcell, hv]

/-- An address at which a cell lies is no place of its own. -/
theorem addr_of_cell {a : Addr} {v : Value} (h : w.cell? a = some v) : a = ⟨a.block, a.off, none⟩ := by
  obtain ⟨b, o, s⟩ := a
  cases s with
  | none => rfl
  | some s =>
    exfalso
    unfold World.cell? at h
    split at h
    · simp at h
    · cases h
theorem add_plain (b off n : Nat) : (⟨b, off, none⟩ : Addr).add n = ⟨b, off + n, none⟩ := by
  unfold Addr.add
  split
  · subst_vars; rfl
  · rfl

/-- A slice of structs of two whole numbers. -/
theorem open_pairs {t e : TypeId} {k1 k2 : IntKind} {f1 f2 : Field} {r : Reach} {b0 : Nat} {v : Value} {d : DataW H} {p : List MemPlace} (ht : P.underlying t = some (.slice e)) (he : P.underlying e = some (.struct #[f1, f2]))
    (h1 : P.underlying f1.type = some (.int k1)) (h2 : P.underlying f2.type = some (.int k2)) (hone : oneCellFields P #[f1, f2] = true) (hC : P.cellsOf e = 2)
    (hv : Value.okWide P w r b0 t v) (h : DataW.Trod enc P w base spare held t v d p) :
    ∃ (A : Option Addr) (c : Nat) (l : List (Int × Int)), v = .slice A l.length c ∧ l.length ≤ maxLen ∧ At2 k1 k2 w A l ∧ ∀ q ∈ l, (Lit.int k1 q.1).wf = true ∧ (Lit.int k2 q.2).wf = true := by
  obtain ⟨a0, len0, cap0, rfl⟩ := okWide_slice ht hv
  obtain ⟨fuel, hf⟩ := h
  rcases open_slice_fields ht he hone hC hf with ⟨hcs, _⟩ | ⟨a, len, cap, m, D, Pl, hcs, hb, hl, hm, hmm, hx, hi⟩
  · have hcs' : a0 = none ∧ len0 = 0 ∧ cap0 = 0 := by simpa [Value.cells] using hcs
    obtain ⟨rfl, rfl, rfl⟩ := hcs'
    exact ⟨none, 0, [], rfl, by simp, At2.nil _ _ _ _, fun q hq => by cases hq⟩
  · have hcs' : a0 = some a ∧ len0 = len ∧ cap0 = cap := by simpa [Value.cells] using hcs
    obtain ⟨rfl, rfl, rfl⟩ := hcs'
    have hlm : len0 ≤ m := by rw [hmm]; split <;> omega
    have key : ∀ i, ∃ q : Int × Int, i < len0 → w.cell? (a.add (i * 2)) = some (.int k1 q.1) ∧ w.cell? (a.add (i * 2 + 1)) = some (.int k2 q.2) ∧ (Lit.int k1 q.1).wf = true ∧ (Lit.int k2 q.2).wf = true := fun i => by
      by_cases hlt : i < len0
      · obtain ⟨ys, n, _, _, _, hfs⟩ := hi i (by omega)
        obtain ⟨u1, y1, c1, _, t1⟩ := hfs 0 f1 rfl
        obtain ⟨u2, y2, c2, _, t2⟩ := hfs 1 f2 rfl
        obtain ⟨n1, e1, _, w1⟩ := DataW.trod_int h1 t1
        obtain ⟨n2, e2, _, w2⟩ := DataW.trod_int h2 t2
        simp only [List.cons.injEq, and_true] at e1 e2
        subst e1; subst e2
        exact ⟨(n1, n2), fun _ => ⟨c1, c2, w1, w2⟩⟩
      · exact ⟨(0, 0), fun h => absurd h hlt⟩
    obtain ⟨g, hg⟩ := Classical.axiomOfChoice key
    refine ⟨some a, cap0, (List.range len0).map g, by simp, by simp; omega, fun hne => ?_, fun q hq => ?_⟩
    · have hpos : 0 < len0 := by
        rcases Nat.eq_zero_or_pos len0 with h0 | h0
        · subst h0; simp [flat2] at hne
        · exact h0
      have ha := addr_of_cell (hg 0 hpos).1
      have ha0 : a = ⟨a.block, a.off, none⟩ := by simpa [Addr.add] using ha
      have hcell0 := (hg 0 hpos).1
      rw [ha0] at hg hcell0 ⊢
      refine ⟨a.block, a.off, rfl, ?_, fun j hj => ?_⟩
      · have := World.block_lt_of_cell? w _ hcell0
        simpa [Addr.add] using this
      · have hj' : j < len0 * 2 := by rw [length_flat2] at hj; simpa using hj
        have hk : j / 2 < ((List.range len0).map g).length := by simp; omega
        have hfl := flat2_get k1 k2 _ (j / 2) hk
        have hgk := hg (j / 2) (by omega)
        rw [List.getElem_map, List.getElem_range] at hfl
        have hsome : (flat2 k1 k2 ((List.range len0).map g))[j]? = some (flat2 k1 k2 ((List.range len0).map g))[j] := List.getElem?_eq_getElem hj
        rcases (by omega : j = j / 2 * 2 ∨ j = j / 2 * 2 + 1) with e | e
        · have hc := hgk.1
          rw [add_plain] at hc
          rw [← hsome]
          rw [← e] at hc hfl
          rw [hfl.1]
          exact hc
        · have hc := hgk.2.1
          rw [add_plain] at hc
          rw [← hsome]
          rw [← e] at hc hfl
          rw [hfl.2]
          exact hc
    · obtain ⟨i, hi', rfl⟩ := List.mem_map.1 hq
      exact (hg i (List.mem_range.1 hi')).2.2

theorem wf_of_lits {l : List (Int × Int)} (h : ∀ q ∈ l, (Lit.int .i16 q.1).wf = true ∧ (Lit.int .i8 q.2).wf = true) : Wf l := fun q hq => by
  obtain ⟨h1, h2⟩ := h q hq
  simp [Lit.wf, IntKind.min, IntKind.max, IntKind.signed, IntKind.bits] at h1 h2
  exact ⟨h1.1, h1.2, h2.1, h2.2⟩

/-- What the arguments read, they read behind a call that leaves old memory alone. -/
theorem trodAll_below {W W' : World} (hl : laidOutB P = true) (hb : Below W.heap.size W W') : ∀ {ts : List TypeId} {vs : List Value} {ds : List (DataW H)} {ps : List MemPlace},
    (∀ t ∈ ts, P.readableRec t = true ∧ t < P.types.size) → (∀ x ∈ ps, x.block < W.heap.size) → DataW.TrodAll enc P W 0 (fun _ => true) true ts vs ds ps →
    DataW.TrodAll enc P W' 0 (fun b => decide (b < W.heap.size)) true ts vs ds ps
  | [], [], [], _, _, _, h => h
  | t :: ts, v :: vs, d :: ds, ps, hr, hlt, h => by
    obtain ⟨p, q, h1, h2, rfl⟩ := h
    refine ⟨p, q, Below.trod hl (hr t (by simp)).1 (hr t (by simp)).2 h1 hb (fun x hx => hlt x (by simp [hx])), trodAll_below hl hb (fun t ht => hr t (by simp [ht])) (fun x hx => hlt x (by simp [hx])) h2, rfl⟩
  | [], _ :: _, _, _, _, _, h => by simp [DataW.TrodAll] at h
  | [], [], _ :: _, _, _, _, h => by simp [DataW.TrodAll] at h
  | _ :: _, [], _, _, _, _, h => by simp [DataW.TrodAll] at h
  | _ :: _, _ :: _, [], _, _, _, h => by simp [DataW.TrodAll] at h
end

end Go.Proofs.YtnakdlfjjeligaaGreat
