/-
  How slices lie in memory, as rows of cells, and plain facts on pairs of numbers. No program in it.
-/
import Derived.Test.YtnakdlfjjeligaaGreatCore
import Derived.Deep.MidRow
import Derived.Test.YtnakdlfjjeligaaGreatPure
import Derived.Laws.Tables
import Derived.Great.BuildSlice
import Derived.Deep.Cut
import Derived.Deep.RegionHeld
import Derived.Maps.AppendAt
import Derived.Lib.AppendZerosOnto
import Derived.Laws.OwnMore
import Derived.Lib.SliceRun
import Derived.Laws.BitsLemmas
import Derived.Lib.Tables
namespace Go.Proofs.YtnakdlfjjeligaaGreat
open Go.RowKit

/-! ### a row of cells that a slice value reads -/

def Row (w : World) (A : Option Addr) (xs : List Value) : Prop :=
  xs ≠ [] → ∃ b off, A = some ⟨b, off, none⟩ ∧ b < w.heap.size ∧ ∀ j (h : j < xs.length), w.cell? ⟨b, off + j, none⟩ = some xs[j]

theorem Row.nil (w : World) (A : Option Addr) : Row w A [] := fun h => absurd rfl h

theorem Row.below {w w' : World} {A : Option Addr} {xs : List Value} (h : Row w A xs) (hb : Below w.heap.size w w') : Row w' A xs := fun hne => by
  obtain ⟨b, off, e, hlt, hc⟩ := h hne
  exact ⟨b, off, e, by have := hb.size; omega, fun j hj => (hb.cell (p := ⟨b, off + j, none⟩) hlt).trans (hc j hj)⟩

theorem Row.alloc {w : World} {A : Option Addr} {xs : List Value} (h : Row w A xs) (o : Obj) : Row (w.alloc o) A xs := h.below ((Below.refl _ _).alloc (Nat.le_refl _) o)
theorem Row.drew {w : World} {A : Option Addr} {xs : List Value} (h : Row w A xs) : Row w.drew A xs := h

theorem Row.of_own {w : World} {base : Nat} {e : TypeId} {size n : Nat} {v : Value} {xs : List Value} (h : w.ownsRow base e size v n xs) :
    ∃ A c, v = .slice A n c ∧ n ≤ c ∧ Row w A xs := by
  have hl := h.1
  rcases h.2 with ⟨rfl, rfl⟩ | ⟨g, cap, cur, rfl, hb, hg, hn, hm, hs, ht⟩
  · obtain rfl : xs = [] := List.eq_nil_of_length_eq_zero (by simpa using hl)
    exact ⟨none, 0, rfl, Nat.le_refl _, Row.nil _ _⟩
  · refine ⟨some ⟨g, 0, none⟩, cap, rfl, hn, fun _ => ⟨g, 0, rfl, ?_, fun j hj => ?_⟩⟩
    · exact (h.lt g rfl).2
    · have := h.cells (g := g) rfl j xs[j] (List.getElem?_eq_getElem hj)
      have e : (⟨g, 0, none⟩ : Addr).add j = ⟨g, 0 + j, none⟩ := by
        unfold Addr.add
        split
        · subst_vars; rfl
        · rfl
      rwa [e] at this

/-! ### pairs of numbers: a struct of two whole numbers, or an array of two -/

def c2 (k1 k2 : IntKind) (p : Int × Int) : List Value := [.int k1 p.1, .int k2 p.2]
def flat2 (k1 k2 : IntKind) (l : List (Int × Int)) : List Value := l.flatMap (c2 k1 k2)

theorem flat2_nil (k1 k2 : IntKind) : flat2 k1 k2 [] = [] := rfl
theorem flat2_cons (k1 k2 : IntKind) (p : Int × Int) (l : List (Int × Int)) : flat2 k1 k2 (p :: l) = .int k1 p.1 :: .int k2 p.2 :: flat2 k1 k2 l := rfl
theorem flat2_append (k1 k2 : IntKind) (a b : List (Int × Int)) : flat2 k1 k2 (a ++ b) = flat2 k1 k2 a ++ flat2 k1 k2 b := by simp [flat2]
theorem flat2_one (k1 k2 : IntKind) (p : Int × Int) : flat2 k1 k2 [p] = [.int k1 p.1, .int k2 p.2] := rfl
theorem length_flat2 (k1 k2 : IntKind) (l : List (Int × Int)) : (flat2 k1 k2 l).length = l.length * 2 := by
  induction l with
  | nil => rfl
  | cons p l ih => rw [flat2_cons]; simp only [List.length_cons, ih]; omega
theorem flat2_get (k1 k2 : IntKind) (l : List (Int × Int)) (i : Nat) (h : i < l.length) :
    (flat2 k1 k2 l)[i * 2]? = some (.int k1 l[i].1) ∧ (flat2 k1 k2 l)[i * 2 + 1]? = some (.int k2 l[i].2) := by
  induction l generalizing i with
  | nil => cases h
  | cons p l ih =>
    cases i with
    | zero => exact ⟨rfl, rfl⟩
    | succ i =>
      have := ih i (by simpa using h)
      rw [flat2_cons]
      rw [show (i + 1) * 2 = i * 2 + 1 + 1 by omega]
      simpa using this
theorem flat2_set (k1 k2 : IntKind) (l : List (Int × Int)) (i : Nat) (p : Int × Int) :
    ((flat2 k1 k2 l).set (i * 2) (.int k1 p.1)).set (i * 2 + 1) (.int k2 p.2) = flat2 k1 k2 (l.set i p) := by
  induction l generalizing i with
  | nil => rfl
  | cons q l ih =>
    cases i with
    | zero => rfl
    | succ i =>
      have := ih i
      rw [flat2_cons, show (i + 1) * 2 = i * 2 + 1 + 1 by omega]
      simp only [List.set_cons_succ, flat2_cons, this]
theorem flat2_set1 (k1 k2 : IntKind) (l : List (Int × Int)) (i : Nat) (h : i < l.length) (x : Int) :
    (flat2 k1 k2 l).set (i * 2) (.int k1 x) = flat2 k1 k2 (l.set i (x, l[i].2)) := by
  have := flat2_set k1 k2 l i (x, l[i].2)
  rw [← this]
  refine (List.ext_getElem? fun j => ?_)
  by_cases hj : i * 2 + 1 = j
  · subst hj
    rw [List.getElem?_set_ne (by omega), (flat2_get k1 k2 l i h).2, List.getElem?_set_self (by simp [length_flat2]; omega)]
  · rw [List.getElem?_set_ne hj]
theorem flat2_set2 (k1 k2 : IntKind) (l : List (Int × Int)) (i : Nat) (h : i < l.length) (y : Int) :
    (flat2 k1 k2 l).set (i * 2 + 1) (.int k2 y) = flat2 k1 k2 (l.set i (l[i].1, y)) := by
  have := flat2_set k1 k2 l i (l[i].1, y)
  rw [← this]
  refine (List.ext_getElem? fun j => ?_)
  by_cases hj : i * 2 + 1 = j
  · subst hj
    rw [List.getElem?_set_self (by simp [length_flat2]; omega), List.getElem?_set_self (by simp [length_flat2]; omega)]
  · rw [List.getElem?_set_ne hj, List.getElem?_set_ne hj]
    by_cases hj2 : i * 2 = j
    · subst hj2
      rw [(flat2_get k1 k2 l i h).1, List.getElem?_set_self (by simp [length_flat2]; omega)]
    · rw [List.getElem?_set_ne hj2]
theorem flat2_oneCell (k1 k2 : IntKind) (l : List (Int × Int)) : ∀ u ∈ flat2 k1 k2 l, u.oneCell' = true := by
  intro u hu
  obtain ⟨p, _, hp⟩ := List.mem_flatMap.1 hu
  simp only [c2, List.mem_cons, List.not_mem_nil, or_false] at hp
  rcases hp with rfl | rfl <;> rfl
theorem flat2_ne {k1 k2 : IntKind} {l : List (Int × Int)} (h : 0 < l.length) : flat2 k1 k2 l ≠ [] := fun e => by
  have := length_flat2 k1 k2 l
  rw [e] at this
  simp at this
  omega
theorem flat2_replicate (k1 k2 : IntKind) (n : Nat) (p : Int × Int) : flat2 k1 k2 (List.replicate n p) = (List.replicate n (c2 k1 k2 p)).flatten := by
  simp [flat2, List.flatMap, List.map_replicate]

/-- A slice value at A reads the pairs l. -/
def At2 (k1 k2 : IntKind) (w : World) (A : Option Addr) (l : List (Int × Int)) : Prop := Row w A (flat2 k1 k2 l)

theorem At2.get {k1 k2 : IntKind} {w : World} {A : Option Addr} {l : List (Int × Int)} (h : At2 k1 k2 w A l) (hp : 0 < l.length) :
    ∃ b off, A = some ⟨b, off, none⟩ ∧ b < w.heap.size ∧ ∀ i (hi : i < l.length),
      w.cell? ⟨b, off + i * 2, none⟩ = some (.int k1 l[i].1) ∧ w.cell? ⟨b, off + i * 2 + 1, none⟩ = some (.int k2 l[i].2) := by
  obtain ⟨b, off, e, hlt, hc⟩ := h (flat2_ne hp)
  refine ⟨b, off, e, hlt, fun i hi => ?_⟩
  have h1 := flat2_get k1 k2 l i hi
  have hl := length_flat2 k1 k2 l
  refine ⟨(hc (i * 2) (by omega)).trans ?_, (hc (i * 2 + 1) (by omega)).trans ?_⟩
  · rw [← h1.1]; exact (List.getElem?_eq_getElem _).symm
  · rw [← h1.2]; exact (List.getElem?_eq_getElem _).symm
theorem At2.below {k1 k2 : IntKind} {w w' : World} {A : Option Addr} {l : List (Int × Int)} (h : At2 k1 k2 w A l) (hb : Below w.heap.size w w') : At2 k1 k2 w' A l := Row.below h hb
theorem At2.alloc {k1 k2 : IntKind} {w : World} {A : Option Addr} {l : List (Int × Int)} (h : At2 k1 k2 w A l) (o : Obj) : At2 k1 k2 (w.alloc o) A l := Row.alloc h o
theorem At2.drew {k1 k2 : IntKind} {w : World} {A : Option Addr} {l : List (Int × Int)} (h : At2 k1 k2 w A l) : At2 k1 k2 w.drew A l := h
theorem At2.nil (k1 k2 : IntKind) (w : World) (A : Option Addr) : At2 k1 k2 w A [] := Row.nil _ _

/-- A slice value that the call has made, from block base on: it owns the pairs l. -/
def Own2 (k1 k2 : IntKind) (E : TypeId) (w : World) (base : Nat) (v : Value) (l : List (Int × Int)) : Prop := w.ownsRow base E 2 v l.length (flat2 k1 k2 l)

theorem Own2.reads {k1 k2 : IntKind} {E : TypeId} {w : World} {base : Nat} {v : Value} {l : List (Int × Int)} (h : Own2 k1 k2 E w base v l) :
    ∃ A c, v = .slice A l.length c ∧ l.length ≤ c ∧ At2 k1 k2 w A l := Row.of_own h
theorem Own2.below {k1 k2 : IntKind} {E : TypeId} {w w' : World} {base : Nat} {v : Value} {l : List (Int × Int)} (h : Own2 k1 k2 E w base v l) (hb : Below w.heap.size w w') : Own2 k1 k2 E w' base v l :=
  World.ownsRow.kept h (row := none) ⟨hb.os, hb.tape, hb.output, hb.size, fun k hk _ => hb.block k hk⟩ (by cases hv : v.ownBlock <;> simp)
theorem Own2.base_le {k1 k2 : IntKind} {E : TypeId} {w : World} {base base' : Nat} {v : Value} {l : List (Int × Int)} (h : Own2 k1 k2 E w base v l) (hb : base' ≤ base) : Own2 k1 k2 E w base' v l := by
  refine ⟨h.1, ?_⟩
  rcases h.2 with h2 | ⟨g, cap, cur, e, hg, r⟩
  · exact .inl h2
  · exact .inr ⟨g, cap, cur, e, by omega, r⟩

/-! ### rows of one cell an element -/
theorem Row.get {w : World} {A : Option Addr} {xs : List Value} (h : Row w A xs) (hp : 0 < xs.length) :
    ∃ b off, A = some ⟨b, off, none⟩ ∧ b < w.heap.size ∧ ∀ i (hi : i < xs.length), w.cell? ⟨b, off + i, none⟩ = some xs[i] :=
  h (fun e => by rw [e] at hp; simp at hp)
theorem Row.lit {w : World} (cs : Array Value) (t : TypeId) : Row (w.alloc (.cells cs t)) (some ⟨w.heap.size, 0, none⟩) cs.toList := fun _ => by
  refine ⟨w.heap.size, 0, rfl, by simp, fun j hj => ?_⟩
  rw [cell_of_row _ w.heap.size (0 + j) cs t (0, 0) (heap_alloc_new w _)]
  simp at hj ⊢
def At1 (k : IntKind) (w : World) (A : Option Addr) (xs : List Int) : Prop := Row w A (xs.map (Value.int k))
theorem At1.get {k : IntKind} {w : World} {A : Option Addr} {xs : List Int} (h : At1 k w A xs) (hp : 0 < xs.length) :
    ∃ b off, A = some ⟨b, off, none⟩ ∧ b < w.heap.size ∧ ∀ i (hi : i < xs.length), w.cell? ⟨b, off + i, none⟩ = some (.int k xs[i]) := by
  obtain ⟨b, off, e, hb, hc⟩ := Row.get h (by simpa using hp)
  exact ⟨b, off, e, hb, fun i hi => (hc i (by simpa using hi)).trans (by rw [List.getElem_map])⟩
theorem At1.below {k : IntKind} {w w' : World} {A : Option Addr} {xs : List Int} (h : At1 k w A xs) (hb : Below w.heap.size w w') : At1 k w' A xs := Row.below h hb

/-! ### make -/
theorem run_make_rowN {P : Program} (t e : TypeId) (i : TypeInfo) (z : Value) (ht : P.underlying t = some (.slice e)) (hi : P.info? e = some i) (hz : i.zero = some z)
    (kl kc : IntKind) (n c : Nat) (hnc : n ≤ c) (hbytes : i.bytes * c ≤ 281474976710656) (h63 : c ≤ 9223372036854775807) (w : World) :
    (Instr.makeSlice t (.int kl (n : Int)) (.int kc (c : Int))).run P w = .ok (.slice (some ⟨w.heap.size, 0, none⟩) n c) (w.alloc (.cells (madeCells z.cells (c * i.size)) e)) := by
  have hb : (i.bytes : Int) * (c : Int) ≤ 281474976710656 := by
    have h : ((i.bytes * c : Nat) : Int) ≤ 281474976710656 := by omega
    rwa [Int.natCast_mul] at h
  have hr := run_make (P := P) w t e i z ht hi hz kl kc n c (by omega) (by omega) hb (by omega)
  simp only [Int.toNat_natCast] at hr
  exact hr
theorem run_make2 {P : Program} (t e : TypeId) (k1 k2 : IntKind) (b : Nat) (ht : P.underlying t = some (.slice e)) (hi : (P.info? e).map (fun i => (i.zero, i.size, i.bytes)) = some (some (.agg #[.int k1 0, .int k2 0]), 2, b))
    (n : Nat) (hb : b ≤ 16) (hn : n ≤ 1073741824) (w : World) :
    (Instr.makeSlice t (.int .i64 (n : Int)) (.int .i64 (n : Int))).run P w = .ok (.slice (some ⟨w.heap.size, 0, none⟩) n n) (w.alloc (.cells (madeCells #[.int k1 0, .int k2 0] (n * 2)) e)) := by
  obtain ⟨i, h1, h2, h3, h4⟩ := info_parts hi
  have hx : i.bytes * n ≤ 16 * 1073741824 := Nat.mul_le_mul (by omega) hn
  have := run_make_rowN (P := P) t e i _ ht h1 h2 .i64 .i64 n n (Nat.le_refl _) (by omega) (by omega) w
  rw [h3] at this
  exact this
theorem madeCells2 (k1 k2 : IntKind) (n : Nat) : (madeCells #[.int k1 0, .int k2 0] (n * 2)).toList = flat2 k1 k2 (List.replicate n (0, 0)) := by
  refine List.ext_getElem? fun j => ?_
  by_cases hj : j < n * 2
  · have h1 : (madeCells #[.int k1 0, .int k2 0] (n * 2))[j]? = some ((#[.int k1 0, .int k2 0] : Array Value)[j % 2]!) := by
      simp only [madeCells, Array.getElem?_map, Array.getElem?_range]
      simp [hj]
    rw [Array.getElem?_toList, h1]
    have hl : j / 2 < (List.replicate n ((0 : Int), (0 : Int))).length := by simp; omega
    have h2 := flat2_get k1 k2 (List.replicate n (0, 0)) (j / 2) hl
    rcases (by omega : j % 2 = 0 ∨ j % 2 = 1) with h | h
    · rw [h, show j = j / 2 * 2 by omega, h2.1]; simp
    · rw [h, show j = j / 2 * 2 + 1 by omega, h2.2]; simp
  · rw [List.getElem?_eq_none (by simp [madeCells]; omega), List.getElem?_eq_none (by rw [length_flat2]; simp; omega)]
theorem Own2.made {k1 k2 : IntKind} {E : TypeId} {w : World} {base : Nat} (hb : base ≤ w.heap.size) {n : Nat} (hn : n ≤ 1073741824) :
    Own2 k1 k2 E (w.alloc (.cells (madeCells #[.int k1 0, .int k2 0] (n * 2)) E)) base (.slice (some ⟨w.heap.size, 0, none⟩) n n) (List.replicate n (0, 0)) := by
  have := World.ownsRow_lit (base := base) (e := E) (size := 2) w (madeCells #[.int k1 0, .int k2 0] (n * 2)) n hb (by unfold maxLen; omega) (by simp [madeCells])
  rw [madeCells2] at this
  unfold Own2
  rw [List.length_replicate]
  exact this
/-- One element of a slice of the call's own is stored. -/
theorem Own2.store {k1 k2 : IntKind} {E : TypeId} {w : World} {base g n c : Nat} {l : List (Int × Int)} (h : Own2 k1 k2 E w base (.slice (some ⟨g, 0, none⟩) n c) l) (hl : l.length = n) (k : Nat) (p : Int × Int) :
    Own2 k1 k2 E ((w.setCell ⟨g, k * 2, none⟩ (.int k1 p.1)).setCell ⟨g, k * 2 + 1, none⟩ (.int k2 p.2)) base (.slice (some ⟨g, 0, none⟩) n c) (l.set k p) := by
  subst hl
  have h1 := (World.ownsRow.stored h (k * 2) (.int k1 p.1)).1
  have h2 := (World.ownsRow.stored h1 (k * 2 + 1) (.int k2 p.2)).1
  rw [flat2_set] at h2
  unfold Own2
  rw [List.length_set]
  exact h2
theorem Own2.cells {k1 k2 : IntKind} {E : TypeId} {w : World} {base g n c : Nat} {l : List (Int × Int)} (h : Own2 k1 k2 E w base (.slice (some ⟨g, 0, none⟩) n c) l) (k : Nat) (hk : k < l.length) :
    w.cell? ⟨g, k * 2, none⟩ = some (.int k1 l[k].1) ∧ w.cell? ⟨g, k * 2 + 1, none⟩ = some (.int k2 l[k].2) ∧ w.frozen? ⟨g, k * 2, none⟩ = false ∧ w.frozen? ⟨g, k * 2 + 1, none⟩ = false := by
  have hn : n = l.length := by
    rcases h.2 with ⟨h', _⟩ | ⟨g', cap', cur, h', _⟩
    · simp at h'
    · simp only [Value.slice.injEq] at h'; exact h'.2.1
  subst hn
  have h0 := flat2_get k1 k2 l k hk
  exact ⟨(World.ownsRow.cellAt h (k * 2) (by omega)).trans h0.1, (World.ownsRow.cellAt h (k * 2 + 1) (by omega)).trans h0.2, World.ownsRow.frozenAt h _, World.ownsRow.frozenAt h _⟩
theorem Own2.form {k1 k2 : IntKind} {E : TypeId} {w : World} {base n c : Nat} {A : Option Addr} {l : List (Int × Int)} (h : Own2 k1 k2 E w base (.slice A n c) l) (hn : 0 < n) : ∃ g, A = some ⟨g, 0, none⟩ := by
  rcases h.2 with ⟨h', _⟩ | ⟨g', cap', cur, h', _⟩
  · simp at h'; omega
  · simp only [Value.slice.injEq] at h'; exact ⟨g', h'.1⟩
theorem Own2.block {k1 k2 : IntKind} {E : TypeId} {w : World} {base g n c : Nat} {l : List (Int × Int)} (h : Own2 k1 k2 E w base (.slice (some ⟨g, 0, none⟩) n c) l) : base ≤ g ∧ g < w.heap.size := World.ownsRow.lt h g rfl

/-! ### worlds -/
theorem balloc {W w : World} (h : Below W.heap.size W w) (o : Obj) : Below W.heap.size W (w.alloc o) := h.alloc h.size o
theorem bdrew {W w : World} (h : Below W.heap.size W w) : Below W.heap.size W w.drew := h.drew
theorem bdrewN {W w : World} (h : Below W.heap.size W w) (n : Nat) : Below W.heap.size W (w.drewN n) := ⟨h.os, h.tape, h.output, h.size, h.block⟩
theorem bset {W w : World} (h : Below W.heap.size W w) {p : Addr} (hp : W.heap.size ≤ p.block) (u : Value) : Below W.heap.size W (w.setCell p u) := h.setCell hp u
theorem bgrown {W w w' : World} {row : Option Nat} (h : Below W.heap.size W w) (hg : w.grownBy w' row) (hr : ∀ k, row = some k → W.heap.size ≤ k) : Below W.heap.size W w' := h.grown hg h.size hr

theorem gset {a w : World} {g : Nat} (h : a.grownBy w (some g)) {p : Addr} (hp : p.block = g ∨ a.heap.size ≤ p.block) (u : Value) : a.grownBy (w.setCell p u) (some g) :=
  ⟨h.os, h.tape, h.output, by simpa [World.setCell] using h.size, fun i hi hne => (Below.heap_setCell w p u i (by
    rintro rfl
    rcases hp with hp | hp
    · exact hne (by rw [hp])
    · omega)).trans (h.block i hi hne)⟩
theorem gbelow {a w : World} (h : Below a.heap.size a w) (row : Option Nat) : a.grownBy w row := ⟨h.os, h.tape, h.output, h.size, fun i hi _ => h.block i hi⟩
/-- What the call owns stays owned while another of its rows is written. -/
theorem Own2.apart {k1 k2 : IntKind} {E : TypeId} {w w' : World} {base : Nat} {v : Value} {l : List (Int × Int)} {row : Option Nat} (h : Own2 k1 k2 E w base v l) (hg : w.grownBy w' row) (hne : ∀ k, v.ownBlock = some k → row ≠ some k) : Own2 k1 k2 E w' base v l :=
  World.ownsRow.kept h hg (by
    cases hv : v.ownBlock with
    | none => exact .inl rfl
    | some k => exact .inr (fun e => hne k hv e.symm))

theorem Own2.at_ {k1 k2 : IntKind} {E : TypeId} {w : World} {base n c : Nat} {A : Option Addr} {l : List (Int × Int)} (h : Own2 k1 k2 E w base (.slice A n c) l) : At2 k1 k2 w A l := by
  obtain ⟨A', c', e, _, r⟩ := h.reads
  simp only [Value.slice.injEq] at e
  rw [e.1]; exact r
theorem Own2.low {k1 k2 : IntKind} {E : TypeId} {w : World} {base : Nat} {v : Value} {l : List (Int × Int)} (h : Own2 k1 k2 E w base v l) {k : Nat} (hk : v.ownBlock = some k) : base ≤ k := (World.ownsRow.lt h k hk).1
theorem Own2.high {k1 k2 : IntKind} {E : TypeId} {w : World} {base : Nat} {v : Value} {l : List (Int × Int)} (h : Own2 k1 k2 E w base v l) {k : Nat} (hk : v.ownBlock = some k) : k < w.heap.size := (World.ownsRow.lt h k hk).2
/-- Two slices that the call has made, one behind the other, share no row. -/
theorem ne_of_high {v u : Value} {N : Nat} (hv : ∀ k, v.ownBlock = some k → k < N) (hu : ∀ k, u.ownBlock = some k → N ≤ k) : ∀ k, v.ownBlock = some k → u.ownBlock ≠ some k := fun k hk e => by
  have := hv k hk; have := hu k e; omega
theorem ne_of_low {v u : Value} {N : Nat} (hv : ∀ k, v.ownBlock = some k → N ≤ k) (hu : ∀ k, u.ownBlock = some k → k < N) : ∀ k, v.ownBlock = some k → u.ownBlock ≠ some k := fun k hk e => by
  have := hv k hk; have := hu k e; omega

/-! ### variables that the call has boxed -/
theorem cell_new (w : World) (cs : Array Value) (t : TypeId) {i : Nat} {v : Value} (h : cs[i]? = some v) : (w.alloc (.cells cs t)).cell? ⟨w.heap.size, i, none⟩ = some v := by
  rw [cell_of_row _ w.heap.size i cs t (0, 0) (heap_alloc_new w _)]; exact h
theorem box1 {w : World} {cs : Array Value} {t : TypeId} (x : After (w.alloc (.cells cs t))) {i : Nat} {v : Value} (h : cs[i]? = some v) :
    x.w.cell? ⟨w.heap.size, i, none⟩ = some v := (x.cell (by simp)).trans (cell_new w cs t h)
theorem box2a {w : World} {cs ds : Array Value} {t u : TypeId} (x : After ((w.alloc (.cells cs t)).alloc (.cells ds u))) {i : Nat} {v : Value} (h : cs[i]? = some v) :
    x.w.cell? ⟨w.heap.size, i, none⟩ = some v :=
  (x.cell (by simp; omega)).trans ((World.cell?_alloc_lt _ _ ⟨w.heap.size, i, none⟩ (by simp)).trans (cell_new w cs t h))
theorem box2b {w : World} {cs ds : Array Value} {t u : TypeId} (x : After ((w.alloc (.cells cs t)).alloc (.cells ds u))) {i : Nat} {v : Value} (h : ds[i]? = some v) :
    x.w.cell? ⟨w.heap.size + 1, i, none⟩ = some v := by
  have := box1 (w := w.alloc (.cells cs t)) x h
  simpa using this

theorem After.old {w : World} {o : Obj} (x : After (w.alloc o)) {b i : Nat} (h : b < w.heap.size) : x.w.cell? ⟨b, i, none⟩ = w.cell? ⟨b, i, none⟩ :=
  (x.cell (by simp; omega)).trans (World.cell?_alloc_lt w o ⟨b, i, none⟩ h)

/-! ### endings -/
theorem ret_int {k : IntKind} {a b : Int} (h : a = b) : Ending.returned (.int k a) = .returned (.int k b) := by rw [h]
theorem ret_bool {a b : Bool} (h : a = b) : Ending.returned (.bool a) = .returned (.bool b) := by rw [h]

/-! ### append -/
theorem Own2.lit0 {k1 k2 : IntKind} {E : TypeId} {w : World} {base : Nat} (hb : base ≤ w.heap.size) :
    Own2 k1 k2 E (w.alloc (.cells #[] E)) base (.slice (some ⟨w.heap.size, 0, none⟩) 0 0) [] := by
  have := World.ownsRow_lit (base := base) (e := E) (size := 2) w #[] 0 hb (by unfold maxLen; omega) (by simp)
  exact this
theorem Own2.alloc {k1 k2 : IntKind} {E : TypeId} {w : World} {base : Nat} {v : Value} {l : List (Int × Int)} (h : Own2 k1 k2 E w base v l) (o : Obj) : Own2 k1 k2 E (w.alloc o) base v l :=
  h.below ((Below.refl _ _).alloc (Nat.le_refl _) o)
theorem append_pair {P : Program} {w : World} {ops : Array Oper} {rest : List Oper} {o : Oper} {a : Act} {Q : Exit → Act → World → Prop} (hgd : o.guard = none) (s x : Operand) (t : TypeId)
    (ho : o.op = .call { callee := .builtin .append, args := #[s, x], argTypes := #[t, t] }) (e : TypeId) (k1 k2 : IntKind) (b : Nat)
    (ht : P.underlying t = some (.slice e)) (hinfo : (P.info? e).map (fun i => (i.zero, i.size, i.bytes)) = some (some (.agg #[.int k1 0, .int k2 0]), 2, b)) (hb : b ≤ 16)
    (base : Nat) (v : Value) (l : List (Int × Int)) (hs : a.eval s = v) (hown : Own2 k1 k2 e w base v l) (g c : Nat) (p : Int × Int) (hx : a.eval x = .slice (some ⟨g, 0, none⟩) 1 c)
    (hc1 : w.cell? ⟨g, 0, none⟩ = some (.int k1 p.1)) (hc2 : w.cell? ⟨g, 1, none⟩ = some (.int k2 p.2)) (hlen : l.length ≤ 1073741824) (hbase : base ≤ w.heap.size)
    (h : ∀ A' c' w', Own2 k1 k2 e w' base (.slice A' (l ++ [p]).length c') (l ++ [p]) → w.grownBy w' v.ownBlock → wpList P ops Q rest (a.put o.dst (.slice A' (l ++ [p]).length c')) w') : wpList P ops Q (o :: rest) a w := by
  obtain ⟨i, hi, hz0, hz1, hz2⟩ := info_parts hinfo
  refine wpList_append_own w hgd s x t ho base e i _ 2 b ht hi hz0 hz1 hz2 rfl (by decide) v l.length (flat2 k1 k2 l) hs hown ⟨g, 0, none⟩ 1 c [.int k1 p.1, .int k2 p.2] hx rfl ?_ ?_ (by unfold maxLen; omega) ?_ hbase ?_
  · intro j u hu
    match j, hu with
    | 0, hu => simp at hu; subst hu; exact hc1
    | 1, hu => simp at hu; subst hu; exact hc2
    | j + 2, hu => simp at hu
  · intro u hu
    simp at hu
    rcases hu with rfl | rfl <;> rfl
  · have : (l.length + 1) * b ≤ (1073741824 + 1) * 16 := Nat.mul_le_mul (by omega) hb
    omega
  · intro v' w' ho' hg _
    have ho2 : Own2 k1 k2 e w' base v' (l ++ [p]) := by
      unfold Own2
      rw [flat2_append, flat2_one, List.length_append]
      exact ho'
    obtain ⟨A', c', rfl, _, _⟩ := ho2.reads
    exact h A' c' w' ho2 hg

end Go.Proofs.YtnakdlfjjeligaaGreat

/-
  How frames and drums lie in memory. No program in it.
-/
namespace Go.Proofs.YtnakdlfjjeligaaGreat
open Go.RowKit
set_option linter.unusedVariables false
set_option linter.unusedSimpArgs false

/-- The cells of a drum: an array of 32-bit numbers. -/
@[irreducible] def drumV (d : List Int) : Array Value := (d.map (Value.int .u32)).toArray
theorem drumV_size (d : List Int) : (drumV d).size = d.length := by unfold drumV; simp
theorem drumV_get {d : List Int} {k : Nat} (h : k < d.length) : (drumV d)[k]? = some (.int .u32 d[k]) := by unfold drumV; simp [h]
theorem drumV_set (d : List Int) (k : Nat) (x : Int) : (drumV d).setIfInBounds k (.int .u32 x) = drumV (d.set k x) := by
  unfold drumV; rw [List.map_set]; simp
theorem drumV_list (d : List Int) : (drumV d).toList = d.map (Value.int .u32) := by unfold drumV; rfl
theorem drumV_len (d : List Int) : (drumV d).toList.length = d.length := by unfold drumV; simp
theorem drumV_one (d : List Int) : (drumV d).all (·.oneCell') = true := by
  unfold drumV
  rw [Array.all_eq_true_iff_forall_mem]
  intro v hv
  simp at hv
  obtain ⟨x, _, rfl⟩ := hv
  rfl
theorem drumV_inj {d e : List Int} (h : drumV d = drumV e) : d = e := by
  have h2 : d.map (Value.int .u32) = e.map (Value.int .u32) := by rw [← drumV_list, ← drumV_list, h]
  exact List.map_inj_right (by intro a b hab; simpa using hab) |>.1 h2

/-- A variable of the call's own: block b is known whole. -/
def Var (w : World) (b : Nat) (cs : Array Value) (t : TypeId) : Prop := w.heap[b]? = some (.cells cs t (0, 0))
theorem Var.lt {w : World} {b : Nat} {cs : Array Value} {t : TypeId} (h : Var w b cs t) : b < w.heap.size := (Array.getElem?_eq_some_iff.1 h).1
theorem Var.cell {w : World} {b : Nat} {cs : Array Value} {t : TypeId} (h : Var w b cs t) {i : Nat} {v : Value} (hv : cs[i]? = some v) : w.cell? ⟨b, i, none⟩ = some v := by
  rw [cell_of_row w b i cs t (0, 0) h]; exact hv
theorem Var.frozen {w : World} {b : Nat} {cs : Array Value} {t : TypeId} (h : Var w b cs t) (i : Nat) : w.frozen? ⟨b, i, none⟩ = false := frozen_of_row w b i cs t h
theorem Var.below {w w' : World} {b : Nat} {cs : Array Value} {t : TypeId} (h : Var w b cs t) (hb : Below w.heap.size w w') : Var w' b cs t := (hb.block b h.lt).trans h
theorem Var.new (w : World) (cs : Array Value) (t : TypeId) : Var (w.alloc (.cells cs t)) w.heap.size cs t := heap_alloc_new w _
theorem Var.old {w : World} {b : Nat} {cs : Array Value} {t : TypeId} (h : Var w b cs t) (o : Obj) : Var (w.alloc o) b cs t := (heap_alloc_old w o h.lt).trans h
theorem Var.set {w : World} {b : Nat} {cs : Array Value} {t : TypeId} (h : Var w b cs t) (i : Nat) (v : Value) : Var (w.setCell ⟨b, i, none⟩ v) b (cs.setIfInBounds i v) t := heap_setCell_same w b i cs t v h
theorem Var.other {w : World} {b : Nat} {cs : Array Value} {t : TypeId} (h : Var w b cs t) {p : Addr} (hp : b ≠ p.block) (v : Value) : Var (w.setCell p v) b cs t := (heap_setCell_other w p b v hp).trans h
theorem Var.drew {w : World} {b : Nat} {cs : Array Value} {t : TypeId} (h : Var w b cs t) : Var w.drew b cs t := h

/-- A drum lies in block b. -/
def DrumAt (w : World) (b : Nat) (d : List Int) : Prop := b < w.heap.size ∧ d.length = 96 ∧ ∀ i (h : i < d.length), w.cell? ⟨b, i, none⟩ = some (.int .u32 d[i])
theorem DrumAt.below {w w' : World} {b : Nat} {d : List Int} (h : DrumAt w b d) (hb : Below w.heap.size w w') : DrumAt w' b d :=
  ⟨by have := hb.size; have := h.1; omega, h.2.1, fun i hi => (hb.cell (p := ⟨b, i, none⟩) h.1).trans (h.2.2 i hi)⟩
theorem DrumAt.box {w : World} {d : List Int} (t : TypeId) (h : d.length = 96) : DrumAt (w.alloc (.cells (drumV d) t)) w.heap.size d :=
  ⟨by simp, h, fun i hi => cell_new _ _ _ (drumV_get hi)⟩
theorem DrumAt.alloc {w : World} {b : Nat} {d : List Int} (h : DrumAt w b d) (o : Obj) : DrumAt (w.alloc o) b d := h.below ((Below.refl _ _).alloc (Nat.le_refl _) o)
theorem DrumAt.load {P : Program} {w : World} {b : Nat} {d : List Int} (h : DrumAt w b d) {ty e : TypeId} (hu : P.underlying ty = some (.array 96 e)) (hi : (P.info? ty).map (·.size) = some 96) :
    (Instr.loadAt ty (.pointer (some ⟨b, 0, none⟩))).run P w = .ok (.agg (drumV d)) w := by
  have := run_loadAt_mid (P := P) w b 0 ty (drumV d).toList (.array 96 e) (fun j v hj => by
    have hlt : j < d.length := by
      have := (List.getElem?_eq_some_iff.1 hj).1
      rwa [drumV_len] at this
    rw [Array.getElem?_toList, drumV_get hlt] at hj
    rw [Nat.zero_add, h.2.2 j hlt, hj]) hu rfl (by rw [drumV_len, h.2.1]; exact hi)
  simpa using this

/-- A frame lies in block b: its steps, and its hammers as a slice. -/
def FrameAt (w : World) (b : Nat) (s : Int) (A : Option Addr) (c : Nat) (hs : List (Int × Int)) : Prop :=
  b < w.heap.size ∧ w.cell? ⟨b, 0, none⟩ = some (.int .i16 s) ∧ w.cell? ⟨b, 1, none⟩ = some (.slice A hs.length c)
theorem FrameAt.below {w w' : World} {b : Nat} {s : Int} {A : Option Addr} {c : Nat} {hs : List (Int × Int)} (h : FrameAt w b s A c hs) (hb : Below w.heap.size w w') : FrameAt w' b s A c hs :=
  ⟨by have := hb.size; have := h.1; omega, (hb.cell (p := ⟨b, 0, none⟩) h.1).trans h.2.1, (hb.cell (p := ⟨b, 1, none⟩) h.1).trans h.2.2⟩
theorem FrameAt.alloc {w : World} {b : Nat} {s : Int} {A : Option Addr} {c : Nat} {hs : List (Int × Int)} (h : FrameAt w b s A c hs) (o : Obj) : FrameAt (w.alloc o) b s A c hs := h.below ((Below.refl _ _).alloc (Nat.le_refl _) o)
theorem FrameAt.box {w : World} {s : Int} {A : Option Addr} {c : Nat} {hs : List (Int × Int)} (t : TypeId) : FrameAt (w.alloc (.cells #[.int .i16 s, .slice A hs.length c] t)) w.heap.size s A c hs :=
  ⟨by simp, cell_new _ _ _ rfl, cell_new _ _ _ rfl⟩

theorem Own2.stay {k1 k2 : IntKind} {E : TypeId} {w : World} {base : Nat} {v : Value} {l : List (Int × Int)} (h : Own2 k1 k2 E w base v l) {p : Addr} (hp : p.block < base) (u : Value) : Own2 k1 k2 E (w.setCell p u) base v l :=
  h.apart (gset (g := p.block) (World.grownBy.refl w (some p.block)) (.inl rfl) u) (fun k hk e => by have := h.low hk; simp at e; omega)
theorem keepc {u v : World} {p : Addr} {x : Value} (h : u.cell? p = some x) (hb : Below u.heap.size u v) : v.cell? p = some x :=
  (hb.cell (World.block_lt_of_cell? u p h)).trans h
theorem keepr {u v : World} {b o : Nat} {cs : List Value} (h : u.rangeAt b o cs) (hb : Below u.heap.size u v) : v.rangeAt b o cs := fun j x hj => keepc (h j x hj) hb
theorem Var.drum {w : World} {b : Nat} {d : List Int} {t : TypeId} (h : Var w b (drumV d) t) (hd : d.length = 96) : DrumAt w b d := ⟨h.lt, hd, fun i hi => h.cell (drumV_get hi)⟩
theorem Var.frame {w : World} {b : Nat} {s : Int} {A : Option Addr} {c : Nat} {hs : List (Int × Int)} {t : TypeId} (h : Var w b #[.int .i16 s, .slice A hs.length c] t) : FrameAt w b s A c hs := ⟨h.lt, h.cell rfl, h.cell rfl⟩

end Go.Proofs.YtnakdlfjjeligaaGreat

/-
  The plain side of frames and drums: what the functions compute. No program and no memory in it.
-/
namespace Go.Proofs.YtnakdlfjjeligaaGreat
set_option linter.unusedVariables false
set_option linter.unusedSimpArgs false

/-- The place of the first that f likes, -1 if there is none. -/
def idxF {α : Type} (f : α → Bool) (l : List α) : Int := match l.findIdx? f with
  | some i => i
  | none => -1
theorem idxF_some {α : Type} {f : α → Bool} {l : List α} {k : Nat} (hk : k < l.length) (h : f l[k] = true) (hb : ∀ i (hi : i < l.length), i < k → f l[i] = false) : idxF f l = k := by
  have e : l.findIdx? f = some k := by
    rw [List.findIdx?_eq_some_iff_getElem]
    exact ⟨hk, h, fun j hj => by simp [hb j (by omega) hj]⟩
  simp [idxF, e]
theorem idxF_none {α : Type} {f : α → Bool} {l : List α} (hb : ∀ i (hi : i < l.length), f l[i] = false) : idxF f l = -1 := by
  have e : l.findIdx? f = none := by
    rw [List.findIdx?_eq_none_iff]
    intro x hx
    obtain ⟨i, hi, rfl⟩ := List.getElem_of_mem hx
    exact hb i hi
  simp [idxF, e]
theorem idxF_any {α : Type} (f : α → Bool) (l : List α) : decide (0 ≤ idxF f l) = l.any f := by
  unfold idxF
  cases h : l.findIdx? f with
  | none =>
    rw [List.findIdx?_eq_none_iff] at h
    have : l.any f = false := by rw [List.any_eq_false]; intro x hx; simpa using h x hx
    rw [this]; rfl
  | some i =>
    rw [List.findIdx?_eq_some_iff_getElem] at h
    obtain ⟨hi, h1, _⟩ := h
    have : l.any f = true := List.any_eq_true.2 ⟨l[i], List.getElem_mem hi, h1⟩
    rw [this]; simp

/-- A pair that two int8 can hold. -/
def Wh (p : Int × Int) : Prop := -128 ≤ p.1 ∧ p.1 ≤ 127 ∧ -128 ≤ p.2 ∧ p.2 ≤ 127
def Whs (l : List (Int × Int)) : Prop := ∀ p ∈ l, Wh p
theorem Whs.get {l : List (Int × Int)} (h : Whs l) {i : Nat} (hi : i < l.length) : Wh l[i] := h _ (List.getElem_mem hi)
def W16 (s : Int) : Prop := -32768 ≤ s ∧ s ≤ 32767

/-- A hammer (pitch, width) that a frame of s steps may bear. -/
def okH (s : Int) (p : Int × Int) : Bool := inB p.1 0 47 && inB p.2 1 (min 20 s)
/-- A frame of s steps with hammers hs. -/
def okF (s : Int) (hs : List (Int × Int)) : Bool := inB s 2 96 && (inB hs.length 1 24 && hs.all (okH s))
theorem okF_iff {s : Int} {hs : List (Int × Int)} : okF s hs = true ↔ (2 ≤ s ∧ s ≤ 96) ∧ (1 ≤ hs.length ∧ hs.length ≤ 24) ∧ ∀ p ∈ hs, okH s p = true := by
  simp [okF, inB_iff]
  omega
theorem okH_iff {s : Int} {p : Int × Int} : okH s p = true ↔ (0 ≤ p.1 ∧ p.1 ≤ 47) ∧ 1 ≤ p.2 ∧ p.2 ≤ 20 ∧ p.2 ≤ s := by
  simp [okH, inB_iff]
  omega
theorem okF_get {s : Int} {hs : List (Int × Int)} (h : okF s hs = true) {i : Nat} (hi : i < hs.length) : (0 ≤ hs[i].1 ∧ hs[i].1 ≤ 47) ∧ 1 ≤ hs[i].2 ∧ hs[i].2 ≤ 20 ∧ hs[i].2 ≤ s :=
  okH_iff.1 ((okF_iff.1 h).2.2 _ (List.getElem_mem hi))
theorem all_bad {s : Int} {hs : List (Int × Int)} {k : Nat} (hk : k < hs.length) (h : okH s hs[k] = false) : hs.all (okH s) = false := by
  rw [List.all_eq_false]; exact ⟨hs[k], List.getElem_mem hk, by simp [h]⟩
theorem all_ok {s : Int} {hs : List (Int × Int)} (h : ∀ i (hi : i < hs.length), okH s hs[i] = true) : hs.all (okH s) = true := by
  rw [List.all_eq_true]; intro x hx; obtain ⟨i, hi, rfl⟩ := List.getElem_of_mem hx; exact h i hi
theorem any_not {s : Int} {hs : List (Int × Int)} : (hs.any fun p => !okH s p) = !hs.all (okH s) := by
  rw [Bool.eq_iff_iff]; simp

/-- The bells of a frame, as a number of 64 bits. -/
def bellsL (hs : List (Int × Int)) : Int := hs.foldl (fun acc p => bits .or .u64 acc (IntKind.u64.wrap (2 ^ p.1.toNat))) 0
theorem bellsL_snoc (l : List (Int × Int)) (k : Nat) (h : k < l.length) : bellsL (l.take (k + 1)) = bits .or .u64 (bellsL (l.take k)) (IntKind.u64.wrap (2 ^ l[k].1.toNat)) := by
  unfold bellsL; rw [List.take_succ_eq_append_getElem h, List.foldl_append]; rfl
def cF (s : Int) (hs : List (Int × Int)) : Int := if okF s hs then 0 else 1
def rBellsOf (s : Int) (hs : List (Int × Int)) : Int := if okF s hs then bellsL hs else 0

/-- How many hammers strike pitch p. -/
def numH (hs : List (Int × Int)) (p : Int) : Nat := hs.countP fun h => decide (h.1 = p)
theorem numH_snoc (l : List (Int × Int)) (p : Int) (k : Nat) (h : k < l.length) : numH (l.take (k + 1)) p = numH (l.take k) p + if decide (l[k].1 = p) then 1 else 0 := by
  unfold numH
  rw [List.take_succ_eq_append_getElem h, List.countP_append, List.countP_singleton]
theorem numH_le (l : List (Int × Int)) (p : Int) : numH l p ≤ l.length := List.countP_le_length
def cHammersFor (s : Int) (hs : List (Int × Int)) (p : Int) : Int := if okF s hs then (if inB p 0 47 then 0 else 2) else 1
def rHammersFor (s : Int) (hs : List (Int × Int)) (p : Int) : Int := if okF s hs then (if inB p 0 47 then (numH hs p : Int) else 0) else 0
/-- The least width of the hammers on pitch p, 1 if there is none. -/
def leastW (hs : List (Int × Int)) (p : Int) : Int := (hs.foldl (fun (a : Nat × Int) h => if h.1 = p then (a.1 + 1, if a.1 = 0 ∨ h.2 < a.2 then h.2 else a.2) else a) (0, 1)).2
theorem foldW (hs : List (Int × Int)) (p : Int) : ∀ a : Nat × Int, (hs.foldl (fun (a : Nat × Int) h => if h.1 = p then (a.1 + 1, if a.1 = 0 ∨ h.2 < a.2 then h.2 else a.2) else a) a).1 = a.1 + numH hs p := by
  induction hs with
  | nil => intro a; rfl
  | cons h t ih =>
    intro a
    rw [List.foldl_cons, ih]
    unfold numH
    rw [List.countP_cons]
    by_cases e : h.1 = p
    · simp [e]; omega
    · simp [e]
theorem leastW_no (l : List (Int × Int)) (p : Int) (k : Nat) (h : k < l.length) (e : ¬ l[k].1 = p) : leastW (l.take (k + 1)) p = leastW (l.take k) p := by
  unfold leastW; rw [List.take_succ_eq_append_getElem h, List.foldl_append, List.foldl_cons, List.foldl_nil, if_neg e]
theorem leastW_yes (l : List (Int × Int)) (p : Int) (k : Nat) (h : k < l.length) (e : l[k].1 = p) : leastW (l.take (k + 1)) p = if numH (l.take k) p = 0 ∨ l[k].2 < leastW (l.take k) p then l[k].2 else leastW (l.take k) p := by
  have := foldW (l.take k) p (0, 1)
  unfold leastW
  rw [List.take_succ_eq_append_getElem h, List.foldl_append, List.foldl_cons, List.foldl_nil, if_pos e]
  simp only [this, Nat.zero_add]

end Go.Proofs.YtnakdlfjjeligaaGreat

/-
  Laws on whole drums (96 cells): made, read, written, without opening them cell by cell. No program in it.
-/
namespace Go.Proofs.YtnakdlfjjeligaaGreat
open Go.RowKit
set_option linter.unusedVariables false
set_option linter.unusedSimpArgs false

/-- The drum without a pin. -/
@[irreducible] def zD : List Int := List.replicate 96 0
theorem zD_len : zD.length = 96 := by unfold zD; rfl
theorem zD_eq : zD = List.replicate 96 0 := by unfold zD; rfl
theorem zD_get? (i : Nat) (h : i < 96) : zD[i]? = some 0 := by rw [zD_eq, List.getElem?_replicate, if_pos h]
theorem zD_get (i : Nat) (h : i < zD.length) : zD[i] = 0 := Option.some.inj ((List.getElem?_eq_getElem h).symm.trans (zD_get? i (by rw [← zD_len]; exact h)))

theorem wpList_alloc_row {P : Program} {ops : Array Oper} {rest : List Oper} {o : Oper} {a : Act} {w : World} {Q : Exit → Act → World → Prop} (hgd : o.guard = none) (ty : TypeId) (ho : o.op = .alloc ty) (z : Value)
    (hz : (P.info? ty).map (·.zero) = some (some z))
    (h : wpList P ops Q rest (a.put o.dst (.pointer (some ⟨w.heap.size, 0, none⟩))) (w.alloc (.cells z.cells ty))) : wpList P ops Q (o :: rest) a w :=
  wpList_plain hgd fun _ hK => by
    cases hq : P.info? ty with
    | none => simp [hq] at hz
    | some i =>
      have hz2 : i.zero = some z := by simpa [hq] using hz
      unfold Oper.wp
      simp [execOp, ho, Instr.alloc, zeroValue, typeInfo, hq, hz2, newVar, newRow, go_sem]
      exact hK _ _ h

theorem Var.row {w : World} {b : Nat} {old : Array Value} {t : TypeId} (h : Var w b old t) (cs : Array Value) : Var (w.setRow b cs) b cs t := setRow_heap w b old cs t (0, 0) h
theorem Var.rowOther {w : World} {b g : Nat} {old : Array Value} {t : TypeId} (h : Var w b old t) (cs : Array Value) (hne : b ≠ g) : Var (w.setRow g cs) b old t := (setRow_other w g b cs hne).trans h
theorem brow {W w : World} (h : Below W.heap.size W w) {g : Nat} (hg : W.heap.size ≤ g) (cs : Array Value) : Below W.heap.size W (w.setRow g cs) :=
  ⟨h.os, h.tape, h.output, by simpa using h.size, fun k hk => (setRow_other w g k cs (by omega)).trans (h.block k hk)⟩
theorem Var.range {w : World} {b : Nat} {cs : Array Value} {t : TypeId} (h : Var w b cs t) : w.rangeAt b 0 cs.toList := fun j v hv => by
  rw [Nat.zero_add]; exact h.cell (by simpa using hv)

/-- A drum whose first k numbers are d's, the others e's. -/
def mixD (d e : List Int) (k : Nat) : List Int := d.take k ++ e.drop k
theorem mixD_len {d e : List Int} (hd : d.length = 96) (he : e.length = 96) (k : Nat) (hk : k ≤ 96) : (mixD d e k).length = 96 := by simp [mixD, hd, he]; omega
theorem mixD_zero (d e : List Int) : mixD d e 0 = e := by simp [mixD]
theorem mixD_end {d e : List Int} (hd : d.length = 96) (he : e.length = 96) : mixD d e 96 = d := by
  unfold mixD; rw [List.take_of_length_le (by omega), List.drop_of_length_le (by omega), List.append_nil]
theorem mixD_set {d e : List Int} {k : Nat} (h : k < d.length) (h2 : k < e.length) : (mixD d e k).set k d[k] = mixD d e (k + 1) := by
  refine List.ext_getElem? fun i => ?_
  unfold mixD
  by_cases hi : i = k
  · subst hi
    rw [List.getElem?_set_self (by simp; omega), List.getElem?_append_left (by simp; omega)]
    simp [h]
  · rw [List.getElem?_set_ne (fun e => hi e.symm)]
    by_cases hlt : i < k
    · rw [List.getElem?_append_left (by simp; omega), List.getElem?_append_left (by simp; omega)]
      simp [hlt, show i < k + 1 by omega]
    · rw [List.getElem?_append_right (by simp; omega), List.getElem?_append_right (by simp; omega)]
      simp only [List.length_take, List.getElem?_drop]
      congr 1
      omega

theorem wpList_loadD {P : Program} {ops : Array Oper} {rest : List Oper} {o : Oper} {a : Act} {w : World} {Q : Exit → Act → World → Prop} {ty e : TypeId} {x : Operand} {g : Nat} {t : TypeId} {d : List Int} (hw : Region.wanted o (yielded ops a.tmps) = true) (ho : o.op = .load ty x)
    (hg : Var w g (drumV d) t) (hx : a.eval x = .pointer (some ⟨g, 0, none⟩)) (hu : P.underlying ty = some (.array 96 e)) (hi : (P.info? ty).map (·.size) = some 96) (hd : d.length = 96)
    (h : wpList P ops Q rest (a.put o.dst (.agg (drumV d))) w) : wpList P ops Q (o :: rest) a w :=
  wpList_step fun K hK => by rw [if_pos hw]; exact wp_load_row ty x ho g hx t (drumV d) (0, 0) _ hg hu rfl (by rw [drumV_size, hd]; exact hi) (hK _ _ h)
theorem wpList_storeD {P : Program} {ops : Array Oper} {rest : List Oper} {o : Oper} {a : Act} {w : World} {Q : Exit → Act → World → Prop} {ty : TypeId} {x y : Operand} {g : Nat} {t : TypeId} {d old : List Int} (hgd : o.guard = none) (ho : o.op = .store ty x y)
    (hg : Var w g (drumV old) t) (hx : a.eval x = .pointer (some ⟨g, 0, none⟩)) (hy : a.eval y = .agg (drumV d)) (hi : (P.info? ty).map (·.size) = some 96) (hd : d.length = 96) (hold : old.length = 96)
    (h : wpList P ops Q rest (a.put o.dst undef) (w.setRow g (drumV d))) : wpList P ops Q (o :: rest) a w :=
  wpList_store_row hgd ty x y ho g (drumV d) hx hy t (drumV old) hg (by rw [drumV_size, hd]; exact hi) (by rw [drumV_size, drumV_size, hd, hold]) (drumV_one d) h
theorem results_cell_drum {P : Program} {fn : Func} {p : Tmp} {ty e : TypeId} (h : fn.results = #[.cell p ty]) (tmps : Array Value) (w : World) (g : Nat) (t : TypeId) (d : List Int)
    (hp : tmps.getD p undef = .pointer (some ⟨g, 0, none⟩)) (hg : Var w g (drumV d) t) (hu : P.underlying ty = some (.array 96 e)) (hi : (P.info? ty).map (·.size) = some 96) (hd : d.length = 96) :
    (results fn tmps).run P w = .ok (.agg (drumV d)) w :=
  results_cell_row h tmps w g t (drumV d) (0, 0) _ hp hg hu rfl (by rw [drumV_size, hd]; exact hi)

theorem run_index_drum {P : Program} {ty e : TypeId} {k : Nat} {d : List Int} (hu : P.underlying ty = some (.array 96 e)) (he : P.underlying e = some (.int .u32)) (hs : (P.info? e).map (·.size) = some 1) (hd : d.length = 96) (h : k < d.length) (W : World) :
    (Instr.index ty (.agg (drumV d)) (.int .i64 (k : Int))).run P W = .ok (.int .u32 d[k]) W := by
  cases hq : P.info? e with
  | none => simp [hq] at hs
  | some i =>
    have hs2 : i.size = 1 := by simpa [hq] using hs
    have hk : (0 : Int) ≤ (k : Int) ∧ (k : Int) < ((96 : Nat) : Int) := by omega
    have hag : (isAgg e).run P W = .ok false W := by
      unfold isAgg
      rw [Sem.run_bind, run_underlying he W]
      rfl
    simp [Instr.index, asIntOf, run_underlying hu, hk, sizeOf, typeInfo, hq, hs2, part, Sem.run_bind, hag, drumV_get h, go_sem]
    intro hge
    omega

/-! ### slices of drums, and drums without a pin -/
theorem foldSet (vs : List Value) : ∀ (k off : Nat) (cells : Array Value), off + k + vs.length ≤ cells.size →
    ((vs.zipIdx k).foldl (fun cs x => cs.setIfInBounds (off + x.2) x.1) cells).size = cells.size ∧
    ∀ i, ((vs.zipIdx k).foldl (fun cs x => cs.setIfInBounds (off + x.2) x.1) cells)[i]? = if off + k ≤ i ∧ i < off + k + vs.length then vs[i - (off + k)]? else cells[i]? := by
  induction vs with
  | nil => intro k off cells _; exact ⟨rfl, fun i => by simp; omega⟩
  | cons v vs ih =>
    intro k off cells hsz
    simp only [List.length_cons] at hsz
    have h := ih (k + 1) off (cells.setIfInBounds (off + k) v) (by simp; omega)
    rw [List.zipIdx_cons, List.foldl_cons]
    refine ⟨by rw [h.1]; simp, fun i => ?_⟩
    rw [h.2 i]
    by_cases h1 : i = off + k
    · subst h1
      rw [if_neg (by omega), if_pos (by simp), Nat.sub_self, Array.getElem?_setIfInBounds, if_pos rfl, if_pos (by omega)]
      rfl
    · by_cases h2 : off + (k + 1) ≤ i ∧ i < off + (k + 1) + vs.length
      · rw [if_pos h2, if_pos (by simp; omega), show i - (off + k) = i - (off + (k + 1)) + 1 by omega]
        simp
      · rw [if_neg h2, if_neg (by simp; omega), Array.getElem?_setIfInBounds_ne (by omega)]
theorem foldSetA (vs cells : Array Value) (off : Nat) (h : off + vs.size ≤ cells.size) :
    (vs.zipIdx.foldl (fun cs x => cs.setIfInBounds (off + x.2) x.1) cells).size = cells.size ∧
    ∀ i, (vs.zipIdx.foldl (fun cs x => cs.setIfInBounds (off + x.2) x.1) cells)[i]? = if off ≤ i ∧ i < off + vs.size then vs[i - off]? else cells[i]? := by
  have := foldSet vs.toList 0 off cells (by simpa using h)
  rw [← Array.toList_zipIdx, Array.foldl_toList] at this
  simpa using this

theorem info_split {P : Program} {e : TypeId} {z : Value} (hz : (P.info? e).map (·.zero) = some (some z)) (hs : (P.info? e).map (·.size) = some 96) : ∃ ie, P.info? e = some ie ∧ ie.zero = some z ∧ ie.size = 96 := by
  cases hq : P.info? e with
  | none => simp [hq] at hz
  | some i => exact ⟨i, rfl, by simpa [hq] using hz, by simpa [hq] using hs⟩

theorem run_build_drum1 {P : Program} {t e : TypeId} (hu : P.underlying t = some (.slice e)) (hz : (P.info? e).map (·.zero) = some (some (.agg (drumV zD)))) (hs : (P.info? e).map (·.size) = some 96) {d : List Int} (hd : d.length = 96) (W : World) :
    (Instr.buildSlice t 1 #[(0, .agg (drumV d))]).run P W = .ok (.slice (some ⟨W.heap.size, 0, none⟩) 1 1) (W.alloc (.cells (drumV d) e)) := by
  obtain ⟨ie, h1, h2, h3⟩ := info_split hz hs
  refine run_buildSlice W t e 1 _ (drumV d) ie _ hu h1 h2 (by rw [h3]; decide) (by rw [h3]; decide) ?_
  have hf := foldSetA (drumV d) ((Array.range (1 * ie.size)).map ((Value.agg (drumV zD)).cells[· % (Value.agg (drumV zD)).cells.size]!)) (0 * ie.size) (by rw [drumV_size, hd, h3]; simp)
  have hc : (Value.agg (drumV d)).cells = drumV d := rfl
  simp only [Instr.fill, hc]
  rw [if_neg (by rw [drumV_size, hd, h3]; simp)]
  congr 1
  refine Array.ext_getElem? fun i => ?_
  rw [hf.2 i]
  by_cases hi : i < 96
  · rw [if_pos (by rw [drumV_size, hd]; omega)]; simp
  · rw [if_neg (by rw [drumV_size, hd]; omega), Array.getElem?_eq_none (by simp [h3]; omega), Array.getElem?_eq_none (by rw [drumV_size, hd]; omega)]

theorem run_build_drum2 {P : Program} {t e : TypeId} (hu : P.underlying t = some (.slice e)) (hz : (P.info? e).map (·.zero) = some (some (.agg (drumV zD)))) (hs : (P.info? e).map (·.size) = some 96) {d f : List Int} (hd : d.length = 96) (hf : f.length = 96) (W : World) :
    (Instr.buildSlice t 2 #[(0, .agg (drumV d)), (1, .agg (drumV f))]).run P W = .ok (.slice (some ⟨W.heap.size, 0, none⟩) 2 2) (W.alloc (.cells (drumV (d ++ f)) e)) := by
  obtain ⟨ie, h1, h2, h3⟩ := info_split hz hs
  refine run_buildSlice W t e 2 _ (drumV (d ++ f)) ie _ hu h1 h2 (by rw [h3]; decide) (by rw [h3]; decide) ?_
  have g1 := foldSetA (drumV d) ((Array.range (2 * ie.size)).map ((Value.agg (drumV zD)).cells[· % (Value.agg (drumV zD)).cells.size]!)) (0 * ie.size) (by rw [drumV_size, hd, h3]; simp)
  have g2 := foldSetA (drumV f) ((drumV d).zipIdx.foldl (fun cs x => cs.setIfInBounds (0 * ie.size + x.2) x.1) ((Array.range (2 * ie.size)).map ((Value.agg (drumV zD)).cells[· % (Value.agg (drumV zD)).cells.size]!))) (1 * ie.size) (by rw [g1.1, drumV_size, hf, h3]; simp)
  have hc : (Value.agg (drumV d)).cells = drumV d := rfl
  have hc2 : (Value.agg (drumV f)).cells = drumV f := rfl
  simp only [Instr.fill, hc, hc2]
  rw [if_neg (by rw [drumV_size, hd, h3]; simp), if_neg (by rw [g1.1, drumV_size, hf, h3]; simp)]
  congr 1
  refine Array.ext_getElem? fun i => ?_
  rw [g2.2 i, g1.2 i]
  by_cases hi : i < 96
  · rw [if_neg (by rw [drumV_size, hf, h3]; omega), if_pos (by rw [drumV_size, hd]; omega), drumV_get (d := d ++ f) (by simp; omega)]
    rw [List.getElem_append_left (by omega), Nat.zero_mul, Nat.sub_zero, drumV_get (d := d) (by omega)]
  · by_cases hi2 : i < 192
    · rw [if_pos (by rw [drumV_size, hf, h3]; omega), drumV_get (d := d ++ f) (by simp; omega), List.getElem_append_right (by omega)]
      rw [drumV_get (d := f) (by rw [h3]; omega)]
      simp [h3, hd]
    · rw [if_neg (by rw [drumV_size, hf, h3]; omega), if_neg (by rw [drumV_size, hd]; omega), Array.getElem?_eq_none (by simp [h3]; omega), Array.getElem?_eq_none (by rw [drumV_size]; simp; omega)]

theorem run_build_zero {P : Program} {ty e : TypeId} {z : Value} (hu : P.underlying ty = some (.array 96 e)) (hz : (P.info? ty).map (·.zero) = some (some (.agg (drumV zD)))) (hs : (P.info? e).map (·.size) = some 1) (W : World) :
    (Instr.build ty #[]).run P W = .ok (.agg (drumV zD)) W := by
  cases hq : P.info? ty with
  | none => simp [hq] at hz
  | some i =>
    have h2 : i.zero = some (.agg (drumV zD)) := by simpa [hq] using hz
    cases hq2 : P.info? e with
    | none => simp [hq2] at hs
    | some j => simp [Instr.build, zeroValue, typeInfo, hq, h2, run_underlying hu, sizeOf, hq2, Instr.fill, Value.cells]
theorem run_alloc_drum {P : Program} {ty : TypeId} (hz : (P.info? ty).map (·.zero) = some (some (.agg (drumV zD)))) (W : World) :
    (Instr.alloc ty true (.tuple #[])).run P W = .ok (.pointer (some ⟨W.heap.size, 0, none⟩)) (W.alloc (.cells (drumV zD) ty)) := by
  cases hq : P.info? ty with
  | none => simp [hq] at hz
  | some i =>
    have h2 : i.zero = some (.agg (drumV zD)) := by simpa [hq] using hz
    simp [Instr.alloc, zeroValue, typeInfo, hq, h2, newVar, newRow, Value.cells, go_sem]

/-- The drums of a slice. -/
def DrumsAt (w : World) (b : Nat) (ds : List (List Int)) : Prop := b < w.heap.size ∧ ∀ i (h : i < ds.length), w.rangeAt b (i * 96) (drumV ds[i]).toList ∧ ds[i].length = 96
theorem DrumsAt.below {w w' : World} {b : Nat} {ds : List (List Int)} (h : DrumsAt w b ds) (hb : Below w.heap.size w w') : DrumsAt w' b ds :=
  ⟨by have := hb.size; have := h.1; omega, fun i hi => ⟨keepr (h.2 i hi).1 hb, (h.2 i hi).2⟩⟩
theorem DrumsAt.one {w : World} {b : Nat} {d : List Int} {t : TypeId} (h : Var w b (drumV d) t) (hd : d.length = 96) : DrumsAt w b [d] :=
  ⟨h.lt, fun i hi => by
    simp only [List.length_cons, List.length_nil] at hi
    obtain rfl : i = 0 := by omega
    exact ⟨by simpa using h.range, hd⟩⟩
theorem DrumsAt.two {w : World} {b : Nat} {d f : List Int} {t : TypeId} (h : Var w b (drumV (d ++ f)) t) (hd : d.length = 96) (hf : f.length = 96) : DrumsAt w b [d, f] :=
  ⟨h.lt, fun i hi => by
    simp only [List.length_cons, List.length_nil] at hi
    rcases (by omega : i = 0 ∨ i = 1) with rfl | rfl
    · refine ⟨fun j v hj => ?_, hd⟩
      have hlt : j < d.length := by have := (List.getElem?_eq_some_iff.1 hj).1; rwa [drumV_len] at this
      rw [Array.getElem?_toList] at hj
      simp only [List.getElem_cons_zero] at hj
      rw [drumV_get hlt] at hj
      rw [Nat.zero_mul, Nat.zero_add]
      refine h.cell ?_
      rw [drumV_get (by simp; omega), List.getElem_append_left hlt]
      exact hj
    · refine ⟨fun j v hj => ?_, hf⟩
      have hlt : j < f.length := by have := (List.getElem?_eq_some_iff.1 hj).1; rwa [drumV_len] at this
      rw [Array.getElem?_toList] at hj
      simp only [List.getElem_cons_succ, List.getElem_cons_zero] at hj
      rw [drumV_get hlt] at hj
      rw [Nat.one_mul]
      refine h.cell ?_
      rw [drumV_get (by simp; omega), List.getElem_append_right (by omega)]
      simp only [hd, Nat.add_sub_cancel_left]
      exact hj⟩
theorem DrumsAt.load {P : Program} {w : World} {b : Nat} {ds : List (List Int)} (h : DrumsAt w b ds) {ty e : TypeId} (hu : P.underlying ty = some (.array 96 e)) (hi : (P.info? ty).map (·.size) = some 96) {i : Nat} (hlt : i < ds.length) :
    (Instr.loadAt ty (.pointer (some ⟨b, i * 96, none⟩))).run P w = .ok (.agg (drumV ds[i])) w := by
  have := run_loadAt_mid (P := P) w b (i * 96) ty (drumV ds[i]).toList (.array 96 e) (h.2 i hlt).1 hu rfl (by rw [drumV_len, (h.2 i hlt).2]; exact hi)
  simpa using this

theorem wpList_loadDs {P : Program} {ops : Array Oper} {rest : List Oper} {o : Oper} {a : Act} {w : World} {Q : Exit → Act → World → Prop} {ty e : TypeId} {x : Operand} {g i : Nat} {ds : List (List Int)} (hw : Region.wanted o (yielded ops a.tmps) = true) (ho : o.op = .load ty x)
    (hg : DrumsAt w g ds) (hlt : i < ds.length) (hx : a.eval x = .pointer (some ⟨g, i * 96, none⟩)) (hu : P.underlying ty = some (.array 96 e)) (hi : (P.info? ty).map (·.size) = some 96)
    (h : wpList P ops Q rest (a.put o.dst (.agg (drumV ds[i]))) w) : wpList P ops Q (o :: rest) a w := by
  refine wpList_step fun K hK => ?_
  rw [if_pos hw]
  refine wp_load_mid ty x ho g (i * 96) hx (drumV ds[i]).toList _ (hg.2 i hlt).1 hu rfl (by rw [drumV_len, (hg.2 i hlt).2]; exact hi) (hK _ _ ?_)
  simpa using h

theorem wp_build_drum1 {P : Program} {o : Oper} {a : Act} {w : World} {K : Act → World → Prop} {Q : Exit → Act → World → Prop} {t e : TypeId} {parts : Array (Nat × Operand)} {d : List Int} (ho : o.op = .buildSlice t 1 parts)
    (hp : (parts.map fun (i, x) => (i, a.eval x)) = #[(0, .agg (drumV d))]) (hu : P.underlying t = some (.slice e)) (hz : (P.info? e).map (·.zero) = some (some (.agg (drumV zD)))) (hs : (P.info? e).map (·.size) = some 96) (hd : d.length = 96)
    (h : K (a.put o.dst (.slice (some ⟨w.heap.size, 0, none⟩) 1 1)) (w.alloc (.cells (drumV d) e))) : o.wp P a w K Q := by
  unfold Oper.wp execOp
  simp only [ho, Sem.run_bind, hp, run_build_drum1 hu hz hs hd w, Result.andThen_ok]
  exact h
theorem wp_build_drum2 {P : Program} {o : Oper} {a : Act} {w : World} {K : Act → World → Prop} {Q : Exit → Act → World → Prop} {t e : TypeId} {parts : Array (Nat × Operand)} {d f : List Int} (ho : o.op = .buildSlice t 2 parts)
    (hp : (parts.map fun (i, x) => (i, a.eval x)) = #[(0, .agg (drumV d)), (1, .agg (drumV f))]) (hu : P.underlying t = some (.slice e)) (hz : (P.info? e).map (·.zero) = some (some (.agg (drumV zD)))) (hs : (P.info? e).map (·.size) = some 96) (hd : d.length = 96) (hf : f.length = 96)
    (h : K (a.put o.dst (.slice (some ⟨w.heap.size, 0, none⟩) 2 2)) (w.alloc (.cells (drumV (d ++ f)) e))) : o.wp P a w K Q := by
  unfold Oper.wp execOp
  simp only [ho, Sem.run_bind, hp, run_build_drum2 hu hz hs hd hf w, Result.andThen_ok]
  exact h
theorem wp_alloc_drum {P : Program} {o : Oper} {a : Act} {w : World} {K : Act → World → Prop} {Q : Exit → Act → World → Prop} {ty : TypeId} (ho : o.op = .alloc ty) (hz : (P.info? ty).map (·.zero) = some (some (.agg (drumV zD))))
    (h : K (a.put o.dst (.pointer (some ⟨w.heap.size, 0, none⟩))) (w.alloc (.cells (drumV zD) ty))) : o.wp P a w K Q := by
  unfold Oper.wp execOp
  simp only [ho, Sem.run_bind, run_alloc_drum hz w, Result.andThen_ok]
  exact h
theorem wp_build_zero {P : Program} {o : Oper} {a : Act} {w : World} {K : Act → World → Prop} {Q : Exit → Act → World → Prop} {ty e : TypeId} (ho : o.op = .build ty #[]) (hu : P.underlying ty = some (.array 96 e)) (hz : (P.info? ty).map (·.zero) = some (some (.agg (drumV zD)))) (hs : (P.info? e).map (·.size) = some 1)
    (h : K (a.put o.dst (.agg (drumV zD))) w) : o.wp P a w K Q := by
  have := run_build_zero (z := .agg (drumV zD)) hu hz hs w
  unfold Oper.wp execOp
  simp only [ho, Sem.run_bind, List.map_toArray, List.map_nil, this, Result.andThen_ok]
  exact h

theorem wpList_bd1 {P : Program} {ops : Array Oper} {rest : List Oper} {o : Oper} {a : Act} {w : World} {Q : Exit → Act → World → Prop} {t e : TypeId} {parts : Array (Nat × Operand)} {d : List Int} (hw : Region.wanted o (yielded ops a.tmps) = true) (ho : o.op = .buildSlice t 1 parts)
    (hp : (parts.map fun (i, x) => (i, a.eval x)) = #[(0, .agg (drumV d))]) (hu : P.underlying t = some (.slice e)) (hz : (P.info? e).map (·.zero) = some (some (.agg (drumV zD)))) (hs : (P.info? e).map (·.size) = some 96) (hd : d.length = 96)
    (h : wpList P ops Q rest (a.put o.dst (.slice (some ⟨w.heap.size, 0, none⟩) 1 1)) (w.alloc (.cells (drumV d) e))) : wpList P ops Q (o :: rest) a w :=
  wpList_step fun K hK => by rw [if_pos hw]; exact wp_build_drum1 ho hp hu hz hs hd (hK _ _ h)
theorem wpList_bd2 {P : Program} {ops : Array Oper} {rest : List Oper} {o : Oper} {a : Act} {w : World} {Q : Exit → Act → World → Prop} {t e : TypeId} {parts : Array (Nat × Operand)} {d f : List Int} (hw : Region.wanted o (yielded ops a.tmps) = true) (ho : o.op = .buildSlice t 2 parts)
    (hp : (parts.map fun (i, x) => (i, a.eval x)) = #[(0, .agg (drumV d)), (1, .agg (drumV f))]) (hu : P.underlying t = some (.slice e)) (hz : (P.info? e).map (·.zero) = some (some (.agg (drumV zD)))) (hs : (P.info? e).map (·.size) = some 96) (hd : d.length = 96) (hf : f.length = 96)
    (h : wpList P ops Q rest (a.put o.dst (.slice (some ⟨w.heap.size, 0, none⟩) 2 2)) (w.alloc (.cells (drumV (d ++ f)) e))) : wpList P ops Q (o :: rest) a w :=
  wpList_step fun K hK => by rw [if_pos hw]; exact wp_build_drum2 ho hp hu hz hs hd hf (hK _ _ h)
theorem wpList_bz {P : Program} {ops : Array Oper} {rest : List Oper} {o : Oper} {a : Act} {w : World} {Q : Exit → Act → World → Prop} {ty e : TypeId} (hw : Region.wanted o (yielded ops a.tmps) = true) (ho : o.op = .build ty #[]) (hu : P.underlying ty = some (.array 96 e)) (hz : (P.info? ty).map (·.zero) = some (some (.agg (drumV zD)))) (hs : (P.info? e).map (·.size) = some 1)
    (h : wpList P ops Q rest (a.put o.dst (.agg (drumV zD))) w) : wpList P ops Q (o :: rest) a w :=
  wpList_step fun K hK => by rw [if_pos hw]; exact wp_build_zero ho hu hz hs (hK _ _ h)

end Go.Proofs.YtnakdlfjjeligaaGreat

/-
  Memory laws for regions that are walked by hand: a drum that is stored, what stays behind a store. No program in it.
-/
namespace Go.Proofs.YtnakdlfjjeligaaGreat
open Go.RowKit
set_option linter.unusedVariables false
set_option linter.unusedSimpArgs false

theorem wp_storeD {P : Program} {o : Oper} {a : Act} {w : World} {K : Act → World → Prop} {Q : Exit → Act → World → Prop} {ty : TypeId} {x y : Operand} {g : Nat} {t : TypeId} {d old : List Int} (ho : o.op = .store ty x y)
    (hg : Var w g (drumV old) t) (hx : a.eval x = .pointer (some ⟨g, 0, none⟩)) (hy : a.eval y = .agg (drumV d)) (hi : (P.info? ty).map (·.size) = some 96) (hd : d.length = 96) (hold : old.length = 96)
    (h : K (a.put o.dst undef) (w.setRow g (drumV d))) : o.wp P a w K Q :=
  wp_store_row ty x y ho g (drumV d) hx hy t (drumV old) hg (by rw [drumV_size, hd]; exact hi) (by rw [drumV_size, drumV_size, hd, hold]) (drumV_one d) h
theorem decide_self {α : Type} [DecidableEq α] (a : α) : decide (a = a) = true := by simp

theorem results_drum_int {P : Program} {fn : Func} {p q : Tmp} {ty e : TypeId} (h : fn.results = #[.cell p ty, .tmp q]) (tmps : Array Value) (w : World) (g : Nat) (t : TypeId) (d : List Int)
    (hp : tmps.getD p undef = .pointer (some ⟨g, 0, none⟩)) (hg : Var w g (drumV d) t) (hu : P.underlying ty = some (.array 96 e)) (hi : (P.info? ty).map (·.size) = some 96) (hd : d.length = 96) :
    (results fn tmps).run P w = .ok (.tuple #[.agg (drumV d), tmps.getD q undef]) w := by
  have hp' : tmps[p]?.getD undef = .pointer (some ⟨g, 0, none⟩) := by simpa using hp
  simp [results, h, hp', asAddr, run_loadVar_row w g t ty (drumV d) (0, 0) _ hg hu rfl (by rw [drumV_size, hd]; exact hi)]

section
variable {P : Program} {l : List Oper} {Q : Exit → Act → World → Prop} {md : Region.Mode} {S : World → Prop}
theorem getL {i : Nat} {o : Oper} {rest : List Oper} (hl : l.drop i = o :: rest) : l.toArray[i]? = some o := by
  have := congrArg (fun x : List Oper => x[0]?) hl
  simpa [List.getElem?_drop] using this
/-- The kit's AllReadyH.cons, the operation written out. -/
theorem readyL {fuel : Nat} {listed : Array Bool} {a : Act} {w : World} {i : Nat} {o : Oper} {rest : List Oper} {rs : List Nat} (hl : l.drop i = o :: rest)
    (h : ∀ K' : Act → World → Prop, Shut (∀ a w, S w → (S w → wpAnyH P md l.toArray Q S fuel (listed.setIfInBounds i true) a w) → K' a w) → if Region.wanted o (yielded l.toArray a.tmps) = true then Oper.wp P o a w K' Q else K' (a.put o.dst undef) w)
    (hs : AllReadyH P md l.toArray Q S fuel listed a w rs) : AllReadyH P md l.toArray Q S fuel listed a w (i :: rs) := AllReadyH.cons (getL hl) h hs
/-- The kit's wpAnyH_take, the operation written out. -/
theorem takeL {i : Nat} {oi : Oper} {rest : List Oper} {v : Value} {fuel : Nat} {listed : Array Bool} {a : Act} {w : World} (hl : l.drop i = oi :: rest)
    (hs : Region.noSelect l.toArray = true) (hf : Region.free md l.toArray listed i = true) (hr : (Region.ready md l.toArray listed).contains i = true)
    (hQ : ∀ c a w, Q (.panic c) (a.put oi.dst v) w → Q (.panic c) a w) (hy : YieldsIf P l.toArray S oi v a) (hw : S w)
    (h : wpAnyH P md l.toArray Q S fuel (listed.setIfInBounds i true) (a.put oi.dst v) w) : wpAnyH P md l.toArray Q S (fuel + 1) listed a w :=
  wpAnyH_take (getL hl) hs hf hr hQ hy hw h
end

end Go.Proofs.YtnakdlfjjeligaaGreat

/-
  Slices of one-cell elements that the call has made: made, appended to, read, written, beside others. No program in it.
-/
namespace Go.Proofs.YtnakdlfjjeligaaGreat
open Go.RowKit
set_option linter.unusedVariables false
set_option linter.unusedSimpArgs false

theorem own_ne_var {w : World} {base b size n : Nat} {e t : TypeId} {v : Value} {xs : List Value} {cs : Array Value} (h : w.ownsRow base e size v n xs) (hv : Var w b cs t) (ht : t ≠ e) : v.ownBlock ≠ some b := by
  rcases h.2 with ⟨rfl, _⟩ | ⟨g, cap, cur, rfl, _, hg, _⟩
  · intro e; cases e
  · intro e
    simp only [Value.ownBlock, Option.some.injEq] at e
    subst e
    unfold Var at hv
    rw [hv] at hg
    simp at hg
    exact ht hg.2
theorem own_ne_own {w : World} {b1 b2 s1 s2 n m : Nat} {e t : TypeId} {v u : Value} {xs ys : List Value} (h : w.ownsRow b1 e s1 v n xs) (k : w.ownsRow b2 t s2 u m ys) (ht : t ≠ e) : ∀ j, v.ownBlock = some j → u.ownBlock ≠ some j := fun j hj => by
  rcases h.2 with ⟨rfl, _⟩ | ⟨g, cap, cur, rfl, _, hg, _⟩
  · cases hj
  · rcases k.2 with ⟨rfl, _⟩ | ⟨g2, cap2, cur2, rfl, _, hg2, _⟩
    · intro e; cases e
    · intro e2
      simp only [Value.ownBlock, Option.some.injEq] at hj e2
      subst hj
      subst e2
      rw [hg2] at hg
      simp at hg
      exact ht hg.2
theorem Var.grownH {w w' : World} {b : Nat} {cs : Array Value} {t : TypeId} {row : Option Nat} (hv : Var w b cs t) (hg : w.grownBy w' row) (hne : row ≠ some b) : Var w' b cs t := (hg.block b hv.lt (fun e => hne e.symm)).trans hv

/-- A slice value that the call has made, from block base on: it owns the numbers l. -/
def Own1 (k : IntKind) (E : TypeId) (w : World) (base : Nat) (v : Value) (l : List Int) : Prop := w.ownsRow base E 1 v l.length (l.map (Value.int k))
theorem Own1.reads {k : IntKind} {E : TypeId} {w : World} {base : Nat} {v : Value} {l : List Int} (h : Own1 k E w base v l) : ∃ A c, v = .slice A l.length c ∧ l.length ≤ c ∧ At1 k w A l := Row.of_own h
theorem Own1.below {k : IntKind} {E : TypeId} {w w' : World} {base : Nat} {v : Value} {l : List Int} (h : Own1 k E w base v l) (hb : Below w.heap.size w w') : Own1 k E w' base v l :=
  World.ownsRow.kept h (row := none) ⟨hb.os, hb.tape, hb.output, hb.size, fun k hk _ => hb.block k hk⟩ (by cases hv : v.ownBlock <;> simp)
theorem Own1.alloc {k : IntKind} {E : TypeId} {w : World} {base : Nat} {v : Value} {l : List Int} (h : Own1 k E w base v l) (o : Obj) : Own1 k E (w.alloc o) base v l := h.below ((Below.refl _ _).alloc (Nat.le_refl _) o)
theorem Own1.apart {k : IntKind} {E : TypeId} {w w' : World} {base : Nat} {v : Value} {l : List Int} {row : Option Nat} (h : Own1 k E w base v l) (hg : w.grownBy w' row) (hne : ∀ k, v.ownBlock = some k → row ≠ some k) : Own1 k E w' base v l :=
  World.ownsRow.kept h hg (by
    cases hv : v.ownBlock with
    | none => exact .inl rfl
    | some k => exact .inr (fun e => hne k hv e.symm))
theorem Own1.base_le {k : IntKind} {E : TypeId} {w : World} {base base' : Nat} {v : Value} {l : List Int} (h : Own1 k E w base v l) (hb : base' ≤ base) : Own1 k E w base' v l := by
  refine ⟨h.1, ?_⟩
  rcases h.2 with h2 | ⟨g, cap, cur, e, hg, r⟩
  · exact .inl h2
  · exact .inr ⟨g, cap, cur, e, by omega, r⟩
theorem Own1.at_ {k : IntKind} {E : TypeId} {w : World} {base n c : Nat} {A : Option Addr} {l : List Int} (h : Own1 k E w base (.slice A n c) l) : At1 k w A l := by
  obtain ⟨A', c', e, _, r⟩ := h.reads
  simp only [Value.slice.injEq] at e
  rw [e.1]; exact r
theorem Own1.low {k : IntKind} {E : TypeId} {w : World} {base : Nat} {v : Value} {l : List Int} (h : Own1 k E w base v l) {j : Nat} (hk : v.ownBlock = some j) : base ≤ j := (World.ownsRow.lt h j hk).1
theorem Own1.high {k : IntKind} {E : TypeId} {w : World} {base : Nat} {v : Value} {l : List Int} (h : Own1 k E w base v l) {j : Nat} (hk : v.ownBlock = some j) : j < w.heap.size := (World.ownsRow.lt h j hk).2
theorem Own1.form {k : IntKind} {E : TypeId} {w : World} {base n c : Nat} {A : Option Addr} {l : List Int} (h : Own1 k E w base (.slice A n c) l) (hn : 0 < n) : ∃ g, A = some ⟨g, 0, none⟩ := by
  rcases h.2 with ⟨h', _⟩ | ⟨g', cap', cur, h', _⟩
  · simp at h'; omega
  · simp only [Value.slice.injEq] at h'; exact ⟨g', h'.1⟩
theorem Own1.nil (k : IntKind) (E : TypeId) (w : World) (base : Nat) : Own1 k E w base (.slice none 0 0) [] := World.ownsRow_nil _ _ _ _
theorem Own1.lit0 {k : IntKind} {E : TypeId} {w : World} {base : Nat} (hb : base ≤ w.heap.size) : Own1 k E (w.alloc (.cells #[] E)) base (.slice (some ⟨w.heap.size, 0, none⟩) 0 0) [] := by
  have := World.ownsRow_lit (base := base) (e := E) (size := 1) w #[] 0 hb (by unfold maxLen; omega) (by simp)
  exact this
theorem Own1.cell {k : IntKind} {E : TypeId} {w : World} {base g n c : Nat} {l : List Int} (h : Own1 k E w base (.slice (some ⟨g, 0, none⟩) n c) l) (j : Nat) (hj : j < l.length) :
    w.cell? ⟨g, j, none⟩ = some (.int k l[j]) ∧ w.frozen? ⟨g, j, none⟩ = false := by
  have hn : n = l.length := by
    rcases h.2 with ⟨h', _⟩ | ⟨g', cap', cur, h', _⟩
    · simp at h'
    · simp only [Value.slice.injEq] at h'; exact h'.2.1
  subst hn
  refine ⟨(World.ownsRow.cellAt h j (by omega)).trans ?_, World.ownsRow.frozenAt h _⟩
  simp [hj]
theorem Own1.store {k : IntKind} {E : TypeId} {w : World} {base g n c : Nat} {l : List Int} (h : Own1 k E w base (.slice (some ⟨g, 0, none⟩) n c) l) (hl : l.length = n) (j : Nat) (x : Int) :
    Own1 k E (w.setCell ⟨g, j, none⟩ (.int k x)) base (.slice (some ⟨g, 0, none⟩) n c) (l.set j x) := by
  subst hl
  have h1 := (World.ownsRow.stored h j (.int k x)).1
  rw [← List.map_set] at h1
  unfold Own1
  rw [List.length_set]
  exact h1
theorem info_parts1 {P : Program} {e : TypeId} {z : Value} {b : Nat} (h : (P.info? e).map (fun i => (i.zero, i.size, i.bytes)) = some (some z, 1, b)) : ∃ i, P.info? e = some i ∧ i.zero = some z ∧ i.size = 1 ∧ i.bytes = b := by
  cases hq : P.info? e with
  | none => simp [hq] at h
  | some i => simp [hq] at h; exact ⟨i, rfl, h.1, h.2.1, h.2.2⟩
theorem append_int {P : Program} {w : World} {ops : Array Oper} {rest : List Oper} {o : Oper} {a : Act} {Q : Exit → Act → World → Prop} (hgd : o.guard = none) (s x : Operand) (t : TypeId)
    (ho : o.op = .call { callee := .builtin .append, args := #[s, x], argTypes := #[t, t] }) (e : TypeId) (k : IntKind) (b : Nat)
    (ht : P.underlying t = some (.slice e)) (hinfo : (P.info? e).map (fun i => (i.zero, i.size, i.bytes)) = some (some (.int k 0), 1, b)) (hb : b ≤ 16)
    (base : Nat) (v : Value) (l : List Int) (hs : a.eval s = v) (hown : Own1 k e w base v l) (g c : Nat) (p : Int) (hx : a.eval x = .slice (some ⟨g, 0, none⟩) 1 c)
    (hc1 : w.cell? ⟨g, 0, none⟩ = some (.int k p)) (hlen : l.length ≤ 1073741824) (hbase : base ≤ w.heap.size)
    (h : ∀ A' c' w', Own1 k e w' base (.slice A' (l ++ [p]).length c') (l ++ [p]) → w.grownBy w' v.ownBlock → wpList P ops Q rest (a.put o.dst (.slice A' (l ++ [p]).length c')) w') : wpList P ops Q (o :: rest) a w := by
  obtain ⟨i, hi, hz0, hz1, hz2⟩ := info_parts1 hinfo
  refine wpList_append_own w hgd s x t ho base e i _ 1 b ht hi hz0 hz1 hz2 rfl (by decide) v l.length (l.map (Value.int k)) hs hown ⟨g, 0, none⟩ 1 c [.int k p] hx rfl ?_ ?_ (by unfold maxLen; omega) ?_ hbase ?_
  · intro j u hu
    match j, hu with
    | 0, hu => simp at hu; subst hu; exact hc1
    | j + 1, hu => simp at hu
  · intro u hu
    simp at hu
    rcases hu with rfl; rfl
  · have : (l.length + 1) * b ≤ (1073741824 + 1) * 16 := Nat.mul_le_mul (by omega) hb
    omega
  · intro v' w' ho' hg _
    have ho2 : Own1 k e w' base v' (l ++ [p]) := by
      unfold Own1
      rw [List.map_append, List.length_append]
      exact ho'
    obtain ⟨A', c', rfl, _, _⟩ := ho2.reads
    exact h A' c' w' ho2 hg

/-- The numbers m, m + 1, .. -/
def markI (n m : Nat) : List Int := (List.range n).map fun i => ((m + i : Nat) : Int)
theorem markI_len (n m : Nat) : (markI n m).length = n := by simp [markI]
theorem markI_get {n m i : Nat} (h : i < (markI n m).length) : (markI n m)[i] = ((m + i : Nat) : Int) := by simp [markI]
/-- A list whose first k numbers are marked. -/
def markQ (l : List Int) (k m : Nat) : List Int := markI k m ++ l.drop k
theorem markQ_len {l : List Int} {k : Nat} (m : Nat) (h : k ≤ l.length) : (markQ l k m).length = l.length := by simp [markQ, markI_len]; omega
theorem markQ_zero (l : List Int) (m : Nat) : markQ l 0 m = l := by simp [markQ, markI]
theorem markQ_end (l : List Int) (m : Nat) : markQ l l.length m = markI l.length m := by simp [markQ]
theorem markQ_set {l : List Int} {k : Nat} (m : Nat) (h : k < l.length) : (markQ l k m).set k ((m + k : Nat) : Int) = markQ l (k + 1) m := by
  unfold markQ
  rw [List.set_append_right _ _ (by rw [markI_len]; exact Nat.le_refl _), markI_len, Nat.sub_self, List.drop_eq_getElem_cons h, List.set_cons_zero]
  have : markI (k + 1) m = markI k m ++ [((m + k : Nat) : Int)] := by unfold markI; rw [List.range_succ, List.map_append]; rfl
  rw [this, List.append_assoc]; rfl

end Go.Proofs.YtnakdlfjjeligaaGreat

/-
  A whole list of pairs is appended. No program in it.
-/
namespace Go.Proofs.YtnakdlfjjeligaaGreat
open Go.RowKit
set_option linter.unusedVariables false
set_option linter.unusedSimpArgs false

theorem append_pairs {P : Program} {w : World} {ops : Array Oper} {rest : List Oper} {o : Oper} {a : Act} {Q : Exit → Act → World → Prop} (hgd : o.guard = none) (s x : Operand) (t : TypeId)
    (ho : o.op = .call { callee := .builtin .append, args := #[s, x], argTypes := #[t, t] }) (e : TypeId) (k1 k2 : IntKind) (b : Nat)
    (ht : P.underlying t = some (.slice e)) (hinfo : (P.info? e).map (fun i => (i.zero, i.size, i.bytes)) = some (some (.agg #[.int k1 0, .int k2 0]), 2, b)) (hb : b ≤ 16)
    (base : Nat) (v : Value) (l : List (Int × Int)) (hs : a.eval s = v) (hown : Own2 k1 k2 e w base v l) (ad : Addr) (c : Nat) (m : List (Int × Int)) (hx : a.eval x = .slice (some ad) m.length c)
    (hm : At2 k1 k2 w (some ad) m) (hlen : l.length + m.length ≤ 1073741824) (hbase : base ≤ w.heap.size)
    (h : ∀ A' c' w', Own2 k1 k2 e w' base (.slice A' (l ++ m).length c') (l ++ m) → w.grownBy w' v.ownBlock → wpList P ops Q rest (a.put o.dst (.slice A' (l ++ m).length c')) w') : wpList P ops Q (o :: rest) a w := by
  obtain ⟨i, hi, hz0, hz1, hz2⟩ := info_parts hinfo
  refine wpList_append_own w hgd s x t ho base e i _ 2 b ht hi hz0 hz1 hz2 rfl (by decide) v l.length (flat2 k1 k2 l) hs hown ad m.length c (flat2 k1 k2 m) hx (length_flat2 _ _ _) ?_ (flat2_oneCell _ _ _) (by unfold maxLen; omega) ?_ hbase ?_
  · intro j u hu
    have hj := (List.getElem?_eq_some_iff.1 hu).1
    have hne : flat2 k1 k2 m ≠ [] := fun e => by rw [e] at hj; simp at hj
    obtain ⟨g, off, e2, hlt, hc⟩ := hm hne
    simp only [Option.some.injEq] at e2
    subst e2
    have h1 := hc j hj
    rw [(List.getElem?_eq_some_iff.1 hu).2] at h1
    unfold Addr.add
    by_cases h0 : j = 0
    · subst h0; rw [if_pos rfl]; simpa using h1
    · rw [if_neg h0]; exact h1
  · have : (l.length + m.length) * b ≤ 1073741824 * 16 := Nat.mul_le_mul hlen hb
    omega
  · intro v' w' ho' hg _
    have ho2 : Own2 k1 k2 e w' base v' (l ++ m) := by
      unfold Own2
      rw [flat2_append, List.length_append]
      exact ho'
    obtain ⟨A', c', rfl, _, _⟩ := ho2.reads
    exact h A' c' w' ho2 hg

end Go.Proofs.YtnakdlfjjeligaaGreat

/-
  Rows of pairs: appended from slices of other types, cut, cleared; a row with room. No program in it.
-/
namespace Go.Proofs.YtnakdlfjjeligaaGreat
open Go.RowKit
set_option linter.unusedVariables false
set_option linter.unusedSimpArgs false

theorem run_append_types {P : Program} {w : World} {t u ty e e' : TypeId} {i : TypeInfo} (ht : P.underlying t = some (.slice e)) (hu : P.underlying u = some (.slice e')) (hi : P.info? e = some i) (A : Option Addr) (n c : Nat) (y : Value) :
    (Builtin.append_ #[t, u] ty #[.slice A n c, y]).run P w = (Builtin.append_ #[t, t] ty #[.slice A n c, y]).run P w := by
  simp [Builtin.append_, run_underlying ht, run_underlying hu, sizeOf, typeInfo, hi]
theorem run_append_none {P : Program} {w : World} {base : Nat} {t u ty e e' : TypeId} {i : TypeInfo} {size : Nat} (ht : P.underlying t = some (.slice e)) (hu : P.underlying u = some (.slice e')) (hi : P.info? e = some i)
    (v : Value) (n : Nat) (xs : List Value) (hown : w.ownsRow base e size v n xs) (c : Nat) : (Builtin.append_ #[t, u] ty #[v, .slice none 0 c]).run P w = .ok v w := by
  rcases hown.2 with ⟨rfl, rfl⟩ | ⟨g, cap, cur, rfl, _, _, hnc, _⟩
  · simp [Builtin.append_, run_underlying ht, run_underlying hu, sizeOf, typeInfo, hi, Builtin.lenOf, Builtin.firstCells]
  · simp [Builtin.append_, run_underlying ht, run_underlying hu, sizeOf, typeInfo, hi, Builtin.lenOf, Builtin.firstCells, hnc, storeCells]

theorem append_pairsW {P : Program} {w : World} {o : Oper} {a : Act} {K : Act → World → Prop} {Q : Exit → Act → World → Prop} (s x : Operand) (t u : TypeId)
    (ho : o.op = .call { callee := .builtin .append, args := #[s, x], argTypes := #[t, u] }) (e e' : TypeId) (k1 k2 : IntKind) (b : Nat)
    (ht : P.underlying t = some (.slice e)) (hut : P.underlying u = some (.slice e')) (hinfo : (P.info? e).map (fun i => (i.zero, i.size, i.bytes)) = some (some (.agg #[.int k1 0, .int k2 0]), 2, b)) (hb : b ≤ 16)
    (base : Nat) (v : Value) (l : List (Int × Int)) (hs : a.eval s = v) (hown : Own2 k1 k2 e w base v l) (A : Option Addr) (c : Nat) (m : List (Int × Int)) (hx : a.eval x = .slice A m.length c)
    (hm : At2 k1 k2 w A m) (hlen : l.length + m.length ≤ 1073741824) (hbase : base ≤ w.heap.size)
    (h : ∀ A' c' w', Own2 k1 k2 e w' base (.slice A' (l ++ m).length c') (l ++ m) → w.grownBy w' v.ownBlock → K (a.put o.dst (.slice A' (l ++ m).length c')) w') : o.wp P a w K Q := by
  obtain ⟨i, hi, hz0, hz1, hz2⟩ := info_parts hinfo
  cases A with
  | none =>
    have hm0 : m = [] := by
      cases m with
      | nil => rfl
      | cons p m => obtain ⟨g, off, h1, _⟩ := At2.get hm (by simp); cases h1
    subst hm0
    have hrun2 := run_append_none (P := P) (w := w) (ty := o.type) ht hut hi v l.length (flat2 k1 k2 l) hown c
    obtain ⟨A', c', rfl, _, _⟩ := hown.reads
    refine Lib.wp_append_run w s x t u ho _ _ hs hx _ _ hrun2 ?_
    have := h A' c' w (by rw [List.append_nil]; exact hown) (World.grownBy.refl _ _)
    rw [List.append_nil] at this
    exact this
  | some ad =>
    obtain ⟨v', w', hr, ho', hg, _⟩ := run_append_own (P := P) w base t o.type e i _ 2 b ht hi hz0 hz1 hz2 rfl (by decide) v l.length (flat2 k1 k2 l) hown ad m.length c (flat2 k1 k2 m) (length_flat2 _ _ _) (by
      intro j u hu
      have hj := (List.getElem?_eq_some_iff.1 hu).1
      have hne : flat2 k1 k2 m ≠ [] := fun e => by rw [e] at hj; simp at hj
      obtain ⟨g, off, e2, hlt, hc⟩ := hm hne
      simp only [Option.some.injEq] at e2
      subst e2
      have h1 := hc j hj
      rw [(List.getElem?_eq_some_iff.1 hu).2] at h1
      unfold Addr.add
      by_cases h0 : j = 0
      · subst h0; rw [if_pos rfl]; simpa using h1
      · rw [if_neg h0]; exact h1) (flat2_oneCell _ _ _) (by unfold maxLen; omega) (by
      have : (l.length + m.length) * b ≤ 1073741824 * 16 := Nat.mul_le_mul hlen hb
      omega) hbase
    obtain ⟨A0, c0, rfl, _, _⟩ := hown.reads
    rw [← run_append_types ht hut hi] at hr
    refine Lib.wp_append_run w s x t u ho _ _ hs hx _ _ hr ?_
    have ho2 : Own2 k1 k2 e w' base v' (l ++ m) := by
      unfold Own2
      rw [flat2_append, List.length_append]
      exact ho'
    obtain ⟨A', c', rfl, _, _⟩ := ho2.reads
    exact h A' c' w' ho2 hg

theorem append_pairsU {P : Program} {w : World} {ops : Array Oper} {rest : List Oper} {o : Oper} {a : Act} {Q : Exit → Act → World → Prop} (hgd : o.guard = none) (s x : Operand) (t u : TypeId)
    (ho : o.op = .call { callee := .builtin .append, args := #[s, x], argTypes := #[t, u] }) (e e' : TypeId) (k1 k2 : IntKind) (b : Nat)
    (ht : P.underlying t = some (.slice e)) (hut : P.underlying u = some (.slice e')) (hinfo : (P.info? e).map (fun i => (i.zero, i.size, i.bytes)) = some (some (.agg #[.int k1 0, .int k2 0]), 2, b)) (hb : b ≤ 16)
    (base : Nat) (v : Value) (l : List (Int × Int)) (hs : a.eval s = v) (hown : Own2 k1 k2 e w base v l) (A : Option Addr) (c : Nat) (m : List (Int × Int)) (hx : a.eval x = .slice A m.length c)
    (hm : At2 k1 k2 w A m) (hlen : l.length + m.length ≤ 1073741824) (hbase : base ≤ w.heap.size)
    (h : ∀ A' c' w', Own2 k1 k2 e w' base (.slice A' (l ++ m).length c') (l ++ m) → w.grownBy w' v.ownBlock → wpList P ops Q rest (a.put o.dst (.slice A' (l ++ m).length c')) w') : wpList P ops Q (o :: rest) a w := by
  refine wpList_plain hgd fun _ hK => ?_
  exact append_pairsW s x t u ho e e' k1 k2 b ht hut hinfo hb base v l hs hown A c m hx hm hlen hbase (fun A' c' w' h1 h2 => hK _ _ (h A' c' w' h1 h2))

theorem At2.one {k1 k2 : IntKind} (w : World) (p : Int × Int) (E : TypeId) : At2 k1 k2 (w.alloc (.cells #[.int k1 p.1, .int k2 p.2] E)) (some ⟨w.heap.size, 0, none⟩) [p] := Row.lit (w := w) #[.int k1 p.1, .int k2 p.2] E
theorem Own2.shorten {k1 k2 : IntKind} {E : TypeId} {w : World} {base g n c : Nat} {l : List (Int × Int)} (h : Own2 k1 k2 E w base (.slice (some ⟨g, 0, none⟩) n c) l) (hl : l.length = n) {k : Nat} (hk : k ≤ n) :
    Own2 k1 k2 E w base (.slice (some ⟨g, 0, none⟩) k c) (l.take k) := by
  subst hl
  rcases h.2 with ⟨h1, _⟩ | ⟨g', cap, cur, h1, h2, h3, h4, h5, h6, h7⟩
  · cases h1
  · simp only [Value.slice.injEq, Option.some.injEq, Addr.mk.injEq, and_true, true_and] at h1
    obtain ⟨rfl, rfl⟩ := h1
    have e1 : (l.take k).length = k := by rw [List.length_take]; omega
    have e2 : flat2 k1 k2 (l.take k) = (flat2 k1 k2 l).take (k * 2) := by
      have hfl := flat2_append k1 k2 (l.take k) (l.drop k)
      rw [List.take_append_drop] at hfl
      rw [hfl]
      exact (List.take_left' (by rw [length_flat2, e1])).symm
    refine ⟨length_flat2 _ _ _, .inr ⟨g, c, cur, by rw [e1], h2, h3, by omega, h5, h6, ?_⟩⟩
    rw [e1, e2, ← h7, List.take_take, Nat.min_eq_left (by omega)]
theorem Own2.cap {k1 k2 : IntKind} {E : TypeId} {w : World} {base g n c : Nat} {l : List (Int × Int)} (h : Own2 k1 k2 E w base (.slice (some ⟨g, 0, none⟩) n c) l) : n ≤ c := by
  rcases h.2 with ⟨h1, _⟩ | ⟨g', cap, cur, h1, h2, h3, h4, h5, h6, h7⟩
  · cases h1
  · simp only [Value.slice.injEq, Option.some.injEq, Addr.mk.injEq, and_true, true_and] at h1
    obtain ⟨rfl, rfl, rfl⟩ := h1
    exact h4
theorem At2.drop {k1 k2 : IntKind} {w : World} {b off : Nat} {l : List (Int × Int)} (h : At2 k1 k2 w (some ⟨b, off, none⟩) l) (j : Nat) : At2 k1 k2 w (some ⟨b, off + j * 2, none⟩) (l.drop j) := by
  by_cases hj : j < l.length
  · intro _
    have hne : flat2 k1 k2 l ≠ [] := flat2_ne (by omega)
    obtain ⟨b', off', e, hlt, hc⟩ := h hne
    simp only [Option.some.injEq, Addr.mk.injEq, and_true] at e
    obtain ⟨rfl, rfl⟩ := e
    have e2 : flat2 k1 k2 (l.drop j) = (flat2 k1 k2 l).drop (j * 2) := by
      have hfl := flat2_append k1 k2 (l.take j) (l.drop j)
      rw [List.take_append_drop] at hfl
      rw [hfl]
      exact (List.drop_left' (by rw [length_flat2, List.length_take]; omega)).symm
    refine ⟨b, off + j * 2, rfl, hlt, fun i hi => ?_⟩
    have hi2 : j * 2 + i < (flat2 k1 k2 l).length := by rw [length_flat2] at hi ⊢; rw [List.length_drop] at hi; omega
    have := hc (j * 2 + i) hi2
    rw [show off + j * 2 + i = off + (j * 2 + i) by omega, this]
    simp only [e2, List.getElem_drop]
  · rw [List.drop_of_length_le (by omega)]; exact At2.nil _ _ _ _
theorem Own2.setCells {k1 k2 : IntKind} {E : TypeId} {base g n c : Nat} {l : List (Int × Int)} (hl : l.length = n) : ∀ (vs : List Value) (o : Nat) (w : World), n * 2 ≤ o → Own2 k1 k2 E w base (.slice (some ⟨g, 0, none⟩) n c) l →
    Own2 k1 k2 E (w.setCells g o vs) base (.slice (some ⟨g, 0, none⟩) n c) l
  | [], _, _, _, h => h
  | v :: vs, o, w, ho, h => by
    subst hl
    refine Own2.setCells rfl vs (o + 1) _ (by omega) ?_
    have h1 := (World.ownsRow.stored h o v).1
    rw [List.set_eq_of_length_le (by rw [length_flat2]; omega)] at h1
    exact h1
theorem below_cells {B : Nat} {a : World} (g : Nat) (hb : B ≤ g) : ∀ (vs : List Value) (o : Nat) {w : World}, Below B a w → Below B a (w.setCells g o vs)
  | [], _, _, h => h
  | v :: vs, o, w, h => below_cells g hb vs (o + 1) (h.setCell hb v)
/-- 'clear' of a slice of pairs. -/
theorem run_clear_pairs {P : Program} (w : World) (t e ty : TypeId) (k1 k2 : IntKind) (b : Nat) (ht : P.underlying t = some (.slice e)) (hinfo : (P.info? e).map (fun i => (i.zero, i.size, i.bytes)) = some (some (.agg #[.int k1 0, .int k2 0]), 2, b)) (g o n c : Nat)
    (hc : ∀ j, j < n * 2 → (w.cell? ⟨g, o + j, none⟩).isSome = true) (hf : ∀ j, j < n * 2 → w.frozen? ⟨g, o + j, none⟩ = false) :
    ∃ vs, (Builtin.clear_ #[t] ty #[.slice (some ⟨g, o, none⟩) n c]).run P w = .ok (.tuple #[]) (w.setCells g o vs) := by
  obtain ⟨i, hi, hz0, hz1, hz2⟩ := info_parts hinfo
  cases n with
  | zero => exact ⟨[], by simp [Builtin.clear_, run_underlying ht, World.setCells]⟩
  | succ n =>
    refine ⟨(Builtin.zeroCells #[.int k1 0, .int k2 0] (n + 1)).toList, ?_⟩
    have hlen : (Builtin.zeroCells #[.int k1 0, .int k2 0] (n + 1)).toList.length = (n + 1) * 2 := by simp [Builtin.zeroCells]
    have hst := run_storeCells_cells (P := P) g o (Builtin.zeroCells #[.int k1 0, .int k2 0] (n + 1)).toList 0 w (by rw [hlen]; simpa using hc) (by rw [hlen]; simpa using hf) (by
      intro v hv
      simp only [Builtin.zeroCells, Array.toList_map, List.mem_map] at hv
      obtain ⟨j, _, rfl⟩ := hv
      have hj : j % (#[Value.int k1 0, Value.int k2 0] : Array Value).size < 2 := Nat.mod_lt _ (by simp)
      rcases (show j % (#[Value.int k1 0, Value.int k2 0] : Array Value).size = 0 ∨ j % (#[Value.int k1 0, Value.int k2 0] : Array Value).size = 1 by omega) with h | h <;> rw [h] <;> rfl)
    simp only [Nat.add_zero] at hst
    simp [Builtin.clear_, run_underlying ht, zeroValue, typeInfo, hi, hz0, hst, Value.cells]

end Go.Proofs.YtnakdlfjjeligaaGreat

/-
  Variables beside rows of pairs. No program in it.
-/
namespace Go.Proofs.YtnakdlfjjeligaaGreat
open Go.RowKit
set_option linter.unusedVariables false
set_option linter.unusedSimpArgs false

theorem Own2.ne_var {k1 k2 : IntKind} {E t : TypeId} {w : World} {base b : Nat} {v : Value} {l : List (Int × Int)} {cs : Array Value} (h : Own2 k1 k2 E w base v l) (hv : Var w b cs t) (ht : t ≠ E) : v.ownBlock ≠ some b := by
  rcases h.2 with ⟨rfl, _⟩ | ⟨g, cap, cur, rfl, _, hg, _⟩
  · intro e; cases e
  · intro e
    simp only [Value.ownBlock, Option.some.injEq] at e
    subst e
    unfold Var at hv
    rw [hv] at hg
    simp at hg
    exact ht hg.2
theorem Var.grown {w w' : World} {b : Nat} {cs : Array Value} {t : TypeId} {row : Option Nat} (hv : Var w b cs t) (hg : w.grownBy w' row) (hne : row ≠ some b) : Var w' b cs t := (hg.block b hv.lt (fun e => hne e.symm)).trans hv
theorem Own2.beside {k1 k2 : IntKind} {E t : TypeId} {w : World} {base b : Nat} {v : Value} {l : List (Int × Int)} {cs : Array Value} (h : Own2 k1 k2 E w base v l) (hv : Var w b cs t) (ht : t ≠ E) (i : Nat) (u : Value) : Own2 k1 k2 E (w.setCell ⟨b, i, none⟩ u) base v l :=
  h.apart (gset (g := b) (World.grownBy.refl w (some b)) (.inl rfl) u) (fun k hk e => by
    have := h.ne_var hv ht
    exact this (hk.trans e.symm))

end Go.Proofs.YtnakdlfjjeligaaGreat

/-
  A whole list of numbers is appended. No program in it.
-/
namespace Go.Proofs.YtnakdlfjjeligaaGreat
open Go.RowKit
set_option linter.unusedVariables false
set_option linter.unusedSimpArgs false

theorem At1.nil (k : IntKind) (w : World) (A : Option Addr) : At1 k w A [] := Row.nil _ _
theorem At1.one {k : IntKind} (w : World) (p : Int) (E : TypeId) : At1 k (w.alloc (.cells #[.int k p] E)) (some ⟨w.heap.size, 0, none⟩) [p] := Row.lit (w := w) #[.int k p] E
theorem append_intsW {P : Program} {w : World} {o : Oper} {a : Act} {K : Act → World → Prop} {Q : Exit → Act → World → Prop} (s x : Operand) (t : TypeId)
    (ho : o.op = .call { callee := .builtin .append, args := #[s, x], argTypes := #[t, t] }) (e : TypeId) (k : IntKind) (b : Nat)
    (ht : P.underlying t = some (.slice e)) (hinfo : (P.info? e).map (fun i => (i.zero, i.size, i.bytes)) = some (some (.int k 0), 1, b)) (hb : b ≤ 16)
    (base : Nat) (v : Value) (l : List Int) (hs : a.eval s = v) (hown : Own1 k e w base v l) (A : Option Addr) (c : Nat) (m : List Int) (hx : a.eval x = .slice A m.length c)
    (hm : At1 k w A m) (hlen : l.length + m.length ≤ 1073741824) (hbase : base ≤ w.heap.size)
    (h : ∀ A' c' w', Own1 k e w' base (.slice A' (l ++ m).length c') (l ++ m) → w.grownBy w' v.ownBlock → K (a.put o.dst (.slice A' (l ++ m).length c')) w') : o.wp P a w K Q := by
  obtain ⟨i, hi, hz0, hz1, hz2⟩ := info_parts1 hinfo
  cases A with
  | none =>
    have hm0 : m = [] := by
      cases m with
      | nil => rfl
      | cons p m => obtain ⟨g, off, h1, _⟩ := hm (by simp); cases h1
    subst hm0
    have hrun : (Builtin.append_ #[t, t] o.type #[v, .slice none 0 c]).run P w = .ok v w := by
      rcases hown.2 with ⟨rfl, _⟩ | ⟨g, cap, cur, rfl, _, _, hnc, _⟩
      · simp [Builtin.append_, run_underlying ht, sizeOf, typeInfo, hi, Builtin.lenOf, Builtin.firstCells]
      · simp [Builtin.append_, run_underlying ht, sizeOf, typeInfo, hi, Builtin.lenOf, Builtin.firstCells, hnc, storeCells]
    obtain ⟨A', c', rfl, _, _⟩ := hown.reads
    refine Lib.wp_append_run w s x t t ho _ _ hs hx _ _ hrun ?_
    have := h A' c' w (by rw [List.append_nil]; exact hown) (World.grownBy.refl _ _)
    rw [List.append_nil] at this
    exact this
  | some ad =>
    obtain ⟨v', w', hr, ho', hg, _⟩ := run_append_own (P := P) w base t o.type e i _ 1 b ht hi hz0 hz1 hz2 rfl (by decide) v l.length (l.map (Value.int k)) hown ad m.length c (m.map (Value.int k)) (by simp) (by
      intro j u hu
      have hj := (List.getElem?_eq_some_iff.1 hu).1
      have hne : m.map (Value.int k) ≠ [] := fun e => by rw [e] at hj; simp at hj
      obtain ⟨g, off, e2, hlt, hc⟩ := hm hne
      simp only [Option.some.injEq] at e2
      subst e2
      have h1 := hc j hj
      rw [(List.getElem?_eq_some_iff.1 hu).2] at h1
      unfold Addr.add
      by_cases h0 : j = 0
      · subst h0; rw [if_pos rfl]; simpa using h1
      · rw [if_neg h0]; exact h1) (by
      intro u hu
      rw [List.mem_map] at hu
      obtain ⟨y, _, rfl⟩ := hu
      rfl) (by unfold maxLen; omega) (by
      have : (l.length + m.length) * b ≤ 1073741824 * 16 := Nat.mul_le_mul hlen hb
      omega) hbase
    obtain ⟨A0, c0, rfl, _, _⟩ := hown.reads
    refine Lib.wp_append_run w s x t t ho _ _ hs hx _ _ hr ?_
    have ho2 : Own1 k e w' base v' (l ++ m) := by
      unfold Own1
      rw [List.map_append, List.length_append]
      exact ho'
    obtain ⟨A', c', rfl, _, _⟩ := ho2.reads
    exact h A' c' w' ho2 hg
theorem append_ints {P : Program} {w : World} {ops : Array Oper} {rest : List Oper} {o : Oper} {a : Act} {Q : Exit → Act → World → Prop} (hgd : Region.wanted o (yielded ops a.tmps) = true) (s x : Operand) (t : TypeId)
    (ho : o.op = .call { callee := .builtin .append, args := #[s, x], argTypes := #[t, t] }) (e : TypeId) (k : IntKind) (b : Nat)
    (ht : P.underlying t = some (.slice e)) (hinfo : (P.info? e).map (fun i => (i.zero, i.size, i.bytes)) = some (some (.int k 0), 1, b)) (hb : b ≤ 16)
    (base : Nat) (v : Value) (l : List Int) (hs : a.eval s = v) (hown : Own1 k e w base v l) (A : Option Addr) (c : Nat) (m : List Int) (hx : a.eval x = .slice A m.length c)
    (hm : At1 k w A m) (hlen : l.length + m.length ≤ 1073741824) (hbase : base ≤ w.heap.size)
    (h : ∀ A' c' w', Own1 k e w' base (.slice A' (l ++ m).length c') (l ++ m) → w.grownBy w' v.ownBlock → wpList P ops Q rest (a.put o.dst (.slice A' (l ++ m).length c')) w') : wpList P ops Q (o :: rest) a w := by
  refine wpList_step fun K hK => ?_
  rw [if_pos hgd]
  exact append_intsW s x t ho e k b ht hinfo hb base v l hs hown A c m hx hm hlen hbase (fun A' c' w' h1 h2 => hK _ _ (h A' c' w' h1 h2))

end Go.Proofs.YtnakdlfjjeligaaGreat

/-
  The plain side of drums: what the functions compute. No program and no memory in it.
-/
namespace Go.Proofs.YtnakdlfjjeligaaGreat
set_option linter.unusedVariables false
set_option linter.unusedSimpArgs false

/-- May place k of a drum bear x, in a frame of s steps and n hammers? -/
def okP (n : Nat) (s : Int) (k : Nat) (x : Int) : Bool := (x / 2 ^ min n 32 == 0) && (decide ((k : Int) < s) || (x == 0))
theorem okP_1 {n : Nat} {s : Int} {k : Nat} {x : Int} (h : (x / 2 ^ min n 32 != 0) = true) : okP n s k x = false := by unfold okP; simp at h; simp [h]
theorem okP_2 {n : Nat} {s : Int} {k : Nat} {x : Int} (h : decide (s ≤ (k : Int)) = true) (h2 : (x != 0) = true) : okP n s k x = false := by
  unfold okP; rw [decide_eq_false (by have := of_decide_eq_true h; omega)]; simp at h2; simp [h2]
theorem okP_3 {n : Nat} {s : Int} {k : Nat} {x : Int} (h : (x / 2 ^ min n 32 != 0) = false) (h2 : decide (s ≤ (k : Int)) = false) : okP n s k x = true := by
  unfold okP; rw [decide_eq_true (by have := of_decide_eq_false h2; omega)]; simp at h; simp [h]
theorem okP_4 {n : Nat} {s : Int} {k : Nat} {x : Int} (h : (x / 2 ^ min n 32 != 0) = false) (h2 : (x != 0) = false) : okP n s k x = true := by
  unfold okP; simp at h h2; simp [h, h2]
open Classical in
/-- Is d a drum for a frame of s steps and n hammers? -/
noncomputable def okD (n : Nat) (s : Int) (d : List Int) : Bool := decide (∀ i (h : i < d.length), okP n s i d[i] = true)
theorem okD_iff {n : Nat} {s : Int} {d : List Int} : okD n s d = true ↔ ∀ i (h : i < d.length), okP n s i d[i] = true := by simp [okD]
theorem okD_bad {n : Nat} {s : Int} {d : List Int} {k : Nat} (hk : k < d.length) (h : okP n s k d[k] = false) : okD n s d = false := by
  cases hx : okD n s d with
  | false => rfl
  | true => have := okD_iff.1 hx k hk; rw [h] at this; cases this
theorem okD_all {n : Nat} {s : Int} {d : List Int} (h : ∀ i (h : i < d.length), okP n s i d[i] = true) : okD n s d = true := okD_iff.2 h
/-- The code of a drum in a frame: 0, or 1 where either is not valid. -/
noncomputable def cD (s : Int) (hs : List (Int × Int)) (d : List Int) : Int := if okF s hs && okD hs.length s d then 0 else 1
noncomputable def vD (s : Int) (hs : List (Int × Int)) (d : List Int) : Bool := okF s hs && okD hs.length s d

end Go.Proofs.YtnakdlfjjeligaaGreat

/-
  The plain side of pins: what the functions on a place of a drum compute. No program and no memory in it.
-/
namespace Go.Proofs.YtnakdlfjjeligaaGreat
set_option linter.unusedVariables false
set_option linter.unusedSimpArgs false

theorem wraps_u32 (n : Int) (h₀ : 0 ≤ n) (h₁ : n < 2 ^ 32) : IntKind.u32.wrap n = n := IntWalk.u32_in _ (by omega)
def Wd (d : List Int) : Prop := ∀ x ∈ d, 0 ≤ x ∧ x ≤ 4294967295
theorem Wd.get {d : List Int} (h : Wd d) {i : Nat} (hi : i < d.length) : 0 ≤ d[i] ∧ d[i] ≤ 4294967295 := h _ (List.getElem_mem hi)
theorem div_bd {x : Int} (h : 0 ≤ x ∧ x ≤ 4294967295) (t : Nat) : 0 ≤ x / 2 ^ t ∧ x / 2 ^ t ≤ 4294967295 := by
  have hp : (0 : Int) < 2 ^ t := Int.pow_pos (by decide)
  exact ⟨Int.ediv_nonneg h.1 (Int.le_of_lt hp), Int.le_trans (Int.ediv_le_self _ h.1) h.2⟩
theorem and_one {x : Int} (h : 0 ≤ x ∧ x ≤ 4294967295) : bits .and .u32 x 1 = x % 2 := by
  have := bits_mask .u32 32 (by decide) wraps_u32 1 (by decide) x h.1 (by omega)
  simpa using this
theorem tmod_two {x : Int} (h : 0 ≤ x) : x.tmod 2 = x % 2 := Int.tmod_eq_emod_of_nonneg h

/-- Is there a pin at place k for track t? -/
def pinB (d : List Int) (k t : Nat) : Bool := d.getD k 0 / 2 ^ t % 2 == 1
theorem pinB_at {d : List Int} {k : Nat} (h : k < d.length) (t : Nat) : pinB d k t = (d[k] / 2 ^ t % 2 == 1) := by
  unfold pinB; rw [List.getD_eq_getElem?_getD, List.getElem?_eq_getElem h]; rfl
/-- The code of a place. -/
noncomputable def cP (s : Int) (hs : List (Int × Int)) (d : List Int) (a t : Int) : Int := if vD s hs d then (if inB a 0 (s - 1) && inB t 0 ((hs.length : Int) - 1) then 0 else 2) else 1
theorem cP_zero {s : Int} {hs : List (Int × Int)} {d : List Int} {a t : Int} (h : cP s hs d a t = 0) : okF s hs = true ∧ okD hs.length s d = true ∧ (0 ≤ a ∧ a ≤ s - 1) ∧ 0 ≤ t ∧ t ≤ (hs.length : Int) - 1 := by
  unfold cP at h
  split at h
  · rename_i hv
    split at h
    · rename_i hb
      simp only [Bool.and_eq_true, inB_iff] at hb
      simp only [vD, Bool.and_eq_true] at hv
      exact ⟨hv.1, hv.2, hb.1, hb.2⟩
    · omega
  · omega
/-- What HasPin returns. -/
noncomputable def rHasPin (s : Int) (hs : List (Int × Int)) (d : List Int) (a t : Int) : Bool := if cP s hs d a t = 0 then pinB d a.toNat t.toNat else false

end Go.Proofs.YtnakdlfjjeligaaGreat

/-
  The plain side of counting pins. No program and no memory in it.
-/
namespace Go.Proofs.YtnakdlfjjeligaaGreat
set_option linter.unusedVariables false
set_option linter.unusedSimpArgs false

/-- The ones among the lowest k bits of n. -/
def popF : Nat → Nat → Nat
  | 0, _ => 0
  | k + 1, n => n % 2 + popF k (n / 2)
theorem popF_zero (k : Nat) : popF k 0 = 0 := by
  induction k with
  | zero => rfl
  | succ k ih => simp [popF, ih]
theorem popF_le (k : Nat) : ∀ n, popF k n ≤ k := by
  induction k with
  | zero => intro n; exact Nat.le_refl _
  | succ k ih => intro n; have := ih (n / 2); simp only [popF]; omega
theorem popF_split (a b : Nat) : ∀ n, popF (a + b) n = popF a (n % 2 ^ a) + popF b (n / 2 ^ a) := by
  induction a with
  | zero => intro n; simp [popF]
  | succ a ih =>
    intro n
    rw [show a + 1 + b = (a + b) + 1 by omega]
    simp only [popF]
    rw [ih (n / 2)]
    have h1 : n % 2 ^ (a + 1) % 2 = n % 2 := by
      rw [Nat.pow_succ, Nat.mul_comm, Nat.mod_mul_right_mod]
    have h2 : n % 2 ^ (a + 1) / 2 = n / 2 % 2 ^ a := by
      rw [Nat.pow_succ, Nat.mul_comm, Nat.mod_mul_right_div_self]
    have h3 : n / 2 / 2 ^ a = n / 2 ^ (a + 1) := by
      rw [Nat.div_div_eq_div_mul, Nat.pow_succ, Nat.mul_comm 2]
    rw [h1, h2, h3]
    omega
theorem popF_more (k : Nat) : ∀ n, n < 2 ^ k → ∀ j, popF (k + j) n = popF k n := by
  intro n hn j
  rw [popF_split, Nat.mod_eq_of_lt hn, Nat.div_eq_of_lt hn, popF_zero]
  rfl
theorem pop8_eq : ∀ i : Nat, i < 256 → Lib.pop8 (i : Int) = (popF 8 i : Int) := by decide +kernel
/-- The ones of a number of 32 bits. -/
def popI (x : Int) : Int := (popF 32 x.toNat : Int)
theorem popI_bd (x : Int) : 0 ≤ popI x ∧ popI x ≤ 32 := by
  have := popF_le 32 x.toNat
  unfold popI; omega
theorem popI_bytes (n : Nat) (h : n < 2 ^ 32) : popF 32 n = popF 8 (n / 2 ^ 24) + popF 8 (n / 2 ^ 16 % 256) + popF 8 (n / 2 ^ 8 % 256) + popF 8 (n % 256) := by
  have e1 : popF 32 n = popF 8 (n % 2 ^ 8) + popF 24 (n / 2 ^ 8) := popF_split 8 24 n
  have e2 : popF 24 (n / 2 ^ 8) = popF 8 (n / 2 ^ 8 % 2 ^ 8) + popF 16 (n / 2 ^ 8 / 2 ^ 8) := popF_split 8 16 (n / 2 ^ 8)
  have e3 : popF 16 (n / 2 ^ 8 / 2 ^ 8) = popF 8 (n / 2 ^ 8 / 2 ^ 8 % 2 ^ 8) + popF 8 (n / 2 ^ 8 / 2 ^ 8 / 2 ^ 8) := popF_split 8 8 (n / 2 ^ 8 / 2 ^ 8)
  have h1 : n / 2 ^ 8 / 2 ^ 8 = n / 2 ^ 16 := by rw [Nat.div_div_eq_div_mul]
  have h2 : n / 2 ^ 16 / 2 ^ 8 = n / 2 ^ 24 := by rw [Nat.div_div_eq_div_mul]
  rw [h1] at e2 e3
  rw [h2] at e3
  have h4 : (2 : Nat) ^ 8 = 256 := rfl
  rw [h4] at e1 e2 e3 ⊢
  omega
def popL (d : List Int) : Int := (d.map popI).foldl (· + ·) 0
theorem popL_snoc (d : List Int) (k : Nat) (h : k < d.length) : popL (d.take (k + 1)) = popL (d.take k) + popI d[k] := by
  unfold popL; rw [List.take_succ_eq_append_getElem h, List.map_append, List.foldl_append]; rfl
theorem popL_bd (d : List Int) : ∀ k, k ≤ d.length → 0 ≤ popL (d.take k) ∧ popL (d.take k) ≤ 32 * (k : Int)
  | 0, _ => by simp [popL]
  | k + 1, h => by
    have := popL_bd d k (by omega)
    have h2 := popI_bd (d[k]'(by omega))
    rw [popL_snoc d k (by omega)]
    omega
noncomputable def rCountPins (s : Int) (hs : List (Int × Int)) (d : List Int) : Int := if vD s hs d then popL d else 0
/-- What d has and e has not. -/
def lessD (d e : List Int) : List Int := (d.zip e).map fun p => bits .andNot .u32 p.1 p.2

end Go.Proofs.YtnakdlfjjeligaaGreat

/-
  The plain side of the laws that give a drum back: mirrored, turned, with a pin and without. No program in it.
-/
namespace Go.Proofs.YtnakdlfjjeligaaGreat
set_option linter.unusedVariables false
set_option linter.unusedSimpArgs false

theorem zD_getElem? (i : Nat) : zD[i]? = if i < 96 then some 0 else none := by rw [zD_eq, List.getElem?_replicate]

/-- The reference's mirror: the first k steps are laid from behind. -/
def mirS (n : Nat) (d : List Int) : Nat → List Int
  | 0 => zD
  | k + 1 => (mirS n d k).set (n - 1 - k) (d.getD k 0)
theorem mirS_len (n : Nat) (d : List Int) : ∀ k, (mirS n d k).length = 96
  | 0 => zD_len
  | k + 1 => by simp [mirS, mirS_len n d k]
theorem mirS_get {n : Nat} {d : List Int} (hn : n ≤ 96) : ∀ k, k ≤ n → ∀ i, i < 96 → (mirS n d k)[i]? = some (if n - k ≤ i ∧ i < n then d.getD (n - 1 - i) 0 else 0)
  | 0, _, i, hi => by
    rw [if_neg (by omega)]; simp only [mirS, zD_getElem?, if_pos hi]
  | k + 1, hk, i, hi => by
    simp only [mirS, List.getElem?_set, mirS_len]
    by_cases e : n - 1 - k = i
    · subst e
      rw [if_pos rfl, if_pos (by omega), if_pos (by omega), show n - 1 - (n - 1 - k) = k by omega]
    · rw [if_neg e, mirS_get hn k (by omega) i hi]
      congr 1
      by_cases h1 : n - k ≤ i ∧ i < n
      · rw [if_pos h1, if_pos (by omega)]
      · rw [if_neg h1, if_neg (by omega)]
/-- The library's Reverse, after k exchanges, on the first n numbers. -/
def swS (n : Nat) (d : List Int) (k : Nat) : List Int := (List.range d.length).map fun i => if (i < k ∨ n - k ≤ i) ∧ i < n then d.getD (n - 1 - i) 0 else d.getD i 0
theorem swS_len (n : Nat) (d : List Int) (k : Nat) : (swS n d k).length = d.length := by simp [swS]
theorem swS_get {n : Nat} {d : List Int} {k i : Nat} (h : i < (swS n d k).length) : (swS n d k)[i] = if (i < k ∨ n - k ≤ i) ∧ i < n then d.getD (n - 1 - i) 0 else d.getD i 0 := by simp [swS]
theorem swS_zero (n : Nat) (d : List Int) : swS n d 0 = d := by
  refine List.ext_getElem (by simp [swS]) fun i h1 h2 => ?_
  rw [swS_get h1, if_neg (by omega), List.getD_eq_getElem?_getD, List.getElem?_eq_getElem h2]; rfl
theorem swS_low {n : Nat} {d : List Int} {k : Nat} (hn : n ≤ d.length) (hk : 2 * k + 1 < n) (h : k < (swS n d k).length) : (swS n d k)[k] = d.getD k 0 := by
  rw [swS_get h, if_neg (by omega)]
theorem swS_high {n : Nat} {d : List Int} {k : Nat} (hn : n ≤ d.length) (hk : 2 * k + 1 < n) (h : n - 1 - k < (swS n d k).length) : (swS n d k)[n - 1 - k] = d.getD (n - 1 - k) 0 := by
  rw [swS_get h, if_neg (by omega)]
theorem swS_step {n : Nat} {d : List Int} {k : Nat} (hn : n ≤ d.length) (hk : 2 * k + 1 < n) : ((swS n d k).set k (d.getD (n - 1 - k) 0)).set (n - 1 - k) (d.getD k 0) = swS n d (k + 1) := by
  refine List.ext_getElem (by simp [swS]) fun i h1 h2 => ?_
  have hi : i < d.length := by rw [swS_len] at h2; exact h2
  rw [List.getElem_set, List.getElem_set, swS_get, swS_get]
  by_cases e1 : n - 1 - k = i
  · subst e1
    rw [if_pos rfl, if_pos (by omega), show n - 1 - (n - 1 - k) = k by omega]
  · rw [if_neg e1]
    by_cases e2 : k = i
    · subst e2
      rw [if_pos rfl, if_pos (by omega)]
    · rw [if_neg e2]
      by_cases h3 : (i < k ∨ n - k ≤ i) ∧ i < n
      · rw [if_pos h3, if_pos (by omega)]
      · rw [if_neg h3, if_neg (by omega)]
/-- The first n numbers the other way round. -/
def revL (n : Nat) (d : List Int) : List Int := (List.range d.length).map fun i => if i < n then d.getD (n - 1 - i) 0 else d.getD i 0
theorem revL_len (n : Nat) (d : List Int) : (revL n d).length = d.length := by simp [revL]
theorem swS_done {n : Nat} {d : List Int} {k : Nat} (hn : n ≤ d.length) (hk : n ≤ 2 * k + 1) (hk2 : 2 * k ≤ n) : swS n d k = revL n d := by
  refine List.ext_getElem (by simp [swS, revL]) fun i h1 h2 => ?_
  rw [swS_get h1]
  simp only [revL, List.getElem_map, List.getElem_range]
  by_cases h3 : i < n
  · rw [if_pos h3]
    by_cases h4 : i < k ∨ n - k ≤ i
    · rw [if_pos ⟨h4, h3⟩]
    · rw [if_neg (by omega), show n - 1 - i = i by omega]
  · rw [if_neg h3, if_neg (by omega)]
theorem mirS_rev {n : Nat} {d : List Int} (hd : d.length = 96) (hn : n ≤ 96) (hz : ∀ i (h : i < d.length), n ≤ i → d[i] = 0) : mirS n d n = revL n d := by
  refine List.ext_getElem? fun i => ?_
  by_cases hi : i < 96
  · rw [mirS_get hn n (by omega) i hi, List.getElem?_eq_getElem (by rw [revL_len]; omega)]
    congr 1
    simp only [revL, List.getElem_map, List.getElem_range]
    by_cases h : i < n
    · rw [if_pos (by omega), if_pos h]
    · rw [if_neg (by omega), if_neg h, List.getD_eq_getElem?_getD, List.getElem?_eq_getElem (by omega)]
      exact (hz i (by omega) (by omega)).symm
  · rw [List.getElem?_eq_none (by rw [mirS_len]; omega), List.getElem?_eq_none (by rw [revL_len]; omega)]
theorem okD_zero {n : Nat} {s : Int} {d : List Int} (h : okD n s d = true) {i : Nat} (hi : i < d.length) (hs : s ≤ (i : Int)) : d[i] = 0 := by
  have := okD_iff.1 h i hi
  unfold okP at this
  simp only [Bool.and_eq_true, Bool.or_eq_true, decide_eq_true_eq, beq_iff_eq] at this
  rcases this.2 with h1 | h1
  · omega
  · exact h1
theorem cD_zero {s : Int} {l : List (Int × Int)} {d : List Int} (h : cD s l d = 0) : okF s l = true ∧ okD l.length s d = true := by
  unfold cD at h
  split at h
  · rename_i hv; simpa using hv
  · omega
noncomputable def rMirror (s : Int) (l : List (Int × Int)) (d : List Int) : List Int := if cD s l d = 0 then revL s.toNat d else zD
theorem rMirror_len {d : List Int} (hd : d.length = 96) (s : Int) (l : List (Int × Int)) : (rMirror s l d).length = 96 := by
  unfold rMirror; split
  · rw [revL_len, hd]
  · exact zD_len

/-- The steps some steps later: after k steps. -/
def turnS (n b : Nat) (d : List Int) : Nat → List Int
  | 0 => zD
  | k + 1 => (turnS n b d k).set ((k + b) % n) (d.getD k 0)
theorem turnS_len (n b : Nat) (d : List Int) : ∀ k, (turnS n b d k).length = 96
  | 0 => zD_len
  | k + 1 => by simp [turnS, turnS_len n b d k]
noncomputable def rTurn (s : Int) (l : List (Int × Int)) (d : List Int) (b : Int) : List Int := if cP s l d b 0 = 0 then turnS s.toNat b.toNat d s.toNat else zD
theorem rTurn_len (s : Int) (l : List (Int × Int)) (d : List Int) (b : Int) : (rTurn s l d b).length = 96 := by
  unfold rTurn; split
  · exact turnS_len _ _ _ _
  · exact zD_len

end Go.Proofs.YtnakdlfjjeligaaGreat

/-
  The plain side of clashes and free places. No program in it.
-/
namespace Go.Proofs.YtnakdlfjjeligaaGreat
set_option linter.unusedVariables false
set_option linter.unusedSimpArgs false

/-- The first number from 1 to n - 1 with p, n if there is none. -/
def nxt (p : Nat → Bool) (n : Nat) : Nat := ((List.range n).find? fun k => decide (1 ≤ k) && p k).getD n
theorem nxt_some {p : Nat → Bool} {n k : Nat} (h1 : 1 ≤ k) (hk : k < n) (hp : p k = true) (hb : ∀ j, 1 ≤ j → j < k → p j = false) : nxt p n = k := by
  have h : (List.range n).find? (fun k => decide (1 ≤ k) && p k) = some k := List.find?_range_eq_some.2 ⟨by simp [h1, hp], by simpa using hk, fun j hj => by
    by_cases hj1 : 1 ≤ j
    · simp [hb j hj1 hj]
    · simp [hj1]⟩
  unfold nxt; rw [h]; rfl
theorem nxt_none {p : Nat → Bool} {n : Nat} (hb : ∀ j, 1 ≤ j → j < n → p j = false) : nxt p n = n := by
  have h : (List.range n).find? (fun k => decide (1 ≤ k) && p k) = none := List.find?_range_eq_none.2 fun j hj => by
    by_cases hj1 : 1 ≤ j
    · simp [hb j hj1 hj]
    · simp [hj1]
  unfold nxt; rw [h]; rfl
theorem nxt_spec (p : Nat → Bool) (n : Nat) : (nxt p n = n ∧ ∀ j, 1 ≤ j → j < n → p j = false) ∨ (1 ≤ nxt p n ∧ nxt p n < n ∧ p (nxt p n) = true ∧ ∀ j, 1 ≤ j → j < nxt p n → p j = false) := by
  cases h : (List.range n).find? (fun k => decide (1 ≤ k) && p k) with
  | none =>
    have h2 := List.find?_range_eq_none.1 h
    have hb : ∀ j, 1 ≤ j → j < n → p j = false := fun j hj1 hj => by
      have := h2 j hj
      simpa [hj1] using this
    exact .inl ⟨nxt_none hb, hb⟩
  | some k =>
    obtain ⟨h1, h2, h3⟩ := List.find?_range_eq_some.1 h
    simp only [Bool.and_eq_true, decide_eq_true_eq] at h1
    have e : nxt p n = k := by unfold nxt; rw [h]; rfl
    rw [e]
    refine .inr ⟨h1.1, by simpa using h2, h1.2, fun j hj1 hj => ?_⟩
    have := h3 j hj
    simpa [hj1] using this
theorem nxt_le (p : Nat → Bool) (n : Nat) : nxt p n ≤ n := by
  rcases nxt_spec p n with ⟨h, _⟩ | ⟨_, h, _⟩ <;> omega
theorem nxt_ge {p : Nat → Bool} {n r : Nat} (hr : r ≤ n) : r ≤ nxt p n ↔ ∀ j, 1 ≤ j → j < r → p j = false := by
  rcases nxt_spec p n with ⟨h, hb⟩ | ⟨h1, h2, h3, hb⟩
  · rw [h]; exact ⟨fun _ j h1 h2 => hb j h1 (by omega), fun _ => hr⟩
  · constructor
    · intro h j hj1 hj; exact hb j hj1 (by omega)
    · intro h
      by_cases hlt : nxt p n < r
      · have := h _ h1 hlt; rw [h3] at this; cases this
      · omega

/-- The pins ahead, and behind, on a track. -/
def fwP (d : List Int) (n k t j : Nat) : Bool := pinB d ((k + j) % n) t
def bwP (d : List Int) (n k t j : Nat) : Bool := pinB d ((k + n - j) % n) t
/-- How many steps ahead, or behind, the next pin is. -/
def fwN (d : List Int) (n k t : Nat) : Nat := nxt (fwP d n k t) n
def bwN (d : List Int) (n k t : Nat) : Nat := nxt (bwP d n k t) n
theorem fwN_le (d : List Int) (n k t : Nat) : fwN d n k t ≤ n := nxt_le _ _
theorem bwN_le (d : List Int) (n k t : Nat) : bwN d n k t ≤ n := nxt_le _ _
/-- The least Ready of a track. -/
def rdy (l : List (Int × Int)) (t : Nat) : Int := (l.getD t (0, 0)).2
theorem rdy_at {l : List (Int × Int)} {t : Nat} (h : t < l.length) : rdy l t = l[t].2 := by
  unfold rdy; rw [List.getD_eq_getElem?_getD, List.getElem?_eq_getElem h]; rfl
/-- Does the pin at k, t clash with the next one? -/
def clB (d : List Int) (n : Nat) (l : List (Int × Int)) (k t : Nat) : Bool := decide ((fwN d n k t : Int) < rdy l t)
/-- Is the place free? -/
def frB (d : List Int) (n : Nat) (l : List (Int × Int)) (k t : Nat) : Bool := !pinB d k t && (decide (rdy l t ≤ (fwN d n k t : Int)) && decide (rdy l t ≤ (bwN d n k t : Int)))
theorem frB_iff {d : List Int} {n : Nat} {l : List (Int × Int)} {k t : Nat} (hp : pinB d k t = false) {r : Nat} (hr : rdy l t = (r : Int)) (hrn : r ≤ n) :
    frB d n l k t = true ↔ ∀ j, 1 ≤ j → j < r → fwP d n k t j = false ∧ bwP d n k t j = false := by
  unfold frB fwN bwN
  rw [hp, hr]
  simp only [Bool.not_false, Bool.true_and, Bool.and_eq_true, decide_eq_true_eq, Int.ofNat_le, nxt_ge hrn]
  exact ⟨fun h j h1 h2 => ⟨h.1 j h1 h2, h.2 j h1 h2⟩, fun h => ⟨fun j h1 h2 => (h j h1 h2).1, fun j h1 h2 => (h j h1 h2).2⟩⟩

/-- The pins of a step on the first t tracks; the pins of the first k steps. -/
def rowP (d : List Int) (k t : Nat) : List (Int × Int) := ((List.range t).filter fun i => pinB d k i).map fun (i : Nat) => ((k : Int), (i : Int))
def pinsL (d : List Int) (m k : Nat) : List (Int × Int) := (List.range k).flatMap fun i => rowP d i m
theorem rowP_succ (d : List Int) (k t : Nat) : rowP d k (t + 1) = rowP d k t ++ if pinB d k t then [((k : Int), (t : Int))] else [] := by
  unfold rowP
  rw [List.range_succ, List.filter_append, List.map_append]
  congr 1
  cases h : pinB d k t <;> simp [h]
theorem pinsL_succ (d : List Int) (m k : Nat) : pinsL d m (k + 1) = pinsL d m k ++ rowP d k m := by
  unfold pinsL; rw [List.range_succ, List.flatMap_append, List.flatMap_singleton]
theorem rowP_len (d : List Int) (k t : Nat) : (rowP d k t).length ≤ t := by
  unfold rowP; rw [List.length_map]; exact Nat.le_trans (List.length_filter_le _ _) (by simp)
theorem pinsL_len (d : List Int) (m : Nat) : ∀ k, (pinsL d m k).length ≤ k * m
  | 0 => by simp [pinsL]
  | k + 1 => by rw [pinsL_succ, List.length_append]; have := pinsL_len d m k; have := rowP_len d k m; rw [Nat.succ_mul]; omega
/-- The clashes among pins. -/
def clF (d : List Int) (n : Nat) (l : List (Int × Int)) (L : List (Int × Int)) : List (Int × Int) := L.filter fun p => clB d n l p.1.toNat p.2.toNat
theorem clF_snoc (d : List Int) (n : Nat) (l L : List (Int × Int)) (k t : Nat) : clF d n l (L ++ [((k : Int), (t : Int))]) = clF d n l L ++ if clB d n l k t then [((k : Int), (t : Int))] else [] := by
  unfold clF
  rw [List.filter_append]
  congr 1
  cases h : clB d n l k t <;> simp [h]
theorem clF_append (d : List Int) (n : Nat) (l L M : List (Int × Int)) : clF d n l (L ++ M) = clF d n l L ++ clF d n l M := by unfold clF; rw [List.filter_append]
theorem clF_len (d : List Int) (n : Nat) (l L : List (Int × Int)) : (clF d n l L).length ≤ L.length := List.length_filter_le _ _

/-- The clashes that are known when the steps before k and the tracks before t of step k have been looked at. -/
def clU (d : List Int) (n : Nat) (l : List (Int × Int)) (k t : Nat) : List (Int × Int) := clF d n l (pinsL d l.length k ++ rowP d k t)
def clL (d : List Int) (n : Nat) (l : List (Int × Int)) (k : Nat) : List (Int × Int) := clF d n l (pinsL d l.length k)
theorem clU_zero (d : List Int) (n : Nat) (l : List (Int × Int)) (k : Nat) : clU d n l k 0 = clL d n l k := by simp [clU, clL, rowP]
theorem clU_end (d : List Int) (n : Nat) (l : List (Int × Int)) (k : Nat) : clU d n l k l.length = clL d n l (k + 1) := by unfold clU clL; rw [pinsL_succ]
theorem clL_zero (d : List Int) (n : Nat) (l : List (Int × Int)) : clL d n l 0 = [] := by simp [clL, pinsL, clF]
theorem clU_succ (d : List Int) (n : Nat) (l : List (Int × Int)) (k t : Nat) : clU d n l k (t + 1) = clU d n l k t ++ if pinB d k t && clB d n l k t then [((k : Int), (t : Int))] else [] := by
  unfold clU
  rw [rowP_succ, ← List.append_assoc]
  cases hp : pinB d k t
  · simp
  · simp only [if_true, Bool.true_and]; rw [clF_snoc]
theorem clU_len (d : List Int) (n : Nat) (l : List (Int × Int)) {k t : Nat} (hk : k < 96) (ht : t ≤ 32) (hl : l.length ≤ 32) : (clU d n l k t).length ≤ 1073741824 := by
  unfold clU
  refine Nat.le_trans (clF_len _ _ _ _) ?_
  rw [List.length_append]
  have h1 := pinsL_len d l.length k
  have h2 := rowP_len d k t
  have h3 : k * l.length ≤ 96 * 32 := Nat.mul_le_mul (by omega) hl
  omega
theorem clL_len (d : List Int) (n : Nat) (l : List (Int × Int)) {k : Nat} (hk : k ≤ 96) (hl : l.length ≤ 32) : (clL d n l k).length ≤ 3072 := by
  unfold clL
  refine Nat.le_trans (clF_len _ _ _ _) ?_
  have h1 := pinsL_len d l.length k
  have h3 : k * l.length ≤ 96 * 32 := Nat.mul_le_mul hk hl
  omega

/-- The free steps of a track among the first k; the free tracks with a pitch, for a step, among the first m. -/
def frL (d : List Int) (n : Nat) (l : List (Int × Int)) (t k : Nat) : List Int := ((List.range k).filter fun j => frB d n l j t).map fun (j : Nat) => (j : Int)
theorem frL_zero (d : List Int) (n : Nat) (l : List (Int × Int)) (t : Nat) : frL d n l t 0 = [] := rfl
theorem frL_succ (d : List Int) (n : Nat) (l : List (Int × Int)) (t k : Nat) : frL d n l t (k + 1) = frL d n l t k ++ if frB d n l k t then [(k : Int)] else [] := by
  unfold frL
  rw [List.range_succ, List.filter_append, List.map_append]
  congr 1
  cases h : frB d n l k t <;> simp [h]
theorem frL_len (d : List Int) (n : Nat) (l : List (Int × Int)) (t k : Nat) : (frL d n l t k).length ≤ k := by
  unfold frL; rw [List.length_map]; exact Nat.le_trans (List.length_filter_le _ _) (by simp)
def ftB (d : List Int) (n : Nat) (l : List (Int × Int)) (k : Nat) (p : Int) (i : Nat) : Bool := decide ((l.getD i (0, 0)).1 = p) && frB d n l k i
def ftL (d : List Int) (n : Nat) (l : List (Int × Int)) (k : Nat) (p : Int) (m : Nat) : List Int := ((List.range m).filter fun i => ftB d n l k p i).map fun (j : Nat) => (j : Int)
theorem ftL_zero (d : List Int) (n : Nat) (l : List (Int × Int)) (k : Nat) (p : Int) : ftL d n l k p 0 = [] := rfl
theorem ftL_succ (d : List Int) (n : Nat) (l : List (Int × Int)) (k : Nat) (p : Int) (i : Nat) : ftL d n l k p (i + 1) = ftL d n l k p i ++ if ftB d n l k p i then [(i : Int)] else [] := by
  unfold ftL
  rw [List.range_succ, List.filter_append, List.map_append]
  congr 1
  cases h : ftB d n l k p i <;> simp [h]
theorem ftL_len (d : List Int) (n : Nat) (l : List (Int × Int)) (k : Nat) (p : Int) (m : Nat) : (ftL d n l k p m).length ≤ m := by
  unfold ftL; rw [List.length_map]; exact Nat.le_trans (List.length_filter_le _ _) (by simp)
theorem ftB_at {d : List Int} {n : Nat} {l : List (Int × Int)} {k i : Nat} {p : Int} (h : i < l.length) : ftB d n l k p i = (decide (l[i].1 = p) && frB d n l k i) := by
  unfold ftB; rw [List.getD_eq_getElem?_getD, List.getElem?_eq_getElem h]; rfl

end Go.Proofs.YtnakdlfjjeligaaGreat

/-
  The tune that a drum plays. Plain: no program in it.
-/
namespace Go.Proofs.YtnakdlfjjeligaaGreat
set_option linter.unusedVariables false
set_option linter.unusedSimpArgs false

/-- The note of a pin. -/
def noteP (l : List (Int × Int)) (p : Int × Int) : Int × Int := (p.1, (l.getD p.2.toNat (0, 0)).1)
def tuU (d : List Int) (l : List (Int × Int)) (k t : Nat) : List (Int × Int) := (pinsL d l.length k ++ rowP d k t).map (noteP l)
def tuA (d : List Int) (l : List (Int × Int)) (k : Nat) : List (Int × Int) := (pinsL d l.length k).map (noteP l)
theorem tuU_zero (d : List Int) (l : List (Int × Int)) (k : Nat) : tuU d l k 0 = tuA d l k := by simp [tuU, tuA, rowP]
theorem tuU_end (d : List Int) (l : List (Int × Int)) (k : Nat) : tuU d l k l.length = tuA d l (k + 1) := by unfold tuU tuA; rw [pinsL_succ]
theorem tuA_zero (d : List Int) (l : List (Int × Int)) : tuA d l 0 = [] := by simp [tuA, pinsL]
theorem tuU_no {d : List Int} {l : List (Int × Int)} {k t : Nat} (h : pinB d k t = false) : tuU d l k (t + 1) = tuU d l k t := by
  unfold tuU; rw [rowP_succ, h]; simp
theorem tuU_yes {d : List Int} {l : List (Int × Int)} {k t : Nat} (ht : t < l.length) (h : pinB d k t = true) : tuU d l k (t + 1) = tuU d l k t ++ [((k : Int), l[t].1)] := by
  unfold tuU
  rw [rowP_succ, h, ← List.append_assoc, List.map_append]
  simp [noteP, ht]
theorem tuU_len (d : List Int) (l : List (Int × Int)) {k t : Nat} (hk : k < 96) (ht : t ≤ 32) (hl : l.length ≤ 32) : (tuU d l k t).length ≤ 3104 := by
  unfold tuU
  rw [List.length_map, List.length_append]
  have h1 := pinsL_len d l.length k
  have h2 := rowP_len d k t
  have h3 : k * l.length ≤ 96 * 32 := Nat.mul_le_mul (by omega) hl
  omega
theorem tuA_len (d : List Int) (l : List (Int × Int)) {k : Nat} (hk : k ≤ 96) (hl : l.length ≤ 32) : (tuA d l k).length ≤ 3072 := by
  unfold tuA
  rw [List.length_map]
  have h1 := pinsL_len d l.length k
  have h3 : k * l.length ≤ 96 * 32 := Nat.mul_le_mul hk hl
  omega
theorem tuA_mem {d : List Int} {l : List (Int × Int)} {n : Nat} {x : Int × Int} (h : x ∈ tuA d l n) : ∃ k t : Nat, ∃ ht : t < l.length, k < n ∧ pinB d k t = true ∧ x = ((k : Int), l[t].1) := by
  unfold tuA pinsL at h
  rw [List.mem_map] at h
  obtain ⟨p, hp, rfl⟩ := h
  rw [List.mem_flatMap] at hp
  obtain ⟨k, hk, hp⟩ := hp
  unfold rowP at hp
  rw [List.mem_map] at hp
  obtain ⟨t, ht, rfl⟩ := hp
  rw [List.mem_filter] at ht
  have ht1 : t < l.length := List.mem_range.1 ht.1
  exact ⟨k, t, ht1, List.mem_range.1 hk, ht.2, by simp [noteP, ht1]⟩
theorem tuA_okN {d : List Int} {l : List (Int × Int)} {n : Nat} (hn : n ≤ 96) (hf : okF (n : Int) l = true) : ∀ x ∈ tuA d l n, okN x = true := fun x hx => by
  obtain ⟨k, t, ht, hk, _, rfl⟩ := tuA_mem hx
  have := okF_get hf ht
  rw [okN_iff]
  simp only []
  omega
noncomputable def cTu (s : Int) (l : List (Int × Int)) (d : List Int) : Int := if cD s l d = 0 then cLim (tuA d l s.toNat) else cD s l d
noncomputable def rTu (s : Int) (l : List (Int × Int)) (d : List Int) : List (Int × Int) := if cD s l d = 0 then rLim (tuA d l s.toNat) else []
theorem rTu_len (s : Int) (l : List (Int × Int)) (d : List Int) : (rTu s l d).length ≤ 120 := by
  unfold rTu
  split
  · unfold rLim; split
    · omega
    · simp
  · simp

end Go.Proofs.YtnakdlfjjeligaaGreat
