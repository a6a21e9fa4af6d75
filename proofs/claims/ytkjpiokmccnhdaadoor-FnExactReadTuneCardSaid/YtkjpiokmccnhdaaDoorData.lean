/-
  How slices lie in memory, as rows of cells, and plain facts on pairs of numbers. No program in it.
-/
import Derived.Test.YtkjpiokmccnhdaaDoorCore
namespace Go.Proofs.YtkjpiokmccnhdaaDoor
open Go.RowKit

/-! ### a row of cells that a slice value reads -/

def Row (w : World) (A : Option Addr) (xs : List Value) : Prop :=
  xs ≠ [] → ∃ b off, A = some ⟨b, off, none⟩ ∧ b < w.heap.size ∧ ∀ j (h : j < xs.length), w.cell? ⟨b, off + j, none⟩ = some xs[j]

theorem Row.nil (w : World) (A : Option Addr) : Row w A [] := fun h => absurd rfl h

theorem Row.below {w w' : World} {A : Option Addr} {xs : List Value} (h : Row w A xs) (hb : Below w.heap.size w w') : Row w' A xs := fun hne => by
  obtain ⟨b, off, e, hlt, hc⟩ := h hne
  exact ⟨b, off, e, by have := hb.size; omega, fun j hj => (hb.cell (p := ⟨b, off + j, none⟩) hlt).trans (hc j hj)⟩

theorem Row.alloc {w : World} {A : Option Addr} {xs : List Value} (h : Row w A xs) (o : Obj) : Row (w.alloc o) A xs := h.below ((Below.refl _ _).alloc (Nat.le_refl _) o)
theorem Row.drew {w : World} {A : Option Addr} {xs : List Value} (h : Row w A xs) : Row w.drew A xs := h

theorem Row.of_own {w : World} {base : Nat} {e : TypeId} {size n : Nat} {v : Value} {xs : List Value} (h : w.ownsRow base e size v n xs) :
    ∃ A c, v = .slice A n c ∧ n ≤ c ∧ Row w A xs := by
  have hl := h.1
  rcases h.2 with ⟨rfl, rfl⟩ | ⟨g, cap, cur, rfl, hb, hg, hn, hm, hs, ht⟩
  · obtain rfl : xs = [] := List.eq_nil_of_length_eq_zero (by simpa using hl)
    exact ⟨none, 0, rfl, Nat.le_refl _, Row.nil _ _⟩
  · refine ⟨some ⟨g, 0, none⟩, cap, rfl, hn, fun _ => ⟨g, 0, rfl, ?_, fun j hj => ?_⟩⟩
    · exact (h.lt g rfl).2
    · have := h.cells (g := g) rfl j xs[j] (List.getElem?_eq_getElem hj)
      have e : (⟨g, 0, none⟩ : Addr).add j = ⟨g, 0 + j, none⟩ := by
        unfold Addr.add
        split
        · subst_vars; rfl
        · rfl
      rwa [e] at this

/-! ### pairs of numbers: a struct of two whole numbers, or an array of two -/

def c2 (k1 k2 : IntKind) (p : Int × Int) : List Value := [.int k1 p.1, .int k2 p.2]
def flat2 (k1 k2 : IntKind) (l : List (Int × Int)) : List Value := l.flatMap (c2 k1 k2)

theorem flat2_nil (k1 k2 : IntKind) : flat2 k1 k2 [] = [] := rfl
theorem flat2_cons (k1 k2 : IntKind) (p : Int × Int) (l : List (Int × Int)) : flat2 k1 k2 (p :: l) = .int k1 p.1 :: .int k2 p.2 :: flat2 k1 k2 l := rfl
theorem flat2_append (k1 k2 : IntKind) (a b : List (Int × Int)) : flat2 k1 k2 (a ++ b) = flat2 k1 k2 a ++ flat2 k1 k2 b := by simp [flat2]
theorem flat2_one (k1 k2 : IntKind) (p : Int × Int) : flat2 k1 k2 [p] = [.int k1 p.1, .int k2 p.2] := rfl
theorem length_flat2 (k1 k2 : IntKind) (l : List (Int × Int)) : (flat2 k1 k2 l).length = l.length * 2 := by
  induction l with
  | nil => rfl
  | cons p l ih => rw [flat2_cons]; simp only [List.length_cons, ih]; omega
theorem flat2_get (k1 k2 : IntKind) (l : List (Int × Int)) (i : Nat) (h : i < l.length) :
    (flat2 k1 k2 l)[i * 2]? = some (.int k1 l[i].1) ∧ (flat2 k1 k2 l)[i * 2 + 1]? = some (.int k2 l[i].2) := by
  induction l generalizing i with
  | nil => cases h
  | cons p l ih =>
    cases i with
    | zero => exact ⟨rfl, rfl⟩
    | succ i =>
      have := ih i (by simpa using h)
      rw [flat2_cons]
      rw [show (i + 1) * 2 = i * 2 + 1 + 1 by omega]
      simpa using this
theorem flat2_set (k1 k2 : IntKind) (l : List (Int × Int)) (i : Nat) (p : Int × Int) :
    ((flat2 k1 k2 l).set (i * 2) (.int k1 p.1)).set (i * 2 + 1) (.int k2 p.2) = flat2 k1 k2 (l.set i p) := by
  induction l generalizing i with
  | nil => rfl
  | cons q l ih =>
    cases i with
    | zero => rfl
    | succ i =>
      have := ih i
      rw [flat2_cons, show (i + 1) * 2 = i * 2 + 1 + 1 by omega]
      simp only [List.set_cons_succ, flat2_cons, this]
theorem flat2_set1 (k1 k2 : IntKind) (l : List (Int × Int)) (i : Nat) (h : i < l.length) (x : Int) :
    (flat2 k1 k2 l).set (i * 2) (.int k1 x) = flat2 k1 k2 (l.set i (x, l[i].2)) := by
  have := flat2_set k1 k2 l i (x, l[i].2)
  rw [← this]
  refine (List.ext_getElem? fun j => ?_)
  by_cases hj : i * 2 + 1 = j
  · subst hj
    rw [List.getElem?_set_ne (by omega), (flat2_get k1 k2 l i h).2, List.getElem?_set_self (by simp [length_flat2]; omega)]
  · rw [List.getElem?_set_ne hj]
theorem flat2_set2 (k1 k2 : IntKind) (l : List (Int × Int)) (i : Nat) (h : i < l.length) (y : Int) :
    (flat2 k1 k2 l).set (i * 2 + 1) (.int k2 y) = flat2 k1 k2 (l.set i (l[i].1, y)) := by
  have := flat2_set k1 k2 l i (l[i].1, y)
  rw [← this]
  refine (List.ext_getElem? fun j => ?_)
  by_cases hj : i * 2 + 1 = j
  · subst hj
    rw [List.getElem?_set_self (by simp [length_flat2]; omega), List.getElem?_set_self (by simp [length_flat2]; omega)]
  · rw [List.getElem?_set_ne hj, List.getElem?_set_ne hj]
    by_cases hj2 : i * 2 = j
    · subst hj2
      rw [(flat2_get k1 k2 l i h).1, List.getElem?_set_self (by simp [length_flat2]; omega)]
    · rw [List.getElem?_set_ne hj2]
theorem flat2_oneCell (k1 k2 : IntKind) (l : List (Int × Int)) : ∀ u ∈ flat2 k1 k2 l, u.oneCell' = true := by
  intro u hu
  obtain ⟨p, _, hp⟩ := List.mem_flatMap.1 hu
  simp only [c2, List.mem_cons, List.not_mem_nil, or_false] at hp
  rcases hp with rfl | rfl <;> rfl
theorem flat2_ne {k1 k2 : IntKind} {l : List (Int × Int)} (h : 0 < l.length) : flat2 k1 k2 l ≠ [] := fun e => by
  have := length_flat2 k1 k2 l
  rw [e] at this
  simp at this
  omega
theorem flat2_replicate (k1 k2 : IntKind) (n : Nat) (p : Int × Int) : flat2 k1 k2 (List.replicate n p) = (List.replicate n (c2 k1 k2 p)).flatten := by
  simp [flat2, List.flatMap, List.map_replicate]

/-- A slice value at A reads the pairs l. -/
def At2 (k1 k2 : IntKind) (w : World) (A : Option Addr) (l : List (Int × Int)) : Prop := Row w A (flat2 k1 k2 l)

theorem At2.get {k1 k2 : IntKind} {w : World} {A : Option Addr} {l : List (Int × Int)} (h : At2 k1 k2 w A l) (hp : 0 < l.length) :
    ∃ b off, A = some ⟨b, off, none⟩ ∧ b < w.heap.size ∧ ∀ i (hi : i < l.length),
      w.cell? ⟨b, off + i * 2, none⟩ = some (.int k1 l[i].1) ∧ w.cell? ⟨b, off + i * 2 + 1, none⟩ = some (.int k2 l[i].2) := by
  obtain ⟨b, off, e, hlt, hc⟩ := h (flat2_ne hp)
  refine ⟨b, off, e, hlt, fun i hi => ?_⟩
  have h1 := flat2_get k1 k2 l i hi
  have hl := length_flat2 k1 k2 l
  refine ⟨(hc (i * 2) (by omega)).trans ?_, (hc (i * 2 + 1) (by omega)).trans ?_⟩
  · rw [← h1.1]; exact (List.getElem?_eq_getElem _).symm
  · rw [← h1.2]; exact (List.getElem?_eq_getElem _).symm
theorem At2.below {k1 k2 : IntKind} {w w' : World} {A : Option Addr} {l : List (Int × Int)} (h : At2 k1 k2 w A l) (hb : Below w.heap.size w w') : At2 k1 k2 w' A l := Row.below h hb
theorem At2.alloc {k1 k2 : IntKind} {w : World} {A : Option Addr} {l : List (Int × Int)} (h : At2 k1 k2 w A l) (o : Obj) : At2 k1 k2 (w.alloc o) A l := Row.alloc h o
theorem At2.drew {k1 k2 : IntKind} {w : World} {A : Option Addr} {l : List (Int × Int)} (h : At2 k1 k2 w A l) : At2 k1 k2 w.drew A l := h
theorem At2.nil (k1 k2 : IntKind) (w : World) (A : Option Addr) : At2 k1 k2 w A [] := Row.nil _ _

/-- A slice value that the call has made, from block base on: it owns the pairs l. -/
def Own2 (k1 k2 : IntKind) (E : TypeId) (w : World) (base : Nat) (v : Value) (l : List (Int × Int)) : Prop := w.ownsRow base E 2 v l.length (flat2 k1 k2 l)

theorem Own2.reads {k1 k2 : IntKind} {E : TypeId} {w : World} {base : Nat} {v : Value} {l : List (Int × Int)} (h : Own2 k1 k2 E w base v l) :
    ∃ A c, v = .slice A l.length c ∧ l.length ≤ c ∧ At2 k1 k2 w A l := Row.of_own h
theorem Own2.below {k1 k2 : IntKind} {E : TypeId} {w w' : World} {base : Nat} {v : Value} {l : List (Int × Int)} (h : Own2 k1 k2 E w base v l) (hb : Below w.heap.size w w') : Own2 k1 k2 E w' base v l :=
  World.ownsRow.kept h (row := none) ⟨hb.os, hb.tape, hb.output, hb.size, fun k hk _ => hb.block k hk⟩ (by cases hv : v.ownBlock <;> simp)
theorem Own2.base_le {k1 k2 : IntKind} {E : TypeId} {w : World} {base base' : Nat} {v : Value} {l : List (Int × Int)} (h : Own2 k1 k2 E w base v l) (hb : base' ≤ base) : Own2 k1 k2 E w base' v l := by
  refine ⟨h.1, ?_⟩
  rcases h.2 with h2 | ⟨g, cap, cur, e, hg, r⟩
  · exact .inl h2
  · exact .inr ⟨g, cap, cur, e, by omega, r⟩

/-! ### rows of one cell an element -/
theorem Row.get {w : World} {A : Option Addr} {xs : List Value} (h : Row w A xs) (hp : 0 < xs.length) :
    ∃ b off, A = some ⟨b, off, none⟩ ∧ b < w.heap.size ∧ ∀ i (hi : i < xs.length), w.cell? ⟨b, off + i, none⟩ = some xs[i] :=
  h (fun e => by rw [e] at hp; simp at hp)
theorem Row.lit {w : World} (cs : Array Value) (t : TypeId) : Row (w.alloc (.cells cs t)) (some ⟨w.heap.size, 0, none⟩) cs.toList := fun _ => by
  refine ⟨w.heap.size, 0, rfl, by simp, fun j hj => ?_⟩
  rw [cell_of_row _ w.heap.size (0 + j) cs t (0, 0) (heap_alloc_new w _)]
  simp at hj ⊢
def At1 (k : IntKind) (w : World) (A : Option Addr) (xs : List Int) : Prop := Row w A (xs.map (Value.int k))
theorem At1.get {k : IntKind} {w : World} {A : Option Addr} {xs : List Int} (h : At1 k w A xs) (hp : 0 < xs.length) :
    ∃ b off, A = some ⟨b, off, none⟩ ∧ b < w.heap.size ∧ ∀ i (hi : i < xs.length), w.cell? ⟨b, off + i, none⟩ = some (.int k xs[i]) := by
  obtain ⟨b, off, e, hb, hc⟩ := Row.get h (by simpa using hp)
  exact ⟨b, off, e, hb, fun i hi => (hc i (by simpa using hi)).trans (by rw [List.getElem_map])⟩
theorem At1.below {k : IntKind} {w w' : World} {A : Option Addr} {xs : List Int} (h : At1 k w A xs) (hb : Below w.heap.size w w') : At1 k w' A xs := Row.below h hb

/-! ### make -/
theorem run_make_rowN {P : Program} (t e : TypeId) (i : TypeInfo) (z : Value) (ht : P.underlying t = some (.slice e)) (hi : P.info? e = some i) (hz : i.zero = some z)
    (kl kc : IntKind) (n c : Nat) (hnc : n ≤ c) (hbytes : i.bytes * c ≤ 281474976710656) (h63 : c ≤ 9223372036854775807) (w : World) :
    (Instr.makeSlice t (.int kl (n : Int)) (.int kc (c : Int))).run P w = .ok (.slice (some ⟨w.heap.size, 0, none⟩) n c) (w.alloc (.cells (madeCells z.cells (c * i.size)) e)) := by
  have hb : (i.bytes : Int) * (c : Int) ≤ 281474976710656 := by
    have h : ((i.bytes * c : Nat) : Int) ≤ 281474976710656 := by omega
    rwa [Int.natCast_mul] at h
  have hr := run_make (P := P) w t e i z ht hi hz kl kc n c (by omega) (by omega) hb (by omega)
  simp only [Int.toNat_natCast] at hr
  exact hr
theorem run_make2 {P : Program} (t e : TypeId) (k1 k2 : IntKind) (b : Nat) (ht : P.underlying t = some (.slice e)) (hi : (P.info? e).map (fun i => (i.zero, i.size, i.bytes)) = some (some (.agg #[.int k1 0, .int k2 0]), 2, b))
    (n : Nat) (hb : b ≤ 16) (hn : n ≤ 1073741824) (w : World) :
    (Instr.makeSlice t (.int .i64 (n : Int)) (.int .i64 (n : Int))).run P w = .ok (.slice (some ⟨w.heap.size, 0, none⟩) n n) (w.alloc (.cells (madeCells #[.int k1 0, .int k2 0] (n * 2)) e)) := by
  obtain ⟨i, h1, h2, h3, h4⟩ := info_parts hi
  have hx : i.bytes * n ≤ 16 * 1073741824 := Nat.mul_le_mul (by omega) hn
  have := run_make_rowN (P := P) t e i _ ht h1 h2 .i64 .i64 n n (Nat.le_refl _) (by omega) (by omega) w
  rw [h3] at this
  exact this
theorem madeCells2 (k1 k2 : IntKind) (n : Nat) : (madeCells #[.int k1 0, .int k2 0] (n * 2)).toList = flat2 k1 k2 (List.replicate n (0, 0)) := by
  refine List.ext_getElem? fun j => ?_
  by_cases hj : j < n * 2
  · have h1 : (madeCells #[.int k1 0, .int k2 0] (n * 2))[j]? = some ((#[.int k1 0, .int k2 0] : Array Value)[j % 2]!) := by
      simp only [madeCells, Array.getElem?_map, Array.getElem?_range]
      simp [hj]
    rw [Array.getElem?_toList, h1]
    have hl : j / 2 < (List.replicate n ((0 : Int), (0 : Int))).length := by simp; omega
    have h2 := flat2_get k1 k2 (List.replicate n (0, 0)) (j / 2) hl
    rcases (by omega : j % 2 = 0 ∨ j % 2 = 1) with h | h
    · rw [h, show j = j / 2 * 2 by omega, h2.1]; simp
    · rw [h, show j = j / 2 * 2 + 1 by omega, h2.2]; simp
  · rw [List.getElem?_eq_none (by simp [madeCells]; omega), List.getElem?_eq_none (by rw [length_flat2]; simp; omega)]
theorem Own2.made {k1 k2 : IntKind} {E : TypeId} {w : World} {base : Nat} (hb : base ≤ w.heap.size) {n : Nat} (hn : n ≤ 1073741824) :
    Own2 k1 k2 E (w.alloc (.cells (madeCells #[.int k1 0, .int k2 0] (n * 2)) E)) base (.slice (some ⟨w.heap.size, 0, none⟩) n n) (List.replicate n (0, 0)) := by
  have := World.ownsRow_lit (base := base) (e := E) (size := 2) w (madeCells #[.int k1 0, .int k2 0] (n * 2)) n hb (by unfold maxLen; omega) (by simp [madeCells])
  rw [madeCells2] at this
  unfold Own2
  rw [List.length_replicate]
  exact this
/-- One element of a slice of the call's own is stored. -/
theorem Own2.store {k1 k2 : IntKind} {E : TypeId} {w : World} {base g n c : Nat} {l : List (Int × Int)} (h : Own2 k1 k2 E w base (.slice (some ⟨g, 0, none⟩) n c) l) (hl : l.length = n) (k : Nat) (p : Int × Int) :
    Own2 k1 k2 E ((w.setCell ⟨g, k * 2, none⟩ (.int k1 p.1)).setCell ⟨g, k * 2 + 1, none⟩ (.int k2 p.2)) base (.slice (some ⟨g, 0, none⟩) n c) (l.set k p) := by
  subst hl
  have h1 := (World.ownsRow.stored h (k * 2) (.int k1 p.1)).1
  have h2 := (World.ownsRow.stored h1 (k * 2 + 1) (.int k2 p.2)).1
  rw [flat2_set] at h2
  unfold Own2
  rw [List.length_set]
  exact h2
theorem Own2.cells {k1 k2 : IntKind} {E : TypeId} {w : World} {base g n c : Nat} {l : List (Int × Int)} (h : Own2 k1 k2 E w base (.slice (some ⟨g, 0, none⟩) n c) l) (k : Nat) (hk : k < l.length) :
    w.cell? ⟨g, k * 2, none⟩ = some (.int k1 l[k].1) ∧ w.cell? ⟨g, k * 2 + 1, none⟩ = some (.int k2 l[k].2) ∧ w.frozen? ⟨g, k * 2, none⟩ = false ∧ w.frozen? ⟨g, k * 2 + 1, none⟩ = false := by
  have hn : n = l.length := by
    rcases h.2 with ⟨h', _⟩ | ⟨g', cap', cur, h', _⟩
    · simp at h'
    · simp only [Value.slice.injEq] at h'; exact h'.2.1
  subst hn
  have h0 := flat2_get k1 k2 l k hk
  exact ⟨(World.ownsRow.cellAt h (k * 2) (by omega)).trans h0.1, (World.ownsRow.cellAt h (k * 2 + 1) (by omega)).trans h0.2, World.ownsRow.frozenAt h _, World.ownsRow.frozenAt h _⟩
theorem Own2.form {k1 k2 : IntKind} {E : TypeId} {w : World} {base n c : Nat} {A : Option Addr} {l : List (Int × Int)} (h : Own2 k1 k2 E w base (.slice A n c) l) (hn : 0 < n) : ∃ g, A = some ⟨g, 0, none⟩ := by
  rcases h.2 with ⟨h', _⟩ | ⟨g', cap', cur, h', _⟩
  · simp at h'; omega
  · simp only [Value.slice.injEq] at h'; exact ⟨g', h'.1⟩
theorem Own2.block {k1 k2 : IntKind} {E : TypeId} {w : World} {base g n c : Nat} {l : List (Int × Int)} (h : Own2 k1 k2 E w base (.slice (some ⟨g, 0, none⟩) n c) l) : base ≤ g ∧ g < w.heap.size := World.ownsRow.lt h g rfl

/-! ### worlds -/
theorem balloc {W w : World} (h : Below W.heap.size W w) (o : Obj) : Below W.heap.size W (w.alloc o) := h.alloc h.size o
theorem bdrew {W w : World} (h : Below W.heap.size W w) : Below W.heap.size W w.drew := h.drew
theorem bdrewN {W w : World} (h : Below W.heap.size W w) (n : Nat) : Below W.heap.size W (w.drewN n) := ⟨h.os, h.tape, h.output, h.size, h.block⟩
theorem bset {W w : World} (h : Below W.heap.size W w) {p : Addr} (hp : W.heap.size ≤ p.block) (u : Value) : Below W.heap.size W (w.setCell p u) := h.setCell hp u
theorem bgrown {W w w' : World} {row : Option Nat} (h : Below W.heap.size W w) (hg : w.grownBy w' row) (hr : ∀ k, row = some k → W.heap.size ≤ k) : Below W.heap.size W w' := h.grown hg h.size hr

theorem gset {a w : World} {g : Nat} (h : a.grownBy w (some g)) {p : Addr} (hp : p.block = g ∨ a.heap.size ≤ p.block) (u : Value) : a.grownBy (w.setCell p u) (some g) :=
  ⟨h.os, h.tape, h.output, by simpa [World.setCell] using h.size, fun i hi hne => (Below.heap_setCell w p u i (by
    rintro rfl
    rcases hp with hp | hp
    · exact hne (by rw [hp])
    · omega)).trans (h.block i hi hne)⟩
theorem gbelow {a w : World} (h : Below a.heap.size a w) (row : Option Nat) : a.grownBy w row := ⟨h.os, h.tape, h.output, h.size, fun i hi _ => h.block i hi⟩
/-- What the call owns stays owned while another of its rows is written. -/
theorem Own2.apart {k1 k2 : IntKind} {E : TypeId} {w w' : World} {base : Nat} {v : Value} {l : List (Int × Int)} {row : Option Nat} (h : Own2 k1 k2 E w base v l) (hg : w.grownBy w' row) (hne : ∀ k, v.ownBlock = some k → row ≠ some k) : Own2 k1 k2 E w' base v l :=
  World.ownsRow.kept h hg (by
    cases hv : v.ownBlock with
    | none => exact .inl rfl
    | some k => exact .inr (fun e => hne k hv e.symm))

theorem Own2.at_ {k1 k2 : IntKind} {E : TypeId} {w : World} {base n c : Nat} {A : Option Addr} {l : List (Int × Int)} (h : Own2 k1 k2 E w base (.slice A n c) l) : At2 k1 k2 w A l := by
  obtain ⟨A', c', e, _, r⟩ := h.reads
  simp only [Value.slice.injEq] at e
  rw [e.1]; exact r
theorem Own2.low {k1 k2 : IntKind} {E : TypeId} {w : World} {base : Nat} {v : Value} {l : List (Int × Int)} (h : Own2 k1 k2 E w base v l) {k : Nat} (hk : v.ownBlock = some k) : base ≤ k := (World.ownsRow.lt h k hk).1
theorem Own2.high {k1 k2 : IntKind} {E : TypeId} {w : World} {base : Nat} {v : Value} {l : List (Int × Int)} (h : Own2 k1 k2 E w base v l) {k : Nat} (hk : v.ownBlock = some k) : k < w.heap.size := (World.ownsRow.lt h k hk).2
/-- Two slices that the call has made, one behind the other, share no row. -/
theorem ne_of_high {v u : Value} {N : Nat} (hv : ∀ k, v.ownBlock = some k → k < N) (hu : ∀ k, u.ownBlock = some k → N ≤ k) : ∀ k, v.ownBlock = some k → u.ownBlock ≠ some k := fun k hk e => by
  have := hv k hk; have := hu k e; omega
theorem ne_of_low {v u : Value} {N : Nat} (hv : ∀ k, v.ownBlock = some k → N ≤ k) (hu : ∀ k, u.ownBlock = some k → k < N) : ∀ k, v.ownBlock = some k → u.ownBlock ≠ some k := fun k hk e => by
  have := hv k hk; have := hu k e; omega

/-! ### variables that the call has boxed -/
theorem cell_new (w : World) (cs : Array Value) (t : TypeId) {i : Nat} {v : Value} (h : cs[i]? = some v) : (w.alloc (.cells cs t)).cell? ⟨w.heap.size, i, none⟩ = some v := by
  rw [cell_of_row _ w.heap.size i cs t (0, 0) (heap_alloc_new w _)]; exact h
theorem box1 {w : World} {cs : Array Value} {t : TypeId} (x : After (w.alloc (.cells cs t))) {i : Nat} {v : Value} (h : cs[i]? = some v) :
    x.w.cell? ⟨w.heap.size, i, none⟩ = some v := (x.cell (by simp)).trans (cell_new w cs t h)
theorem box2a {w : World} {cs ds : Array Value} {t u : TypeId} (x : After ((w.alloc (.cells cs t)).alloc (.cells ds u))) {i : Nat} {v : Value} (h : cs[i]? = some v) :
    x.w.cell? ⟨w.heap.size, i, none⟩ = some v :=
  (x.cell (by simp; omega)).trans ((World.cell?_alloc_lt _ _ ⟨w.heap.size, i, none⟩ (by simp)).trans (cell_new w cs t h))
theorem box2b {w : World} {cs ds : Array Value} {t u : TypeId} (x : After ((w.alloc (.cells cs t)).alloc (.cells ds u))) {i : Nat} {v : Value} (h : ds[i]? = some v) :
    x.w.cell? ⟨w.heap.size + 1, i, none⟩ = some v := by
  have := box1 (w := w.alloc (.cells cs t)) x h
  simpa using this

theorem After.old {w : World} {o : Obj} (x : After (w.alloc o)) {b i : Nat} (h : b < w.heap.size) : x.w.cell? ⟨b, i, none⟩ = w.cell? ⟨b, i, none⟩ :=
  (x.cell (by simp; omega)).trans (World.cell?_alloc_lt w o ⟨b, i, none⟩ h)

/-! ### endings -/
theorem ret_int {k : IntKind} {a b : Int} (h : a = b) : Ending.returned (.int k a) = .returned (.int k b) := by rw [h]
theorem ret_bool {a b : Bool} (h : a = b) : Ending.returned (.bool a) = .returned (.bool b) := by rw [h]

/-! ### append -/
theorem Own2.lit0 {k1 k2 : IntKind} {E : TypeId} {w : World} {base : Nat} (hb : base ≤ w.heap.size) :
    Own2 k1 k2 E (w.alloc (.cells #[] E)) base (.slice (some ⟨w.heap.size, 0, none⟩) 0 0) [] := by
  have := World.ownsRow_lit (base := base) (e := E) (size := 2) w #[] 0 hb (by unfold maxLen; omega) (by simp)
  exact this
theorem Own2.alloc {k1 k2 : IntKind} {E : TypeId} {w : World} {base : Nat} {v : Value} {l : List (Int × Int)} (h : Own2 k1 k2 E w base v l) (o : Obj) : Own2 k1 k2 E (w.alloc o) base v l :=
  h.below ((Below.refl _ _).alloc (Nat.le_refl _) o)
theorem append_pair {P : Program} {w : World} {ops : Array Oper} {rest : List Oper} {o : Oper} {a : Act} {Q : Exit → Act → World → Prop} (hgd : o.guard = none) (s x : Operand) (t : TypeId)
    (ho : o.op = .call { callee := .builtin .append, args := #[s, x], argTypes := #[t, t] }) (e : TypeId) (k1 k2 : IntKind) (b : Nat)
    (ht : P.underlying t = some (.slice e)) (hinfo : (P.info? e).map (fun i => (i.zero, i.size, i.bytes)) = some (some (.agg #[.int k1 0, .int k2 0]), 2, b)) (hb : b ≤ 16)
    (base : Nat) (v : Value) (l : List (Int × Int)) (hs : a.eval s = v) (hown : Own2 k1 k2 e w base v l) (g c : Nat) (p : Int × Int) (hx : a.eval x = .slice (some ⟨g, 0, none⟩) 1 c)
    (hc1 : w.cell? ⟨g, 0, none⟩ = some (.int k1 p.1)) (hc2 : w.cell? ⟨g, 1, none⟩ = some (.int k2 p.2)) (hlen : l.length ≤ 1073741824) (hbase : base ≤ w.heap.size)
    (h : ∀ A' c' w', Own2 k1 k2 e w' base (.slice A' (l ++ [p]).length c') (l ++ [p]) → w.grownBy w' v.ownBlock → wpList P ops Q rest (a.put o.dst (.slice A' (l ++ [p]).length c')) w') : wpList P ops Q (o :: rest) a w := by
  obtain ⟨i, hi, hz0, hz1, hz2⟩ := info_parts hinfo
  refine wpList_append_own w hgd s x t ho base e i _ 2 b ht hi hz0 hz1 hz2 rfl (by decide) v l.length (flat2 k1 k2 l) hs hown ⟨g, 0, none⟩ 1 c [.int k1 p.1, .int k2 p.2] hx rfl ?_ ?_ (by unfold maxLen; omega) ?_ hbase ?_
  · intro j u hu
    match j, hu with
    | 0, hu => simp at hu; subst hu; exact hc1
    | 1, hu => simp at hu; subst hu; exact hc2
    | j + 2, hu => simp at hu
  · intro u hu
    simp at hu
    rcases hu with rfl | rfl <;> rfl
  · have : (l.length + 1) * b ≤ (1073741824 + 1) * 16 := Nat.mul_le_mul (by omega) hb
    omega
  · intro v' w' ho' hg _
    have ho2 : Own2 k1 k2 e w' base v' (l ++ [p]) := by
      unfold Own2
      rw [flat2_append, flat2_one, List.length_append]
      exact ho'
    obtain ⟨A', c', rfl, _, _⟩ := ho2.reads
    exact h A' c' w' ho2 hg

end Go.Proofs.YtkjpiokmccnhdaaDoor
