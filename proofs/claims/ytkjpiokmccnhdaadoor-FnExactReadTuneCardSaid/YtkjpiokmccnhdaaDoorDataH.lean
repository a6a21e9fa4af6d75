/-
  Slices of one-cell elements that the call has made: made, appended to, read, written, beside others. No program in it.
-/
import Derived.Test.YtkjpiokmccnhdaaDoorDataD
import Derived.Maps.AppendAt
namespace Go.Proofs.YtkjpiokmccnhdaaDoor
open Go.RowKit
set_option linter.unusedVariables false
set_option linter.unusedSimpArgs false

theorem own_ne_var {w : World} {base b size n : Nat} {e t : TypeId} {v : Value} {xs : List Value} {cs : Array Value} (h : w.ownsRow base e size v n xs) (hv : Var w b cs t) (ht : t ≠ e) : v.ownBlock ≠ some b := by
  rcases h.2 with ⟨rfl, _⟩ | ⟨g, cap, cur, rfl, _, hg, _⟩
  · intro e; cases e
  · intro e
    simp only [Value.ownBlock, Option.some.injEq] at e
    subst e
    unfold Var at hv
    rw [hv] at hg
    simp at hg
    exact ht hg.2
theorem own_ne_own {w : World} {b1 b2 s1 s2 n m : Nat} {e t : TypeId} {v u : Value} {xs ys : List Value} (h : w.ownsRow b1 e s1 v n xs) (k : w.ownsRow b2 t s2 u m ys) (ht : t ≠ e) : ∀ j, v.ownBlock = some j → u.ownBlock ≠ some j := fun j hj => by
  rcases h.2 with ⟨rfl, _⟩ | ⟨g, cap, cur, rfl, _, hg, _⟩
  · cases hj
  · rcases k.2 with ⟨rfl, _⟩ | ⟨g2, cap2, cur2, rfl, _, hg2, _⟩
    · intro e; cases e
    · intro e2
      simp only [Value.ownBlock, Option.some.injEq] at hj e2
      subst hj
      subst e2
      rw [hg2] at hg
      simp at hg
      exact ht hg.2
theorem Var.grownH {w w' : World} {b : Nat} {cs : Array Value} {t : TypeId} {row : Option Nat} (hv : Var w b cs t) (hg : w.grownBy w' row) (hne : row ≠ some b) : Var w' b cs t := (hg.block b hv.lt (fun e => hne e.symm)).trans hv

/-- A slice value that the call has made, from block base on: it owns the numbers l. -/
def Own1 (k : IntKind) (E : TypeId) (w : World) (base : Nat) (v : Value) (l : List Int) : Prop := w.ownsRow base E 1 v l.length (l.map (Value.int k))
theorem Own1.reads {k : IntKind} {E : TypeId} {w : World} {base : Nat} {v : Value} {l : List Int} (h : Own1 k E w base v l) : ∃ A c, v = .slice A l.length c ∧ l.length ≤ c ∧ At1 k w A l := Row.of_own h
theorem Own1.below {k : IntKind} {E : TypeId} {w w' : World} {base : Nat} {v : Value} {l : List Int} (h : Own1 k E w base v l) (hb : Below w.heap.size w w') : Own1 k E w' base v l :=
  World.ownsRow.kept h (row := none) ⟨hb.os, hb.tape, hb.output, hb.size, fun k hk _ => hb.block k hk⟩ (by cases hv : v.ownBlock <;> simp)
theorem Own1.alloc {k : IntKind} {E : TypeId} {w : World} {base : Nat} {v : Value} {l : List Int} (h : Own1 k E w base v l) (o : Obj) : Own1 k E (w.alloc o) base v l := h.below ((Below.refl _ _).alloc (Nat.le_refl _) o)
theorem Own1.apart {k : IntKind} {E : TypeId} {w w' : World} {base : Nat} {v : Value} {l : List Int} {row : Option Nat} (h : Own1 k E w base v l) (hg : w.grownBy w' row) (hne : ∀ k, v.ownBlock = some k → row ≠ some k) : Own1 k E w' base v l :=
  World.ownsRow.kept h hg (by
    cases hv : v.ownBlock with
    | none => exact .inl rfl
    | some k => exact .inr (fun e => hne k hv e.symm))
theorem Own1.base_le {k : IntKind} {E : TypeId} {w : World} {base base' : Nat} {v : Value} {l : List Int} (h : Own1 k E w base v l) (hb : base' ≤ base) : Own1 k E w base' v l := by
  refine ⟨h.1, ?_⟩
  rcases h.2 with h2 | ⟨g, cap, cur, e, hg, r⟩
  · exact .inl h2
  · exact .inr ⟨g, cap, cur, e, by omega, r⟩
theorem Own1.at_ {k : IntKind} {E : TypeId} {w : World} {base n c : Nat} {A : Option Addr} {l : List Int} (h : Own1 k E w base (.slice A n c) l) : At1 k w A l := by
  obtain ⟨A', c', e, _, r⟩ := h.reads
  simp only [Value.slice.injEq] at e
  rw [e.1]; exact r
theorem Own1.low {k : IntKind} {E : TypeId} {w : World} {base : Nat} {v : Value} {l : List Int} (h : Own1 k E w base v l) {j : Nat} (hk : v.ownBlock = some j) : base ≤ j := (World.ownsRow.lt h j hk).1
theorem Own1.high {k : IntKind} {E : TypeId} {w : World} {base : Nat} {v : Value} {l : List Int} (h : Own1 k E w base v l) {j : Nat} (hk : v.ownBlock = some j) : j < w.heap.size := (World.ownsRow.lt h j hk).2
theorem Own1.form {k : IntKind} {E : TypeId} {w : World} {base n c : Nat} {A : Option Addr} {l : List Int} (h : Own1 k E w base (.slice A n c) l) (hn : 0 < n) : ∃ g, A = some ⟨g, 0, none⟩ := by
  rcases h.2 with ⟨h', _⟩ | ⟨g', cap', cur, h', _⟩
  · simp at h'; omega
  · simp only [Value.slice.injEq] at h'; exact ⟨g', h'.1⟩
theorem Own1.nil (k : IntKind) (E : TypeId) (w : World) (base : Nat) : Own1 k E w base (.slice none 0 0) [] := World.ownsRow_nil _ _ _ _
theorem Own1.lit0 {k : IntKind} {E : TypeId} {w : World} {base : Nat} (hb : base ≤ w.heap.size) : Own1 k E (w.alloc (.cells #[] E)) base (.slice (some ⟨w.heap.size, 0, none⟩) 0 0) [] := by
  have := World.ownsRow_lit (base := base) (e := E) (size := 1) w #[] 0 hb (by unfold maxLen; omega) (by simp)
  exact this
theorem Own1.cell {k : IntKind} {E : TypeId} {w : World} {base g n c : Nat} {l : List Int} (h : Own1 k E w base (.slice (some ⟨g, 0, none⟩) n c) l) (j : Nat) (hj : j < l.length) :
    w.cell? ⟨g, j, none⟩ = some (.int k l[j]) ∧ w.frozen? ⟨g, j, none⟩ = false := by
  have hn : n = l.length := by
    rcases h.2 with ⟨h', _⟩ | ⟨g', cap', cur, h', _⟩
    · simp at h'
    · simp only [Value.slice.injEq] at h'; exact h'.2.1
  subst hn
  refine ⟨(World.ownsRow.cellAt h j (by omega)).trans ?_, World.ownsRow.frozenAt h _⟩
  simp [hj]
theorem Own1.store {k : IntKind} {E : TypeId} {w : World} {base g n c : Nat} {l : List Int} (h : Own1 k E w base (.slice (some ⟨g, 0, none⟩) n c) l) (hl : l.length = n) (j : Nat) (x : Int) :
    Own1 k E (w.setCell ⟨g, j, none⟩ (.int k x)) base (.slice (some ⟨g, 0, none⟩) n c) (l.set j x) := by
  subst hl
  have h1 := (World.ownsRow.stored h j (.int k x)).1
  rw [← List.map_set] at h1
  unfold Own1
  rw [List.length_set]
  exact h1
theorem info_parts1 {P : Program} {e : TypeId} {z : Value} {b : Nat} (h : (P.info? e).map (fun i => (i.zero, i.size, i.bytes)) = some (some z, 1, b)) : ∃ i, P.info? e = some i ∧ i.zero = some z ∧ i.size = 1 ∧ i.bytes = b := by
  cases hq : P.info? e with
  | none => simp [hq] at h
  | some i => simp [hq] at h; exact ⟨i, rfl, h.1, h.2.1, h.2.2⟩
theorem append_int {P : Program} {w : World} {ops : Array Oper} {rest : List Oper} {o : Oper} {a : Act} {Q : Exit → Act → World → Prop} (hgd : o.guard = none) (s x : Operand) (t : TypeId)
    (ho : o.op = .call { callee := .builtin .append, args := #[s, x], argTypes := #[t, t] }) (e : TypeId) (k : IntKind) (b : Nat)
    (ht : P.underlying t = some (.slice e)) (hinfo : (P.info? e).map (fun i => (i.zero, i.size, i.bytes)) = some (some (.int k 0), 1, b)) (hb : b ≤ 16)
    (base : Nat) (v : Value) (l : List Int) (hs : a.eval s = v) (hown : Own1 k e w base v l) (g c : Nat) (p : Int) (hx : a.eval x = .slice (some ⟨g, 0, none⟩) 1 c)
    (hc1 : w.cell? ⟨g, 0, none⟩ = some (.int k p)) (hlen : l.length ≤ 1073741824) (hbase : base ≤ w.heap.size)
    (h : ∀ A' c' w', Own1 k e w' base (.slice A' (l ++ [p]).length c') (l ++ [p]) → w.grownBy w' v.ownBlock → wpList P ops Q rest (a.put o.dst (.slice A' (l ++ [p]).length c')) w') : wpList P ops Q (o :: rest) a w := by
  obtain ⟨i, hi, hz0, hz1, hz2⟩ := info_parts1 hinfo
  refine wpList_append_own w hgd s x t ho base e i _ 1 b ht hi hz0 hz1 hz2 rfl (by decide) v l.length (l.map (Value.int k)) hs hown ⟨g, 0, none⟩ 1 c [.int k p] hx rfl ?_ ?_ (by unfold maxLen; omega) ?_ hbase ?_
  · intro j u hu
    match j, hu with
    | 0, hu => simp at hu; subst hu; exact hc1
    | j + 1, hu => simp at hu
  · intro u hu
    simp at hu
    rcases hu with rfl; rfl
  · have : (l.length + 1) * b ≤ (1073741824 + 1) * 16 := Nat.mul_le_mul (by omega) hb
    omega
  · intro v' w' ho' hg _
    have ho2 : Own1 k e w' base v' (l ++ [p]) := by
      unfold Own1
      rw [List.map_append, List.length_append]
      exact ho'
    obtain ⟨A', c', rfl, _, _⟩ := ho2.reads
    exact h A' c' w' ho2 hg

/-- The numbers m, m + 1, .. -/
def markI (n m : Nat) : List Int := (List.range n).map fun i => ((m + i : Nat) : Int)
theorem markI_len (n m : Nat) : (markI n m).length = n := by simp [markI]
theorem markI_get {n m i : Nat} (h : i < (markI n m).length) : (markI n m)[i] = ((m + i : Nat) : Int) := by simp [markI]
/-- A list whose first k numbers are marked. -/
def markQ (l : List Int) (k m : Nat) : List Int := markI k m ++ l.drop k
theorem markQ_len {l : List Int} {k : Nat} (m : Nat) (h : k ≤ l.length) : (markQ l k m).length = l.length := by simp [markQ, markI_len]; omega
theorem markQ_zero (l : List Int) (m : Nat) : markQ l 0 m = l := by simp [markQ, markI]
theorem markQ_end (l : List Int) (m : Nat) : markQ l l.length m = markI l.length m := by simp [markQ]
theorem markQ_set {l : List Int} {k : Nat} (m : Nat) (h : k < l.length) : (markQ l k m).set k ((m + k : Nat) : Int) = markQ l (k + 1) m := by
  unfold markQ
  rw [List.set_append_right _ _ (by rw [markI_len]; exact Nat.le_refl _), markI_len, Nat.sub_self, List.drop_eq_getElem_cons h, List.set_cons_zero]
  have : markI (k + 1) m = markI k m ++ [((m + k : Nat) : Int)] := by unfold markI; rw [List.range_succ, List.map_append]; rfl
  rw [this, List.append_assoc]; rfl

end Go.Proofs.YtkjpiokmccnhdaaDoor
