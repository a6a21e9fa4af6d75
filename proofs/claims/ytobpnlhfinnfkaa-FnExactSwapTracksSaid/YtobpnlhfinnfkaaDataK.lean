/-
  Rows of pairs: appended from slices of other types, cut, cleared; a row with room. No program in it.
-/
import Derived.Test.YtobpnlhfinnfkaaDataJ
import Derived.Lib.AppendZerosOnto
import Derived.Laws.OwnMore
import Derived.Lib.SliceRun
namespace Go.Proofs.Ytobpnlhfinnfkaa
open Go.RowKit
set_option linter.unusedVariables false
set_option linter.unusedSimpArgs false

theorem run_append_types {P : Program} {w : World} {t u ty e e' : TypeId} {i : TypeInfo} (ht : P.underlying t = some (.slice e)) (hu : P.underlying u = some (.slice e')) (hi : P.info? e = some i) (A : Option Addr) (n c : Nat) (y : Value) :
    (Builtin.append_ #[t, u] ty #[.slice A n c, y]).run P w = (Builtin.append_ #[t, t] ty #[.slice A n c, y]).run P w := by
  simp [Builtin.append_, run_underlying ht, run_underlying hu, sizeOf, typeInfo, hi]
theorem run_append_none {P : Program} {w : World} {base : Nat} {t u ty e e' : TypeId} {i : TypeInfo} {size : Nat} (ht : P.underlying t = some (.slice e)) (hu : P.underlying u = some (.slice e')) (hi : P.info? e = some i)
    (v : Value) (n : Nat) (xs : List Value) (hown : w.ownsRow base e size v n xs) (c : Nat) : (Builtin.append_ #[t, u] ty #[v, .slice none 0 c]).run P w = .ok v w := by
  rcases hown.2 with ⟨rfl, rfl⟩ | ⟨g, cap, cur, rfl, _, _, hnc, _⟩
  · simp [Builtin.append_, run_underlying ht, run_underlying hu, sizeOf, typeInfo, hi, Builtin.lenOf, Builtin.firstCells]
  · simp [Builtin.append_, run_underlying ht, run_underlying hu, sizeOf, typeInfo, hi, Builtin.lenOf, Builtin.firstCells, hnc, storeCells]

theorem append_pairsW {P : Program} {w : World} {o : Oper} {a : Act} {K : Act → World → Prop} {Q : Exit → Act → World → Prop} (s x : Operand) (t u : TypeId)
    (ho : o.op = .call { callee := .builtin .append, args := #[s, x], argTypes := #[t, u] }) (e e' : TypeId) (k1 k2 : IntKind) (b : Nat)
    (ht : P.underlying t = some (.slice e)) (hut : P.underlying u = some (.slice e')) (hinfo : (P.info? e).map (fun i => (i.zero, i.size, i.bytes)) = some (some (.agg #[.int k1 0, .int k2 0]), 2, b)) (hb : b ≤ 16)
    (base : Nat) (v : Value) (l : List (Int × Int)) (hs : a.eval s = v) (hown : Own2 k1 k2 e w base v l) (A : Option Addr) (c : Nat) (m : List (Int × Int)) (hx : a.eval x = .slice A m.length c)
    (hm : At2 k1 k2 w A m) (hlen : l.length + m.length ≤ 1073741824) (hbase : base ≤ w.heap.size)
    (h : ∀ A' c' w', Own2 k1 k2 e w' base (.slice A' (l ++ m).length c') (l ++ m) → w.grownBy w' v.ownBlock → K (a.put o.dst (.slice A' (l ++ m).length c')) w') : o.wp P a w K Q := by
  obtain ⟨i, hi, hz0, hz1, hz2⟩ := info_parts hinfo
  cases A with
  | none =>
    have hm0 : m = [] := by
      cases m with
      | nil => rfl
      | cons p m => obtain ⟨g, off, h1, _⟩ := At2.get hm (by simp); cases h1
    subst hm0
    have hrun2 := run_append_none (P := P) (w := w) (ty := o.type) ht hut hi v l.length (flat2 k1 k2 l) hown c
    obtain ⟨A', c', rfl, _, _⟩ := hown.reads
    refine Lib.wp_append_run w s x t u ho _ _ hs hx _ _ hrun2 ?_
    have := h A' c' w (by rw [List.append_nil]; exact hown) (World.grownBy.refl _ _)
    rw [List.append_nil] at this
    exact this
  | some ad =>
    obtain ⟨v', w', hr, ho', hg, _⟩ := run_append_own (P := P) w base t o.type e i _ 2 b ht hi hz0 hz1 hz2 rfl (by decide) v l.length (flat2 k1 k2 l) hown ad m.length c (flat2 k1 k2 m) (length_flat2 _ _ _) (by
      intro j u hu
      have hj := (List.getElem?_eq_some_iff.1 hu).1
      have hne : flat2 k1 k2 m ≠ [] := fun e => by rw [e] at hj; simp at hj
      obtain ⟨g, off, e2, hlt, hc⟩ := hm hne
      simp only [Option.some.injEq] at e2
      subst e2
      have h1 := hc j hj
      rw [(List.getElem?_eq_some_iff.1 hu).2] at h1
      unfold Addr.add
      by_cases h0 : j = 0
      · subst h0; rw [if_pos rfl]; simpa using h1
      · rw [if_neg h0]; exact h1) (flat2_oneCell _ _ _) (by unfold maxLen; omega) (by
      have : (l.length + m.length) * b ≤ 1073741824 * 16 := Nat.mul_le_mul hlen hb
      omega) hbase
    obtain ⟨A0, c0, rfl, _, _⟩ := hown.reads
    rw [← run_append_types ht hut hi] at hr
    refine Lib.wp_append_run w s x t u ho _ _ hs hx _ _ hr ?_
    have ho2 : Own2 k1 k2 e w' base v' (l ++ m) := by
      unfold Own2
      rw [flat2_append, List.length_append]
      exact ho'
    obtain ⟨A', c', rfl, _, _⟩ := ho2.reads
    exact h A' c' w' ho2 hg

theorem append_pairsU {P : Program} {w : World} {ops : Array Oper} {rest : List Oper} {o : Oper} {a : Act} {Q : Exit → Act → World → Prop} (hgd : o.guard = none) (s x : Operand) (t u : TypeId)
    (ho : o.op = .call { callee := .builtin .append, args := #[s, x], argTypes := #[t, u] }) (e e' : TypeId) (k1 k2 : IntKind) (b : Nat)
    (ht : P.underlying t = some (.slice e)) (hut : P.underlying u = some (.slice e')) (hinfo : (P.info? e).map (fun i => (i.zero, i.size, i.bytes)) = some (some (.agg #[.int k1 0, .int k2 0]), 2, b)) (hb : b ≤ 16)
    (base : Nat) (v : Value) (l : List (Int × Int)) (hs : a.eval s = v) (hown : Own2 k1 k2 e w base v l) (A : Option Addr) (c : Nat) (m : List (Int × Int)) (hx : a.eval x = .slice A m.length c)
    (hm : At2 k1 k2 w A m) (hlen : l.length + m.length ≤ 1073741824) (hbase : base ≤ w.heap.size)
    (h : ∀ A' c' w', Own2 k1 k2 e w' base (.slice A' (l ++ m).length c') (l ++ m) → w.grownBy w' v.ownBlock → wpList P ops Q rest (a.put o.dst (.slice A' (l ++ m).length c')) w') : wpList P ops Q (o :: rest) a w := by
  refine wpList_plain hgd fun _ hK => ?_
  exact append_pairsW s x t u ho e e' k1 k2 b ht hut hinfo hb base v l hs hown A c m hx hm hlen hbase (fun A' c' w' h1 h2 => hK _ _ (h A' c' w' h1 h2))

theorem At2.one {k1 k2 : IntKind} (w : World) (p : Int × Int) (E : TypeId) : At2 k1 k2 (w.alloc (.cells #[.int k1 p.1, .int k2 p.2] E)) (some ⟨w.heap.size, 0, none⟩) [p] := Row.lit (w := w) #[.int k1 p.1, .int k2 p.2] E
theorem Own2.shorten {k1 k2 : IntKind} {E : TypeId} {w : World} {base g n c : Nat} {l : List (Int × Int)} (h : Own2 k1 k2 E w base (.slice (some ⟨g, 0, none⟩) n c) l) (hl : l.length = n) {k : Nat} (hk : k ≤ n) :
    Own2 k1 k2 E w base (.slice (some ⟨g, 0, none⟩) k c) (l.take k) := by
  subst hl
  rcases h.2 with ⟨h1, _⟩ | ⟨g', cap, cur, h1, h2, h3, h4, h5, h6, h7⟩
  · cases h1
  · simp only [Value.slice.injEq, Option.some.injEq, Addr.mk.injEq, and_true, true_and] at h1
    obtain ⟨rfl, rfl⟩ := h1
    have e1 : (l.take k).length = k := by rw [List.length_take]; omega
    have e2 : flat2 k1 k2 (l.take k) = (flat2 k1 k2 l).take (k * 2) := by
      have hfl := flat2_append k1 k2 (l.take k) (l.drop k)
      rw [List.take_append_drop] at hfl
      rw [hfl]
      exact (List.take_left' (by rw [length_flat2, e1])).symm
    refine ⟨length_flat2 _ _ _, .inr ⟨g, c, cur, by rw [e1], h2, h3, by omega, h5, h6, ?_⟩⟩
    rw [e1, e2, ← h7, List.take_take, Nat.min_eq_left (by omega)]
theorem Own2.cap {k1 k2 : IntKind} {E : TypeId} {w : World} {base g n c : Nat} {l : List (Int × Int)} (h : Own2 k1 k2 E w base (.slice (some ⟨g, 0, none⟩) n c) l) : n ≤ c := by
  rcases h.2 with ⟨h1, _⟩ | ⟨g', cap, cur, h1, h2, h3, h4, h5, h6, h7⟩
  · cases h1
  · simp only [Value.slice.injEq, Option.some.injEq, Addr.mk.injEq, and_true, true_and] at h1
    obtain ⟨rfl, rfl, rfl⟩ := h1
    exact h4
theorem At2.drop {k1 k2 : IntKind} {w : World} {b off : Nat} {l : List (Int × Int)} (h : At2 k1 k2 w (some ⟨b, off, none⟩) l) (j : Nat) : At2 k1 k2 w (some ⟨b, off + j * 2, none⟩) (l.drop j) := by
  by_cases hj : j < l.length
  · intro _
    have hne : flat2 k1 k2 l ≠ [] := flat2_ne (by omega)
    obtain ⟨b', off', e, hlt, hc⟩ := h hne
    simp only [Option.some.injEq, Addr.mk.injEq, and_true] at e
    obtain ⟨rfl, rfl⟩ := e
    have e2 : flat2 k1 k2 (l.drop j) = (flat2 k1 k2 l).drop (j * 2) := by
      have hfl := flat2_append k1 k2 (l.take j) (l.drop j)
      rw [List.take_append_drop] at hfl
      rw [hfl]
      exact (List.drop_left' (by rw [length_flat2, List.length_take]; omega)).symm
    refine ⟨b, off + j * 2, rfl, hlt, fun i hi => ?_⟩
    have hi2 : j * 2 + i < (flat2 k1 k2 l).length := by rw [length_flat2] at hi ⊢; rw [List.length_drop] at hi; omega
    have := hc (j * 2 + i) hi2
    rw [show off + j * 2 + i = off + (j * 2 + i) by omega, this]
    simp only [e2, List.getElem_drop]
  · rw [List.drop_of_length_le (by omega)]; exact At2.nil _ _ _ _
theorem Own2.setCells {k1 k2 : IntKind} {E : TypeId} {base g n c : Nat} {l : List (Int × Int)} (hl : l.length = n) : ∀ (vs : List Value) (o : Nat) (w : World), n * 2 ≤ o → Own2 k1 k2 E w base (.slice (some ⟨g, 0, none⟩) n c) l →
    Own2 k1 k2 E (w.setCells g o vs) base (.slice (some ⟨g, 0, none⟩) n c) l
  | [], _, _, _, h => h
  | v :: vs, o, w, ho, h => by
    subst hl
    refine Own2.setCells rfl vs (o + 1) _ (by omega) ?_
    have h1 := (World.ownsRow.stored h o v).1
    rw [List.set_eq_of_length_le (by rw [length_flat2]; omega)] at h1
    exact h1
theorem below_cells {B : Nat} {a : World} (g : Nat) (hb : B ≤ g) : ∀ (vs : List Value) (o : Nat) {w : World}, Below B a w → Below B a (w.setCells g o vs)
  | [], _, _, h => h
  | v :: vs, o, w, h => below_cells g hb vs (o + 1) (h.setCell hb v)
/-- 'clear' of a slice of pairs. -/
theorem run_clear_pairs {P : Program} (w : World) (t e ty : TypeId) (k1 k2 : IntKind) (b : Nat) (ht : P.underlying t = some (.slice e)) (hinfo : (P.info? e).map (fun i => (i.zero, i.size, i.bytes)) = some (some (.agg #[.int k1 0, .int k2 0]), 2, b)) (g o n c : Nat)
    (hc : ∀ j, j < n * 2 → (w.cell? ⟨g, o + j, none⟩).isSome = true) (hf : ∀ j, j < n * 2 → w.frozen? ⟨g, o + j, none⟩ = false) :
    ∃ vs, (Builtin.clear_ #[t] ty #[.slice (some ⟨g, o, none⟩) n c]).run P w = .ok (.tuple #[]) (w.setCells g o vs) := by
  obtain ⟨i, hi, hz0, hz1, hz2⟩ := info_parts hinfo
  cases n with
  | zero => exact ⟨[], by simp [Builtin.clear_, run_underlying ht, World.setCells]⟩
  | succ n =>
    refine ⟨(Builtin.zeroCells #[.int k1 0, .int k2 0] (n + 1)).toList, ?_⟩
    have hlen : (Builtin.zeroCells #[.int k1 0, .int k2 0] (n + 1)).toList.length = (n + 1) * 2 := by simp [Builtin.zeroCells]
    have hst := run_storeCells_cells (P := P) g o (Builtin.zeroCells #[.int k1 0, .int k2 0] (n + 1)).toList 0 w (by rw [hlen]; simpa using hc) (by rw [hlen]; simpa using hf) (by
      intro v hv
      simp only [Builtin.zeroCells, Array.toList_map, List.mem_map] at hv
      obtain ⟨j, _, rfl⟩ := hv
      have hj : j % (#[Value.int k1 0, Value.int k2 0] : Array Value).size < 2 := Nat.mod_lt _ (by simp)
      rcases (show j % (#[Value.int k1 0, Value.int k2 0] : Array Value).size = 0 ∨ j % (#[Value.int k1 0, Value.int k2 0] : Array Value).size = 1 by omega) with h | h <;> rw [h] <;> rfl)
    simp only [Nat.add_zero] at hst
    simp [Builtin.clear_, run_underlying ht, zeroValue, typeInfo, hi, hz0, hst, Value.cells]

end Go.Proofs.Ytobpnlhfinnfkaa
