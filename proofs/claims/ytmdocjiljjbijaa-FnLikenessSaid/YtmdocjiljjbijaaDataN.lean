/-
  A whole list of numbers is appended. No program in it.
-/
import Derived.Test.YtmdocjiljjbijaaDataH
import Derived.Lib.AppendZerosOnto
import Derived.Laws.OwnMore
namespace Go.Proofs.Ytmdocjiljjbijaa
open Go.RowKit
set_option linter.unusedVariables false
set_option linter.unusedSimpArgs false

theorem At1.nil (k : IntKind) (w : World) (A : Option Addr) : At1 k w A [] := Row.nil _ _
theorem At1.one {k : IntKind} (w : World) (p : Int) (E : TypeId) : At1 k (w.alloc (.cells #[.int k p] E)) (some ⟨w.heap.size, 0, none⟩) [p] := Row.lit (w := w) #[.int k p] E
theorem append_intsW {P : Program} {w : World} {o : Oper} {a : Act} {K : Act → World → Prop} {Q : Exit → Act → World → Prop} (s x : Operand) (t : TypeId)
    (ho : o.op = .call { callee := .builtin .append, args := #[s, x], argTypes := #[t, t] }) (e : TypeId) (k : IntKind) (b : Nat)
    (ht : P.underlying t = some (.slice e)) (hinfo : (P.info? e).map (fun i => (i.zero, i.size, i.bytes)) = some (some (.int k 0), 1, b)) (hb : b ≤ 16)
    (base : Nat) (v : Value) (l : List Int) (hs : a.eval s = v) (hown : Own1 k e w base v l) (A : Option Addr) (c : Nat) (m : List Int) (hx : a.eval x = .slice A m.length c)
    (hm : At1 k w A m) (hlen : l.length + m.length ≤ 1073741824) (hbase : base ≤ w.heap.size)
    (h : ∀ A' c' w', Own1 k e w' base (.slice A' (l ++ m).length c') (l ++ m) → w.grownBy w' v.ownBlock → K (a.put o.dst (.slice A' (l ++ m).length c')) w') : o.wp P a w K Q := by
  obtain ⟨i, hi, hz0, hz1, hz2⟩ := info_parts1 hinfo
  cases A with
  | none =>
    have hm0 : m = [] := by
      cases m with
      | nil => rfl
      | cons p m => obtain ⟨g, off, h1, _⟩ := hm (by simp); cases h1
    subst hm0
    have hrun : (Builtin.append_ #[t, t] o.type #[v, .slice none 0 c]).run P w = .ok v w := by
      rcases hown.2 with ⟨rfl, _⟩ | ⟨g, cap, cur, rfl, _, _, hnc, _⟩
      · simp [Builtin.append_, run_underlying ht, sizeOf, typeInfo, hi, Builtin.lenOf, Builtin.firstCells]
      · simp [Builtin.append_, run_underlying ht, sizeOf, typeInfo, hi, Builtin.lenOf, Builtin.firstCells, hnc, storeCells]
    obtain ⟨A', c', rfl, _, _⟩ := hown.reads
    refine Lib.wp_append_run w s x t t ho _ _ hs hx _ _ hrun ?_
    have := h A' c' w (by rw [List.append_nil]; exact hown) (World.grownBy.refl _ _)
    rw [List.append_nil] at this
    exact this
  | some ad =>
    obtain ⟨v', w', hr, ho', hg, _⟩ := run_append_own (P := P) w base t o.type e i _ 1 b ht hi hz0 hz1 hz2 rfl (by decide) v l.length (l.map (Value.int k)) hown ad m.length c (m.map (Value.int k)) (by simp) (by
      intro j u hu
      have hj := (List.getElem?_eq_some_iff.1 hu).1
      have hne : m.map (Value.int k) ≠ [] := fun e => by rw [e] at hj; simp at hj
      obtain ⟨g, off, e2, hlt, hc⟩ := hm hne
      simp only [Option.some.injEq] at e2
      subst e2
      have h1 := hc j hj
      rw [(List.getElem?_eq_some_iff.1 hu).2] at h1
      unfold Addr.add
      by_cases h0 : j = 0
      · subst h0; rw [if_pos rfl]; simpa using h1
      · rw [if_neg h0]; exact h1) (by
      intro u hu
      rw [List.mem_map] at hu
      obtain ⟨y, _, rfl⟩ := hu
      rfl) (by unfold maxLen; omega) (by
      have : (l.length + m.length) * b ≤ 1073741824 * 16 := Nat.mul_le_mul hlen hb
      omega) hbase
    obtain ⟨A0, c0, rfl, _, _⟩ := hown.reads
    refine Lib.wp_append_run w s x t t ho _ _ hs hx _ _ hr ?_
    have ho2 : Own1 k e w' base v' (l ++ m) := by
      unfold Own1
      rw [List.map_append, List.length_append]
      exact ho'
    obtain ⟨A', c', rfl, _, _⟩ := ho2.reads
    exact h A' c' w' ho2 hg
theorem append_ints {P : Program} {w : World} {ops : Array Oper} {rest : List Oper} {o : Oper} {a : Act} {Q : Exit → Act → World → Prop} (hgd : Region.wanted o (yielded ops a.tmps) = true) (s x : Operand) (t : TypeId)
    (ho : o.op = .call { callee := .builtin .append, args := #[s, x], argTypes := #[t, t] }) (e : TypeId) (k : IntKind) (b : Nat)
    (ht : P.underlying t = some (.slice e)) (hinfo : (P.info? e).map (fun i => (i.zero, i.size, i.bytes)) = some (some (.int k 0), 1, b)) (hb : b ≤ 16)
    (base : Nat) (v : Value) (l : List Int) (hs : a.eval s = v) (hown : Own1 k e w base v l) (A : Option Addr) (c : Nat) (m : List Int) (hx : a.eval x = .slice A m.length c)
    (hm : At1 k w A m) (hlen : l.length + m.length ≤ 1073741824) (hbase : base ≤ w.heap.size)
    (h : ∀ A' c' w', Own1 k e w' base (.slice A' (l ++ m).length c') (l ++ m) → w.grownBy w' v.ownBlock → wpList P ops Q rest (a.put o.dst (.slice A' (l ++ m).length c')) w') : wpList P ops Q (o :: rest) a w := by
  refine wpList_step fun K hK => ?_
  rw [if_pos hgd]
  exact append_intsW s x t ho e k b ht hinfo hb base v l hs hown A c m hx hm hlen hbase (fun A' c' w' h1 h2 => hK _ _ (h A' c' w' h1 h2))

end Go.Proofs.Ytmdocjiljjbijaa
