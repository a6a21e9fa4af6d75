/-
  A whole list of pairs is appended. No program in it.
-/
import Derived.Test.YtobpnlhfinnfkaaData
namespace Go.Proofs.Ytobpnlhfinnfkaa
open Go.RowKit
set_option linter.unusedVariables false
set_option linter.unusedSimpArgs false

theorem append_pairs {P : Program} {w : World} {ops : Array Oper} {rest : List Oper} {o : Oper} {a : Act} {Q : Exit → Act → World → Prop} (hgd : o.guard = none) (s x : Operand) (t : TypeId)
    (ho : o.op = .call { callee := .builtin .append, args := #[s, x], argTypes := #[t, t] }) (e : TypeId) (k1 k2 : IntKind) (b : Nat)
    (ht : P.underlying t = some (.slice e)) (hinfo : (P.info? e).map (fun i => (i.zero, i.size, i.bytes)) = some (some (.agg #[.int k1 0, .int k2 0]), 2, b)) (hb : b ≤ 16)
    (base : Nat) (v : Value) (l : List (Int × Int)) (hs : a.eval s = v) (hown : Own2 k1 k2 e w base v l) (ad : Addr) (c : Nat) (m : List (Int × Int)) (hx : a.eval x = .slice (some ad) m.length c)
    (hm : At2 k1 k2 w (some ad) m) (hlen : l.length + m.length ≤ 1073741824) (hbase : base ≤ w.heap.size)
    (h : ∀ A' c' w', Own2 k1 k2 e w' base (.slice A' (l ++ m).length c') (l ++ m) → w.grownBy w' v.ownBlock → wpList P ops Q rest (a.put o.dst (.slice A' (l ++ m).length c')) w') : wpList P ops Q (o :: rest) a w := by
  obtain ⟨i, hi, hz0, hz1, hz2⟩ := info_parts hinfo
  refine wpList_append_own w hgd s x t ho base e i _ 2 b ht hi hz0 hz1 hz2 rfl (by decide) v l.length (flat2 k1 k2 l) hs hown ad m.length c (flat2 k1 k2 m) hx (length_flat2 _ _ _) ?_ (flat2_oneCell _ _ _) (by unfold maxLen; omega) ?_ hbase ?_
  · intro j u hu
    have hj := (List.getElem?_eq_some_iff.1 hu).1
    have hne : flat2 k1 k2 m ≠ [] := fun e => by rw [e] at hj; simp at hj
    obtain ⟨g, off, e2, hlt, hc⟩ := hm hne
    simp only [Option.some.injEq] at e2
    subst e2
    have h1 := hc j hj
    rw [(List.getElem?_eq_some_iff.1 hu).2] at h1
    unfold Addr.add
    by_cases h0 : j = 0
    · subst h0; rw [if_pos rfl]; simpa using h1
    · rw [if_neg h0]; exact h1
  · have : (l.length + m.length) * b ≤ 1073741824 * 16 := Nat.mul_le_mul hlen hb
    omega
  · intro v' w' ho' hg _
    have ho2 : Own2 k1 k2 e w' base v' (l ++ m) := by
      unfold Own2
      rw [flat2_append, List.length_append]
      exact ho'
    obtain ⟨A', c', rfl, _, _⟩ := ho2.reads
    exact h A' c' w' ho2 hg

end Go.Proofs.Ytobpnlhfinnfkaa
