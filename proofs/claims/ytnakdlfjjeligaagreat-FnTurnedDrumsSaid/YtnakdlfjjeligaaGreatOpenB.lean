/-
  From a slice of bytes among the arguments to its cells.
-/
import Derived.Test.YtnakdlfjjeligaaGreatOpen
import Derived.Test.YtnakdlfjjeligaaGreatData
import Derived.ChangeSlices
import Derived.Deep.CutRange
namespace Go.Proofs.YtnakdlfjjeligaaGreat
open Go.RowKit Go.ChangeShapes Go.WideShapes Go.Deep
set_option linter.unusedVariables false
set_option linter.unusedSimpArgs false

section
variable {H : Type} {enc : TypeId × Value → H} {P : Program} {w : World} {base : Nat} {spare : Nat → Bool} {held : Bool}
/-- A slice of bytes. -/
theorem open_bytes1 {t e : TypeId} {r : Reach} {b0 : Nat} {v : Value} {d : DataW H} {p : List MemPlace} (ht : P.underlying t = some (.slice e)) (he : P.underlying e = some (.int .u8)) (hC : P.cellsOf e = 1)
    (hv : Value.okWide P w r b0 t v) (h : DataW.Trod enc P w base spare held t v d p) :
    ∃ (A : Option Addr) (c : Nat) (l : List Int), v = .slice A l.length c ∧ l.length ≤ maxLen ∧ At1 .u8 w A l ∧ ∀ x ∈ l, 0 ≤ x ∧ x ≤ 255 := by
  obtain ⟨a0, len0, cap0, rfl⟩ := okWide_slice ht hv
  obtain ⟨fuel, hf⟩ := h
  rcases open_ints ht he hC hf with ⟨hcs, _⟩ | ⟨a, len, cap, zs, hcs, hb, hl, hm, hzs, hx, hi, hw⟩
  · have hcs' : a0 = none ∧ len0 = 0 ∧ cap0 = 0 := by simpa [Value.cells] using hcs
    obtain ⟨rfl, rfl, rfl⟩ := hcs'
    exact ⟨none, 0, [], rfl, by simp, At1.nil _ _ _, fun x hx => by cases hx⟩
  · have hcs' : a0 = some a ∧ len0 = len ∧ cap0 = cap := by simpa [Value.cells] using hcs
    obtain ⟨rfl, rfl, rfl⟩ := hcs'
    have hlm : len0 ≤ zs.length := by rw [hzs]; split <;> omega
    have hlen : (zs.take len0).length = len0 := by rw [List.length_take]; omega
    refine ⟨some a, cap0, zs.take len0, by rw [hlen], by rw [hlen]; omega, fun hne => ?_, fun x hx => ?_⟩
    · have hpos : 0 < len0 := by
        rcases Nat.eq_zero_or_pos len0 with h0 | h0
        · subst h0; simp at hne
        · exact h0
      have h0 := hi 0 (by omega)
      have ha := addr_of_cell h0
      have ha0 : a = ⟨a.block, a.off, none⟩ := by simpa [Addr.add] using ha
      have hlt := World.block_lt_of_cell? w _ h0
      rw [ha0] at hi hlt ⊢
      refine ⟨a.block, a.off, rfl, by simpa [Addr.add] using hlt, fun j hj => ?_⟩
      rw [List.length_map, hlen] at hj
      have := hi j (by omega)
      rw [add_plain] at this
      rw [this, List.getElem_map, List.getElem_take]
      simp [List.getD, show j < zs.length by omega]
    · have := hw x (List.mem_of_mem_take hx)
      simpa [Lit.wf, IntKind.min, IntKind.max, IntKind.signed, IntKind.bits] using this
end
end Go.Proofs.YtnakdlfjjeligaaGreat
