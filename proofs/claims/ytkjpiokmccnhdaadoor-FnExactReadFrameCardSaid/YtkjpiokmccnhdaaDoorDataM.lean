/-
  Variables beside rows of pairs. No program in it.
-/
import Derived.Test.YtkjpiokmccnhdaaDoorDataD
namespace Go.Proofs.YtkjpiokmccnhdaaDoor
open Go.RowKit
set_option linter.unusedVariables false
set_option linter.unusedSimpArgs false

theorem Own2.ne_var {k1 k2 : IntKind} {E t : TypeId} {w : World} {base b : Nat} {v : Value} {l : List (Int × Int)} {cs : Array Value} (h : Own2 k1 k2 E w base v l) (hv : Var w b cs t) (ht : t ≠ E) : v.ownBlock ≠ some b := by
  rcases h.2 with ⟨rfl, _⟩ | ⟨g, cap, cur, rfl, _, hg, _⟩
  · intro e; cases e
  · intro e
    simp only [Value.ownBlock, Option.some.injEq] at e
    subst e
    unfold Var at hv
    rw [hv] at hg
    simp at hg
    exact ht hg.2
theorem Var.grown {w w' : World} {b : Nat} {cs : Array Value} {t : TypeId} {row : Option Nat} (hv : Var w b cs t) (hg : w.grownBy w' row) (hne : row ≠ some b) : Var w' b cs t := (hg.block b hv.lt (fun e => hne e.symm)).trans hv
theorem Own2.beside {k1 k2 : IntKind} {E t : TypeId} {w : World} {base b : Nat} {v : Value} {l : List (Int × Int)} {cs : Array Value} (h : Own2 k1 k2 E w base v l) (hv : Var w b cs t) (ht : t ≠ E) (i : Nat) (u : Value) : Own2 k1 k2 E (w.setCell ⟨b, i, none⟩ u) base v l :=
  h.apart (gset (g := b) (World.grownBy.refl w (some b)) (.inl rfl) u) (fun k hk e => by
    have := h.ne_var hv ht
    exact this (hk.trans e.symm))

end Go.Proofs.YtkjpiokmccnhdaaDoor
