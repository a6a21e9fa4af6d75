/-
  Memory laws for regions that are walked by hand: a drum that is stored, what stays behind a store. No program in it.
-/
import Derived.Test.YtpfcbcmmofombaaDataE
import Derived.Deep.Cut
import Derived.Deep.RegionHeld
namespace Go.Proofs.Ytpfcbcmmofombaa
open Go.RowKit
set_option linter.unusedVariables false
set_option linter.unusedSimpArgs false

theorem wp_storeD {P : Program} {o : Oper} {a : Act} {w : World} {K : Act → World → Prop} {Q : Exit → Act → World → Prop} {ty : TypeId} {x y : Operand} {g : Nat} {t : TypeId} {d old : List Int} (ho : o.op = .store ty x y)
    (hg : Var w g (drumV old) t) (hx : a.eval x = .pointer (some ⟨g, 0, none⟩)) (hy : a.eval y = .agg (drumV d)) (hi : (P.info? ty).map (·.size) = some 96) (hd : d.length = 96) (hold : old.length = 96)
    (h : K (a.put o.dst undef) (w.setRow g (drumV d))) : o.wp P a w K Q :=
  wp_store_row ty x y ho g (drumV d) hx hy t (drumV old) hg (by rw [drumV_size, hd]; exact hi) (by rw [drumV_size, drumV_size, hd, hold]) (drumV_one d) h
theorem decide_self {α : Type} [DecidableEq α] (a : α) : decide (a = a) = true := by simp

end Go.Proofs.Ytpfcbcmmofombaa
