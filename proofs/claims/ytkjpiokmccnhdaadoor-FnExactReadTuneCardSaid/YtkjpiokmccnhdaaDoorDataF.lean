/-
  Memory laws for regions that are walked by hand: a drum that is stored, what stays behind a store. No program in it.
-/
import Derived.Test.YtkjpiokmccnhdaaDoorDataE
import Derived.Deep.Cut
import Derived.Deep.RegionHeld
namespace Go.Proofs.YtkjpiokmccnhdaaDoor
open Go.RowKit
set_option linter.unusedVariables false
set_option linter.unusedSimpArgs false

theorem wp_storeD {P : Program} {o : Oper} {a : Act} {w : World} {K : Act → World → Prop} {Q : Exit → Act → World → Prop} {ty : TypeId} {x y : Operand} {g : Nat} {t : TypeId} {d old : List Int} (ho : o.op = .store ty x y)
    (hg : Var w g (drumV old) t) (hx : a.eval x = .pointer (some ⟨g, 0, none⟩)) (hy : a.eval y = .agg (drumV d)) (hi : (P.info? ty).map (·.size) = some 96) (hd : d.length = 96) (hold : old.length = 96)
    (h : K (a.put o.dst undef) (w.setRow g (drumV d))) : o.wp P a w K Q :=
  wp_store_row ty x y ho g (drumV d) hx hy t (drumV old) hg (by rw [drumV_size, hd]; exact hi) (by rw [drumV_size, drumV_size, hd, hold]) (drumV_one d) h
theorem decide_self {α : Type} [DecidableEq α] (a : α) : decide (a = a) = true := by simp

theorem results_drum_int {P : Program} {fn : Func} {p q : Tmp} {ty e : TypeId} (h : fn.results = #[.cell p ty, .tmp q]) (tmps : Array Value) (w : World) (g : Nat) (t : TypeId) (d : List Int)
    (hp : tmps.getD p undef = .pointer (some ⟨g, 0, none⟩)) (hg : Var w g (drumV d) t) (hu : P.underlying ty = some (.array 96 e)) (hi : (P.info? ty).map (·.size) = some 96) (hd : d.length = 96) :
    (results fn tmps).run P w = .ok (.tuple #[.agg (drumV d), tmps.getD q undef]) w := by
  have hp' : tmps[p]?.getD undef = .pointer (some ⟨g, 0, none⟩) := by simpa using hp
  simp [results, h, hp', asAddr, run_loadVar_row w g t ty (drumV d) (0, 0) _ hg hu rfl (by rw [drumV_size, hd]; exact hi)]

section
variable {P : Program} {l : List Oper} {Q : Exit → Act → World → Prop} {md : Region.Mode} {S : World → Prop}
theorem getL {i : Nat} {o : Oper} {rest : List Oper} (hl : l.drop i = o :: rest) : l.toArray[i]? = some o := by
  have := congrArg (fun x : List Oper => x[0]?) hl
  simpa [List.getElem?_drop] using this
/-- The kit's AllReadyH.cons, the operation written out. -/
theorem readyL {fuel : Nat} {listed : Array Bool} {a : Act} {w : World} {i : Nat} {o : Oper} {rest : List Oper} {rs : List Nat} (hl : l.drop i = o :: rest)
    (h : ∀ K' : Act → World → Prop, Shut (∀ a w, S w → (S w → wpAnyH P md l.toArray Q S fuel (listed.setIfInBounds i true) a w) → K' a w) → if Region.wanted o (yielded l.toArray a.tmps) = true then Oper.wp P o a w K' Q else K' (a.put o.dst undef) w)
    (hs : AllReadyH P md l.toArray Q S fuel listed a w rs) : AllReadyH P md l.toArray Q S fuel listed a w (i :: rs) := AllReadyH.cons (getL hl) h hs
/-- The kit's wpAnyH_take, the operation written out. -/
theorem takeL {i : Nat} {oi : Oper} {rest : List Oper} {v : Value} {fuel : Nat} {listed : Array Bool} {a : Act} {w : World} (hl : l.drop i = oi :: rest)
    (hs : Region.noSelect l.toArray = true) (hf : Region.free md l.toArray listed i = true) (hr : (Region.ready md l.toArray listed).contains i = true)
    (hQ : ∀ c a w, Q (.panic c) (a.put oi.dst v) w → Q (.panic c) a w) (hy : YieldsIf P l.toArray S oi v a) (hw : S w)
    (h : wpAnyH P md l.toArray Q S fuel (listed.setIfInBounds i true) (a.put oi.dst v) w) : wpAnyH P md l.toArray Q S (fuel + 1) listed a w :=
  wpAnyH_take (getL hl) hs hf hr hQ hy hw h
end

end Go.Proofs.YtkjpiokmccnhdaaDoor
