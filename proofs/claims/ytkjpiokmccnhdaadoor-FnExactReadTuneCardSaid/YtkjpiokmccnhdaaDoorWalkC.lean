/-
  The walks of the codes: whether tunes are valid, and the first of some codes.
-/
import Derived.Test.YtkjpiokmccnhdaaDoorWalkB
namespace Go.Proofs.YtkjpiokmccnhdaaDoor
open Go.RowKit
set_option linter.unusedVariables false
set_option linter.unusedSimpArgs false
set_option maxRecDepth 4000

/-- A tune as a slice value: where it lies, its capacity, what it reads. -/
abbrev Sl := Option Addr × Nat × List (Int × Int)
def Sl.v (s : Sl) : Value := .slice s.1 s.2.2.length s.2.1
def Sl.ok (w : World) (s : Sl) : Prop := At2 .i16 .i8 w s.1 s.2.2 ∧ Wf s.2.2 ∧ s.2.2.length ≤ 1073741824
theorem Sl.ok.below {w w' : World} {s : Sl} (h : s.ok w) (hb : Below w.heap.size w w') : s.ok w' := ⟨h.1.below hb, h.2⟩
def Tunes (w : World) (A : Option Addr) (ts : List Sl) : Prop := Row w A (ts.map Sl.v) ∧ ∀ s ∈ ts, s.ok w
theorem Tunes.below {w w' : World} {A : Option Addr} {ts : List Sl} (h : Tunes w A ts) (hb : Below w.heap.size w w') : Tunes w' A ts := ⟨h.1.below hb, fun s hs => (h.2 s hs).below hb⟩
theorem Tunes.get {w : World} {A : Option Addr} {ts : List Sl} (h : Tunes w A ts) (hp : 0 < ts.length) :
    ∃ b off, A = some ⟨b, off, none⟩ ∧ b < w.heap.size ∧ ∀ i (hi : i < ts.length), w.cell? ⟨b, off + i, none⟩ = some (.slice ts[i].1 ts[i].2.2.length ts[i].2.1) := by
  obtain ⟨b, off, e, hb, hc⟩ := h.1.get (by simpa using hp)
  exact ⟨b, off, e, hb, fun i hi => (hc i (by simpa using hi)).trans (by rw [List.getElem_map]; rfl)⟩




end Go.Proofs.YtkjpiokmccnhdaaDoor
