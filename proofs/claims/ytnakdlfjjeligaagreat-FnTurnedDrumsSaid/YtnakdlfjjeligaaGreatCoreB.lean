/-
  A region of Go's statement whose order is left open, whose first four operations only hand a slot's value on: one walk in the order of the text. Conditions: the program's rule on mixed orders; a Bool over the region.
-/
import Derived.Test.YtnakdlfjjeligaaGreatCore
namespace Go.Proofs.YtnakdlfjjeligaaGreat
open Go.RowKit
set_option linter.unusedVariables false
set_option linter.unusedSimpArgs false

def set4 (n k : Nat) : Array Bool := (List.range k).foldl (fun a i => a.setIfInBounds i true) (Array.replicate n false)
def lexTail4B (md : Region.Mode) (ops : Array Oper) (n : Nat) : Bool :=
  Region.noSelect ops && decide (n < ops.size) && decide (4 ≤ n) && sinkFrom md ops 4 n && Region.chainB md ops n &&
    ((Region.ready md ops (Array.replicate ops.size false)).contains 0 && Region.free md ops (Array.replicate ops.size false) 0) &&
    ((Region.ready md ops ((Array.replicate ops.size false).setIfInBounds 0 true)).contains 1 && Region.free md ops ((Array.replicate ops.size false).setIfInBounds 0 true) 1) &&
    ((Region.ready md ops (((Array.replicate ops.size false).setIfInBounds 0 true).setIfInBounds 1 true)).contains 2 && Region.free md ops (((Array.replicate ops.size false).setIfInBounds 0 true).setIfInBounds 1 true) 2) &&
    ((Region.ready md ops ((((Array.replicate ops.size false).setIfInBounds 0 true).setIfInBounds 1 true).setIfInBounds 2 true)).contains 3 && Region.free md ops ((((Array.replicate ops.size false).setIfInBounds 0 true).setIfInBounds 1 true).setIfInBounds 2 true) 3) &&
    Region.lexHead md ops (ops.size - n) (n - 4) 4 (((((Array.replicate ops.size false).setIfInBounds 0 true).setIfInBounds 1 true).setIfInBounds 2 true).setIfInBounds 3 true)

theorem region_tail4 {P : Program} {id : Nat} {Q : Exit → Act → World → Prop} {a : Act} {w : World} {o0 o1 o2 o3 : Oper} {l : List Oper} (n : Nat) (x0 x1 x2 x3 : Operand)
    (hop0 : o0.op = .move x0) (hg0 : o0.guard = none) (hop1 : o1.op = .move x1) (hg1 : o1.guard = none) (hop2 : o2.op = .move x2) (hg2 : o2.guard = none) (hop3 : o3.op = .move x3) (hg3 : o3.guard = none)
    (hQ0 : ∀ c a v w, Q (.panic c) (Act.put a o0.dst v) w → Q (.panic c) a w) (hQ1 : ∀ c a v w, Q (.panic c) (Act.put a o1.dst v) w → Q (.panic c) a w) (hQ2 : ∀ c a v w, Q (.panic c) (Act.put a o2.dst v) w → Q (.panic c) a w) (hQ3 : ∀ c a v w, Q (.panic c) (Act.put a o3.dst v) w → Q (.panic c) a w) (hm : P.follows .mixedOrders = true) (hB : lexTail4B .any (o0 :: o1 :: o2 :: o3 :: l).toArray n = true)
    {a1 a2 a3 a4 : Act} (e1 : a1 = a.put o0.dst (a.eval x0)) (e2 : a2 = a1.put o1.dst (a1.eval x1)) (e3 : a3 = a2.put o2.dst (a2.eval x2)) (e4 : a4 = a3.put o3.dst (a3.eval x3))
    (h : wpQuiet P (o0 :: o1 :: o2 :: o3 :: l).toArray (fun w' => ∃ x : After w, w' = x.w) (fun a' => ∀ w', Below w.heap.size w w' → wpList P (o0 :: o1 :: o2 :: o3 :: l).toArray Q ((o0 :: o1 :: o2 :: o3 :: l).drop n) a' w') (l.take (n - 4)) a4) :
    (Code.region id (o0 :: o1 :: o2 :: o3 :: l).toArray true).wp P Q a w := by
  simp only [lexTail4B, Bool.and_eq_true, decide_eq_true_eq] at hB
  obtain ⟨⟨⟨⟨⟨⟨⟨⟨⟨hsel, hn⟩, hn4⟩, hs⟩, hc⟩, hr0, hf0⟩, hr1, hf1⟩, hr2, hf2⟩, hr3, hf3⟩, hlex⟩ := hB
  have hn' : n < l.length + 4 := by simpa using hn
  have htl : (l.take (n - 4)).length = n - 4 := by simp; omega
  have hdl : ((o0 :: o1 :: o2 :: o3 :: l).drop n).length = (o0 :: o1 :: o2 :: o3 :: l).toArray.size - n := by simp
  have inv0 : HeadInv .any (o0 :: o1 :: o2 :: o3 :: l).toArray n (Array.replicate (o0 :: o1 :: o2 :: o3 :: l).toArray.size false) :=
    ⟨by simp, fun j oj _ hl => (by rw [getD_replicate_false] at hl; cases hl), fun t _ ht => getD_in (by simpa using ht) (getD_replicate_false _ _)⟩
  have inv1 := inv0.set (by simpa using hr0) (show 0 < n by omega)
  have inv2 := inv1.set (by simpa using hr1) (show 1 < n by omega)
  have inv3 := inv2.set (by simpa using hr2) (show 2 < n by omega)
  have inv4 := inv3.set (by simpa using hr3) (show 3 < n by omega)
  have H := wpAnyT_lex_from (md := .any) (g := (o0 :: o1 :: o2 :: o3 :: l).toArray.size - n) hsel hs hc hn (l.take (n - 4)) 4 _ a4 (Nat.le_refl _) (fun j hj => by
    have hj' : j < n - 4 := by rw [htl] at hj; exact hj
    rw [List.getElem?_take_of_lt hj']
    simp [Nat.add_comm 4 j]) (by rw [htl]; omega) inv4 (by rw [htl]; exact hlex) h
  refine wp_region_any hm ?_
  have := wpAny_of_headT (C := fun w' => ∃ x : After w, w' = x.w) (Q' := Q) (g := (o0 :: o1 :: o2 :: o3 :: l).toArray.size - n) (fun listed a' w' hC hL => by
    obtain ⟨x, rfl⟩ := hC
    have := wpAny_of_seq (md := .any) (Q' := Q) ((o0 :: o1 :: o2 :: o3 :: l).drop n) n listed a' x.w (fun j => by simp [List.getElem?_drop]) (by rw [hdl]; exact hL.1) (hL.2 _ x.below)
    rwa [hdl] at this) _ _ _ { w with drawn := w.drawn + 1 } ⟨⟨w.drew, (Below.refl _ _).drew⟩, rfl⟩ H
  rw [htl, show n - 4 + ((o0 :: o1 :: o2 :: o3 :: l).toArray.size - n) = l.length by simp; omega] at this
  rw [e4] at this
  have H3 := wpAny_take (i := 3) (oi := o3) (v := a3.eval x3) (by simp) hsel hf3 hr3 (fun c a w hh => hQ3 c a _ w hh) (yields_move x3 hop3 hg3) this
  rw [e3] at H3
  have H2 := wpAny_take (i := 2) (oi := o2) (v := a2.eval x2) (by simp) hsel hf2 hr2 (fun c a w hh => hQ2 c a _ w hh) (yields_move x2 hop2 hg2) H3
  rw [e2] at H2
  have H1 := wpAny_take (i := 1) (oi := o1) (v := a1.eval x1) (by simp) hsel hf1 hr1 (fun c a w hh => hQ1 c a _ w hh) (yields_move x1 hop1 hg1) H2
  rw [e1] at H1
  have H0 := wpAny_take (i := 0) (oi := o0) (v := a.eval x0) (by simp) hsel hf0 hr0 (fun c a w hh => hQ0 c a _ w hh) (yields_move x0 hop0 hg0) H1
  simpa using H0

end Go.Proofs.YtnakdlfjjeligaaGreat
