/-
  How frames and drums lie in memory. No program in it.
-/
import Derived.Test.YtkjpiokmccnhdaaDoorData
import Derived.Deep.MidRow
namespace Go.Proofs.YtkjpiokmccnhdaaDoor
open Go.RowKit
set_option linter.unusedVariables false
set_option linter.unusedSimpArgs false

/-- The cells of a drum: an array of 32-bit numbers. -/
@[irreducible] def drumV (d : List Int) : Array Value := (d.map (Value.int .u32)).toArray
theorem drumV_size (d : List Int) : (drumV d).size = d.length := by unfold drumV; simp
theorem drumV_get {d : List Int} {k : Nat} (h : k < d.length) : (drumV d)[k]? = some (.int .u32 d[k]) := by unfold drumV; simp [h]
theorem drumV_set (d : List Int) (k : Nat) (x : Int) : (drumV d).setIfInBounds k (.int .u32 x) = drumV (d.set k x) := by
  unfold drumV; rw [List.map_set]; simp
theorem drumV_list (d : List Int) : (drumV d).toList = d.map (Value.int .u32) := by unfold drumV; rfl
theorem drumV_len (d : List Int) : (drumV d).toList.length = d.length := by unfold drumV; simp
theorem drumV_one (d : List Int) : (drumV d).all (·.oneCell') = true := by
  unfold drumV
  rw [Array.all_eq_true_iff_forall_mem]
  intro v hv
  simp at hv
  obtain ⟨x, _, rfl⟩ := hv
  rfl
theorem drumV_inj {d e : List Int} (h : drumV d = drumV e) : d = e := by
  have h2 : d.map (Value.int .u32) = e.map (Value.int .u32) := by rw [← drumV_list, ← drumV_list, h]
  exact List.map_inj_right (by intro a b hab; simpa using hab) |>.1 h2

/-- A variable of the call's own: block b is known whole. -/
def Var (w : World) (b : Nat) (cs : Array Value) (t : TypeId) : Prop := w.heap[b]? = some (.cells cs t (0, 0))
theorem Var.lt {w : World} {b : Nat} {cs : Array Value} {t : TypeId} (h : Var w b cs t) : b < w.heap.size := (Array.getElem?_eq_some_iff.1 h).1
theorem Var.cell {w : World} {b : Nat} {cs : Array Value} {t : TypeId} (h : Var w b cs t) {i : Nat} {v : Value} (hv : cs[i]? = some v) : w.cell? ⟨b, i, none⟩ = some v := by
  rw [cell_of_row w b i cs t (0, 0) h]; exact hv
theorem Var.frozen {w : World} {b : Nat} {cs : Array Value} {t : TypeId} (h : Var w b cs t) (i : Nat) : w.frozen? ⟨b, i, none⟩ = false := frozen_of_row w b i cs t h
theorem Var.below {w w' : World} {b : Nat} {cs : Array Value} {t : TypeId} (h : Var w b cs t) (hb : Below w.heap.size w w') : Var w' b cs t := (hb.block b h.lt).trans h
theorem Var.new (w : World) (cs : Array Value) (t : TypeId) : Var (w.alloc (.cells cs t)) w.heap.size cs t := heap_alloc_new w _
theorem Var.old {w : World} {b : Nat} {cs : Array Value} {t : TypeId} (h : Var w b cs t) (o : Obj) : Var (w.alloc o) b cs t := (heap_alloc_old w o h.lt).trans h
theorem Var.set {w : World} {b : Nat} {cs : Array Value} {t : TypeId} (h : Var w b cs t) (i : Nat) (v : Value) : Var (w.setCell ⟨b, i, none⟩ v) b (cs.setIfInBounds i v) t := heap_setCell_same w b i cs t v h
theorem Var.other {w : World} {b : Nat} {cs : Array Value} {t : TypeId} (h : Var w b cs t) {p : Addr} (hp : b ≠ p.block) (v : Value) : Var (w.setCell p v) b cs t := (heap_setCell_other w p b v hp).trans h
theorem Var.drew {w : World} {b : Nat} {cs : Array Value} {t : TypeId} (h : Var w b cs t) : Var w.drew b cs t := h

/-- A drum lies in block b. -/
def DrumAt (w : World) (b : Nat) (d : List Int) : Prop := b < w.heap.size ∧ d.length = 96 ∧ ∀ i (h : i < d.length), w.cell? ⟨b, i, none⟩ = some (.int .u32 d[i])
theorem DrumAt.below {w w' : World} {b : Nat} {d : List Int} (h : DrumAt w b d) (hb : Below w.heap.size w w') : DrumAt w' b d :=
  ⟨by have := hb.size; have := h.1; omega, h.2.1, fun i hi => (hb.cell (p := ⟨b, i, none⟩) h.1).trans (h.2.2 i hi)⟩
theorem DrumAt.box {w : World} {d : List Int} (t : TypeId) (h : d.length = 96) : DrumAt (w.alloc (.cells (drumV d) t)) w.heap.size d :=
  ⟨by simp, h, fun i hi => cell_new _ _ _ (drumV_get hi)⟩
theorem DrumAt.alloc {w : World} {b : Nat} {d : List Int} (h : DrumAt w b d) (o : Obj) : DrumAt (w.alloc o) b d := h.below ((Below.refl _ _).alloc (Nat.le_refl _) o)
theorem DrumAt.load {P : Program} {w : World} {b : Nat} {d : List Int} (h : DrumAt w b d) {ty e : TypeId} (hu : P.underlying ty = some (.array 96 e)) (hi : (P.info? ty).map (·.size) = some 96) :
    (Instr.loadAt ty (.pointer (some ⟨b, 0, none⟩))).run P w = .ok (.agg (drumV d)) w := by
  have := run_loadAt_mid (P := P) w b 0 ty (drumV d).toList (.array 96 e) (fun j v hj => by
    have hlt : j < d.length := by
      have := (List.getElem?_eq_some_iff.1 hj).1
      rwa [drumV_len] at this
    rw [Array.getElem?_toList, drumV_get hlt] at hj
    rw [Nat.zero_add, h.2.2 j hlt, hj]) hu rfl (by rw [drumV_len, h.2.1]; exact hi)
  simpa using this

/-- A frame lies in block b: its steps, and its hammers as a slice. -/
def FrameAt (w : World) (b : Nat) (s : Int) (A : Option Addr) (c : Nat) (hs : List (Int × Int)) : Prop :=
  b < w.heap.size ∧ w.cell? ⟨b, 0, none⟩ = some (.int .i16 s) ∧ w.cell? ⟨b, 1, none⟩ = some (.slice A hs.length c)
theorem FrameAt.below {w w' : World} {b : Nat} {s : Int} {A : Option Addr} {c : Nat} {hs : List (Int × Int)} (h : FrameAt w b s A c hs) (hb : Below w.heap.size w w') : FrameAt w' b s A c hs :=
  ⟨by have := hb.size; have := h.1; omega, (hb.cell (p := ⟨b, 0, none⟩) h.1).trans h.2.1, (hb.cell (p := ⟨b, 1, none⟩) h.1).trans h.2.2⟩
theorem FrameAt.alloc {w : World} {b : Nat} {s : Int} {A : Option Addr} {c : Nat} {hs : List (Int × Int)} (h : FrameAt w b s A c hs) (o : Obj) : FrameAt (w.alloc o) b s A c hs := h.below ((Below.refl _ _).alloc (Nat.le_refl _) o)
theorem FrameAt.box {w : World} {s : Int} {A : Option Addr} {c : Nat} {hs : List (Int × Int)} (t : TypeId) : FrameAt (w.alloc (.cells #[.int .i16 s, .slice A hs.length c] t)) w.heap.size s A c hs :=
  ⟨by simp, cell_new _ _ _ rfl, cell_new _ _ _ rfl⟩

theorem Own2.stay {k1 k2 : IntKind} {E : TypeId} {w : World} {base : Nat} {v : Value} {l : List (Int × Int)} (h : Own2 k1 k2 E w base v l) {p : Addr} (hp : p.block < base) (u : Value) : Own2 k1 k2 E (w.setCell p u) base v l :=
  h.apart (gset (g := p.block) (World.grownBy.refl w (some p.block)) (.inl rfl) u) (fun k hk e => by have := h.low hk; simp at e; omega)
theorem keepc {u v : World} {p : Addr} {x : Value} (h : u.cell? p = some x) (hb : Below u.heap.size u v) : v.cell? p = some x :=
  (hb.cell (World.block_lt_of_cell? u p h)).trans h
theorem keepr {u v : World} {b o : Nat} {cs : List Value} (h : u.rangeAt b o cs) (hb : Below u.heap.size u v) : v.rangeAt b o cs := fun j x hj => keepc (h j x hj) hb
theorem Var.drum {w : World} {b : Nat} {d : List Int} {t : TypeId} (h : Var w b (drumV d) t) (hd : d.length = 96) : DrumAt w b d := ⟨h.lt, hd, fun i hi => h.cell (drumV_get hi)⟩
theorem Var.frame {w : World} {b : Nat} {s : Int} {A : Option Addr} {c : Nat} {hs : List (Int × Int)} {t : TypeId} (h : Var w b #[.int .i16 s, .slice A hs.length c] t) : FrameAt w b s A c hs := ⟨h.lt, h.cell rfl, h.cell rfl⟩

end Go.Proofs.YtkjpiokmccnhdaaDoor
