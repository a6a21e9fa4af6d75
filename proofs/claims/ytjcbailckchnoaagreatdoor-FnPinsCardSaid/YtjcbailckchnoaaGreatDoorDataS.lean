/-
  Texts: concatenation, bytes turned into text; slices of texts that the call has made. No program in it.
-/
import Derived.Test.YtjcbailckchnoaaGreatDoorData
import Derived.Laws.IdiomStrings
import Derived.OrdersHeld
import Derived.Lib.Strings
import Derived.Laws.DeepStrings4
import Derived.Laws.Strings3
import Derived.Laws.OwnMore
import Derived.Lib.SliceRun
import Derived.Lib.AppendZerosOnto
import Derived.Laws.Concat
namespace Go.Proofs.YtjcbailckchnoaaGreatDoor
open Go.RowKit
set_option linter.unusedVariables false
set_option linter.unusedSimpArgs false

/-- A text as a value. -/
abbrev txt (l : List UInt8) : Value := .string ⟨l.toArray⟩
theorem txt_nil : txt [] = .string ⟨#[]⟩ := rfl
theorem wp_addS {P : Program} {o : Oper} {a : Act} {w : World} {K : Act → World → Prop} {Q : Exit → Act → World → Prop} {t u : TypeId} {x y : Operand} (p q : List UInt8) (ho : o.op = .binOp .add t x y u)
    (hx : a.eval x = txt p) (hy : a.eval y = txt q) (hp : p.length ≤ 8388608) (hq : q.length ≤ 8388608)
    (h : K (a.put o.dst (txt (p ++ q))) w) : o.wp P a w K Q := by
  unfold Oper.wp execOp
  have h1 := run_string_add_lists (P := P) w p q (by omega) (by omega)
  simp only [ho, hx, hy, txt, binOp_string_add, eqGuard_at_string, Sem.run_bind, h1, Result.andThen_ok, Sem.run_pure]
  exact h
theorem wpList_addS {P : Program} {ops : Array Oper} {rest : List Oper} {o : Oper} {a : Act} {w : World} {Q : Exit → Act → World → Prop} {t u : TypeId} {x y : Operand} (p q : List UInt8) (hw : Region.wanted o (yielded ops a.tmps) = true) (ho : o.op = .binOp .add t x y u)
    (hx : a.eval x = txt p) (hy : a.eval y = txt q) (hp : p.length ≤ 8388608) (hq : q.length ≤ 8388608)
    (h : wpList P ops Q rest (a.put o.dst (txt (p ++ q))) w) : wpList P ops Q (o :: rest) a w :=
  wpList_step fun K hK => by
    rw [if_pos hw]
    exact wp_addS p q ho hx hy hp hq (hK _ _ h)
theorem yieldsIf_addS {P : Program} {ops : Array Oper} {S : World → Prop} {o : Oper} {a : Act} {t u : TypeId} {x y : Operand} (p q : List UInt8) (hw : Region.wanted o (yielded ops a.tmps) = true) (ho : o.op = .binOp .add t x y u)
    (hx : a.eval x = txt p) (hy : a.eval y = txt q) (hp : p.length ≤ 8388608) (hq : q.length ≤ 8388608) : YieldsIf P ops S o (txt (p ++ q)) a :=
  .inl ⟨hw, fun w _ => by
    unfold execOp
    have h1 := run_string_add_lists (P := P) w p q (by omega) (by omega)
    simp only [ho, hx, hy, txt, binOp_string_add, eqGuard_at_string, Sem.run_bind, h1, Result.andThen_ok, Sem.run_pure]⟩
theorem wp_convB {P : Program} {o : Oper} {a : Act} {w : World} {K : Act → World → Prop} {Q : Exit → Act → World → Prop} {s d e : TypeId} {x : Operand} (p : List UInt8) (g c : Nat) (ho : o.op = .convert s d x)
    (hs : P.underlying s = some (.slice e)) (he : P.underlying e = some (.int .u8)) (hd : P.underlying d = some .string) (hx : a.eval x = .slice (some ⟨g, 0, none⟩) p.length c)
    (hc : ∀ j (hj : j < p.length), w.cell? ⟨g, j, none⟩ = some (.int .u8 (p[j].toNat : Int)))
    (h : K (a.put o.dst (txt p)) w) : o.wp P a w K Q := by
  unfold Oper.wp execOp
  have h1 := run_convert_bytes_back (P := P) w s d e ⟨g, 0, none⟩ c p hs he hd (fun j hj => by have h0 := hc j hj; simp only [Addr.add]; split <;> simp_all)
  simp only [ho, hx, h1, Sem.run_bind, Result.andThen_ok, Sem.run_pure]
  exact h
theorem wpList_convB {P : Program} {ops : Array Oper} {rest : List Oper} {o : Oper} {a : Act} {w : World} {Q : Exit → Act → World → Prop} {s d e : TypeId} {x : Operand} (p : List UInt8) (g c : Nat) (hw : Region.wanted o (yielded ops a.tmps) = true) (ho : o.op = .convert s d x)
    (hs : P.underlying s = some (.slice e)) (he : P.underlying e = some (.int .u8)) (hd : P.underlying d = some .string) (hx : a.eval x = .slice (some ⟨g, 0, none⟩) p.length c)
    (hc : ∀ j (hj : j < p.length), w.cell? ⟨g, j, none⟩ = some (.int .u8 (p[j].toNat : Int)))
    (h : wpList P ops Q rest (a.put o.dst (txt p)) w) : wpList P ops Q (o :: rest) a w :=
  wpList_step fun K hK => by
    rw [if_pos hw]
    exact wp_convB p g c ho hs he hd hx hc (hK _ _ h)

def AtS (w : World) (A : Option Addr) (xs : List (List UInt8)) : Prop := Row w A (xs.map txt)
theorem AtS.get {w : World} {A : Option Addr} {xs : List (List UInt8)} (h : AtS w A xs) (hp : 0 < xs.length) :
    ∃ b off, A = some ⟨b, off, none⟩ ∧ b < w.heap.size ∧ ∀ i (hi : i < xs.length), w.cell? ⟨b, off + i, none⟩ = some (txt xs[i]) := by
  obtain ⟨b, off, e, hb, hc⟩ := Row.get h (by simpa using hp)
  exact ⟨b, off, e, hb, fun i hi => by have := hc i (by simpa using hi); simpa using this⟩
theorem AtS.below {w w' : World} {A : Option Addr} {xs : List (List UInt8)} (h : AtS w A xs) (hb : Below w.heap.size w w') : AtS w' A xs := Row.below h hb
/-- A slice value that the call has made, from block base on: it owns the texts l. -/
def OwnS (E : TypeId) (w : World) (base : Nat) (v : Value) (l : List (List UInt8)) : Prop := w.ownsRow base E 1 v l.length (l.map (txt))
theorem OwnS.reads {E : TypeId} {w : World} {base : Nat} {v : Value} {l : List (List UInt8)} (h : OwnS E w base v l) : ∃ A c, v = .slice A l.length c ∧ l.length ≤ c ∧ AtS w A l := Row.of_own h
theorem OwnS.below {E : TypeId} {w w' : World} {base : Nat} {v : Value} {l : List (List UInt8)} (h : OwnS E w base v l) (hb : Below w.heap.size w w') : OwnS E w' base v l :=
  World.ownsRow.kept h (row := none) ⟨hb.os, hb.tape, hb.output, hb.size, fun k hk _ => hb.block k hk⟩ (by cases hv : v.ownBlock <;> simp)
theorem OwnS.alloc {E : TypeId} {w : World} {base : Nat} {v : Value} {l : List (List UInt8)} (h : OwnS E w base v l) (o : Obj) : OwnS E (w.alloc o) base v l := h.below ((Below.refl _ _).alloc (Nat.le_refl _) o)
theorem OwnS.apart {E : TypeId} {w w' : World} {base : Nat} {v : Value} {l : List (List UInt8)} {row : Option Nat} (h : OwnS E w base v l) (hg : w.grownBy w' row) (hne : ∀ k, v.ownBlock = some k → row ≠ some k) : OwnS E w' base v l :=
  World.ownsRow.kept h hg (by
    cases hv : v.ownBlock with
    | none => exact .inl rfl
    | some k => exact .inr (fun e => hne k hv e.symm))
theorem OwnS.base_le {E : TypeId} {w : World} {base base' : Nat} {v : Value} {l : List (List UInt8)} (h : OwnS E w base v l) (hb : base' ≤ base) : OwnS E w base' v l := by
  refine ⟨h.1, ?_⟩
  rcases h.2 with h2 | ⟨g, cap, cur, e, hg, r⟩
  · exact .inl h2
  · exact .inr ⟨g, cap, cur, e, by omega, r⟩
theorem OwnS.at_ {E : TypeId} {w : World} {base n c : Nat} {A : Option Addr} {l : List (List UInt8)} (h : OwnS E w base (.slice A n c) l) : AtS w A l := by
  obtain ⟨A', c', e, _, r⟩ := h.reads
  simp only [Value.slice.injEq] at e
  rw [e.1]; exact r
theorem OwnS.low {E : TypeId} {w : World} {base : Nat} {v : Value} {l : List (List UInt8)} (h : OwnS E w base v l) {j : Nat} (hk : v.ownBlock = some j) : base ≤ j := (World.ownsRow.lt h j hk).1
theorem OwnS.high {E : TypeId} {w : World} {base : Nat} {v : Value} {l : List (List UInt8)} (h : OwnS E w base v l) {j : Nat} (hk : v.ownBlock = some j) : j < w.heap.size := (World.ownsRow.lt h j hk).2
theorem OwnS.form {E : TypeId} {w : World} {base n c : Nat} {A : Option Addr} {l : List (List UInt8)} (h : OwnS E w base (.slice A n c) l) (hn : 0 < n) : ∃ g, A = some ⟨g, 0, none⟩ := by
  rcases h.2 with ⟨h', _⟩ | ⟨g', cap', cur, h', _⟩
  · simp at h'; omega
  · simp only [Value.slice.injEq] at h'; exact ⟨g', h'.1⟩
theorem OwnS.nil (E : TypeId) (w : World) (base : Nat) : OwnS E w base (.slice none 0 0) [] := World.ownsRow_nil _ _ _ _
theorem OwnS.lit0 {E : TypeId} {w : World} {base : Nat} (hb : base ≤ w.heap.size) : OwnS E (w.alloc (.cells #[] E)) base (.slice (some ⟨w.heap.size, 0, none⟩) 0 0) [] := by
  have := World.ownsRow_lit (base := base) (e := E) (size := 1) w #[] 0 hb (by unfold maxLen; omega) (by simp)
  exact this
theorem OwnS.cell {E : TypeId} {w : World} {base g n c : Nat} {l : List (List UInt8)} (h : OwnS E w base (.slice (some ⟨g, 0, none⟩) n c) l) (j : Nat) (hj : j < l.length) :
    w.cell? ⟨g, j, none⟩ = some (txt l[j]) ∧ w.frozen? ⟨g, j, none⟩ = false := by
  have hn : n = l.length := by
    rcases h.2 with ⟨h', _⟩ | ⟨g', cap', cur, h', _⟩
    · simp at h'
    · simp only [Value.slice.injEq] at h'; exact h'.2.1
  subst hn
  refine ⟨(World.ownsRow.cellAt h j (by omega)).trans ?_, World.ownsRow.frozenAt h _⟩
  simp [hj]
theorem OwnS.store {E : TypeId} {w : World} {base g n c : Nat} {l : List (List UInt8)} (h : OwnS E w base (.slice (some ⟨g, 0, none⟩) n c) l) (hl : l.length = n) (j : Nat) (x : List UInt8) :
    OwnS E (w.setCell ⟨g, j, none⟩ (txt x)) base (.slice (some ⟨g, 0, none⟩) n c) (l.set j x) := by
  subst hl
  have h1 := (World.ownsRow.stored h j (txt x)).1
  rw [← List.map_set] at h1
  unfold OwnS
  rw [List.length_set]
  exact h1
theorem append_txt {P : Program} {w : World} {ops : Array Oper} {rest : List Oper} {o : Oper} {a : Act} {Q : Exit → Act → World → Prop} (hgd : o.guard = none) (s x : Operand) (t : TypeId)
    (ho : o.op = .call { callee := .builtin .append, args := #[s, x], argTypes := #[t, t] }) (e : TypeId) (b : Nat)
    (ht : P.underlying t = some (.slice e)) (hinfo : (P.info? e).map (fun i => (i.zero, i.size, i.bytes)) = some (some (txt []), 1, b)) (hb : b ≤ 16)
    (base : Nat) (v : Value) (l : List (List UInt8)) (hs : a.eval s = v) (hown : OwnS e w base v l) (g c : Nat) (p : List UInt8) (hx : a.eval x = .slice (some ⟨g, 0, none⟩) 1 c)
    (hc1 : w.cell? ⟨g, 0, none⟩ = some (txt p)) (hlen : l.length ≤ 1073741824) (hbase : base ≤ w.heap.size)
    (h : ∀ A' c' w', OwnS e w' base (.slice A' (l ++ [p]).length c') (l ++ [p]) → w.grownBy w' v.ownBlock → wpList P ops Q rest (a.put o.dst (.slice A' (l ++ [p]).length c')) w') : wpList P ops Q (o :: rest) a w := by
  obtain ⟨i, hi, hz0, hz1, hz2⟩ := info_parts1 hinfo
  refine wpList_append_own w hgd s x t ho base e i _ 1 b ht hi hz0 hz1 hz2 rfl (by decide) v l.length (l.map (txt)) hs hown ⟨g, 0, none⟩ 1 c [txt p] hx rfl ?_ ?_ (by unfold maxLen; omega) ?_ hbase ?_
  · intro j u hu
    match j, hu with
    | 0, hu => simp at hu; subst hu; exact hc1
    | j + 1, hu => simp at hu
  · intro u hu
    simp at hu
    rcases hu with rfl; rfl
  · have : (l.length + 1) * b ≤ (1073741824 + 1) * 16 := Nat.mul_le_mul (by omega) hb
    omega
  · intro v' w' ho' hg _
    have ho2 : OwnS e w' base v' (l ++ [p]) := by
      unfold OwnS
      rw [List.map_append, List.length_append]
      exact ho'
    obtain ⟨A', c', rfl, _, _⟩ := ho2.reads
    exact h A' c' w' ho2 hg


theorem wp_append_txt {P : Program} {w : World} {o : Oper} {a : Act} {K : Act → World → Prop} {Q : Exit → Act → World → Prop} (s x : Operand) (t : TypeId)
    (ho : o.op = .call { callee := .builtin .append, args := #[s, x], argTypes := #[t, t] }) (e : TypeId) (b : Nat)
    (ht : P.underlying t = some (.slice e)) (hinfo : (P.info? e).map (fun i => (i.zero, i.size, i.bytes)) = some (some (txt []), 1, b)) (hb : b ≤ 16)
    (base : Nat) (v : Value) (l : List (List UInt8)) (hs : a.eval s = v) (hown : OwnS e w base v l) (g c : Nat) (p : List UInt8) (hx : a.eval x = .slice (some ⟨g, 0, none⟩) 1 c)
    (hc1 : w.cell? ⟨g, 0, none⟩ = some (txt p)) (hlen : l.length ≤ 1073741824) (hbase : base ≤ w.heap.size)
    (h : ∀ A' c' w', OwnS e w' base (.slice A' (l ++ [p]).length c') (l ++ [p]) → w.grownBy w' v.ownBlock → K (a.put o.dst (.slice A' (l ++ [p]).length c')) w') : o.wp P a w K Q := by
  obtain ⟨i, hi, hz0, hz1, hz2⟩ := info_parts1 hinfo
  obtain ⟨v', w', hr, ho', hg, _⟩ := run_append_own (P := P) w base t o.type e i _ 1 b ht hi hz0 hz1 hz2 rfl (by decide) v l.length (l.map txt) hown ⟨g, 0, none⟩ 1 c [txt p] rfl (by
    intro j u hu
    match j, hu with
    | 0, hu => simp at hu; subst hu; exact hc1
    | j + 1, hu => simp at hu) (by
    intro u hu
    simp at hu
    rcases hu with rfl; rfl) (by unfold maxLen; omega) (by
    have : (l.length + 1) * b ≤ (1073741824 + 1) * 16 := Nat.mul_le_mul (by omega) hb
    omega) hbase
  obtain ⟨A0, c0, rfl, _, _⟩ := hown.reads
  refine Lib.wp_append_run w s x t t ho _ _ hs hx _ _ hr ?_
  have ho2 : OwnS e w' base v' (l ++ [p]) := by
    unfold OwnS
    rw [List.map_append, List.length_append]
    exact ho'
  obtain ⟨A', c', rfl, _, _⟩ := ho2.reads
  exact h A' c' w' ho2 hg

theorem wpList_idxS {P : Program} {ops : Array Oper} {rest : List Oper} {o : Oper} {a : Act} {w : World} {Q : Exit → Act → World → Prop} {t : TypeId} {x y : Operand} (p : List UInt8) (k : Nat) (hk : k < p.length) (hw : Region.wanted o (yielded ops a.tmps) = true) (ho : o.op = .index t x y)
    (ht : P.underlying t = some .string) (hx : a.eval x = txt p) (hy : a.eval y = .int .i64 (k : Int))
    (h : wpList P ops Q rest (a.put o.dst (.int .u8 (p[k].toNat : Int))) w) : wpList P ops Q (o :: rest) a w :=
  wpList_step fun K hK => by
    rw [if_pos hw]
    unfold Oper.wp execOp
    have h1 := run_index_string (P := P) (w := w) t ⟨p.toArray⟩ .i64 (k : Int) ht
    have hsz : (⟨p.toArray⟩ : ByteArray).size = p.length := by simp [ByteArray.size]
    rw [dif_pos ⟨by omega, by rw [hsz]; omega⟩] at h1
    have h2 : (⟨p.toArray⟩ : ByteArray)[((k : Int)).toNat]'(by rw [hsz]; omega) = p[k] := by simp [ByteArray.getElem_eq_getElem_data]
    rw [h2] at h1
    simp only [ho, hx, hy, txt, h1, Sem.run_bind, Result.andThen_ok, Sem.run_pure]
    exact hK _ _ h
theorem extract_txt (p : List UInt8) (i j : Nat) : (⟨p.toArray⟩ : ByteArray).extract i j = ⟨((p.drop i).take (j - i)).toArray⟩ := by
  have h := Lib.extract_data ⟨p.toArray⟩ i j
  apply ByteArray.ext
  apply Array.toList_inj.1
  rw [h]
theorem wpList_sliceS {P : Program} {ops : Array Oper} {rest : List Oper} {o : Oper} {a : Act} {w : World} {Q : Exit → Act → World → Prop} {t : TypeId} {x y z : Operand} (p : List UInt8) (i j : Nat) (hij : i ≤ j) (hj : j ≤ p.length) (hw : Region.wanted o (yielded ops a.tmps) = true) (ho : o.op = .slice t x (some y) (some z) none)
    (ht : P.underlying t = some .string) (hx : a.eval x = txt p) (hy : a.eval y = .int .i64 (i : Int)) (hz : a.eval z = .int .i64 (j : Int))
    (h : wpList P ops Q rest (a.put o.dst (txt ((p.drop i).take (j - i)))) w) : wpList P ops Q (o :: rest) a w :=
  wpList_step fun K hK => by
    rw [if_pos hw]
    unfold Oper.wp execOp
    have h1 := run_slice_string_if (P := P) w t ⟨p.toArray⟩ .i64 .i64 (i : Int) (j : Int) ht
    have hsz : (⟨p.toArray⟩ : ByteArray).size = p.length := by simp [ByteArray.size]
    rw [if_pos ⟨by omega, by rw [hsz]; omega⟩, if_pos ⟨by omega, by omega⟩, Int.toNat_natCast, Int.toNat_natCast, extract_txt] at h1
    simp only [ho, hx, hy, hz, txt, Option.map_some, Option.map_none, run_sliceAt_string w t _ _ _ _ ht, h1, Sem.run_bind, Result.andThen_ok, Sem.run_pure]
    exact hK _ _ h
theorem wpList_fromS {P : Program} {ops : Array Oper} {rest : List Oper} {o : Oper} {a : Act} {w : World} {Q : Exit → Act → World → Prop} {t : TypeId} {x y : Operand} (p : List UInt8) (i : Nat) (hi : i ≤ p.length) (hw : Region.wanted o (yielded ops a.tmps) = true) (ho : o.op = .slice t x (some y) none none)
    (ht : P.underlying t = some .string) (hx : a.eval x = txt p) (hy : a.eval y = .int .i64 (i : Int))
    (h : wpList P ops Q rest (a.put o.dst (txt (p.drop i))) w) : wpList P ops Q (o :: rest) a w :=
  wpList_step fun K hK => by
    rw [if_pos hw]
    unfold Oper.wp execOp
    have h1 := run_slice_string_from_if (P := P) w t ⟨p.toArray⟩ .i64 (i : Int) ht
    have hsz : (⟨p.toArray⟩ : ByteArray).size = p.length := by simp [ByteArray.size]
    rw [if_pos ⟨by omega, by rw [hsz]; omega⟩, Int.toNat_natCast, hsz, extract_txt, List.take_of_length_le (by simp)] at h1
    simp only [ho, hx, hy, txt, Option.map_some, Option.map_none, run_sliceAt_string w t _ _ _ _ ht, h1, Sem.run_bind, Result.andThen_ok, Sem.run_pure]
    exact hK _ _ h
end Go.Proofs.YtjcbailckchnoaaGreatDoor
