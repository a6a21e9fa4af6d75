/-
  Rows of notes and the kit's sort: from one's words to the other's. No program in it.
-/
import Derived.Test.YtnakdlfjjeligaaGreatData
import Derived.Test.YtnakdlfjjeligaaGreatPure
import Derived.Shelf.SlSortCmp.NoneTotal
namespace Go.Proofs.YtnakdlfjjeligaaGreat
open Go.RowKit Go.Sort Go.Shelf
set_option linter.unusedVariables false
set_option linter.unusedSimpArgs false

/-- A note's two cells. -/
def encN (x : Int × Int) : List Value := [.int .i16 x.1, .int .i8 x.2]
theorem encN_len (x : Int × Int) : (encN x).length = 2 := rfl
theorem encN_one (x : Int × Int) : ∀ v ∈ encN x, v.oneCell' = true := by
  intro v hv
  simp only [encN, List.mem_cons, List.not_mem_nil, or_false] at hv
  rcases hv with rfl | rfl <;> rfl
theorem flatK_enc (l : List (Int × Int)) : (flatK encN 2 l.toArray).toList = flat2 .i16 .i8 l := by
  apply List.ext_getElem
  · simp [length_flat2]
  · intro j h1 h2
    rw [length_flat2] at h2
    have hl : j / 2 < l.length := by omega
    have hk := flat2_get .i16 .i8 l (j / 2) hl
    have hg : (flatK encN 2 l.toArray).toList[j] = (flatK encN 2 l.toArray)[j]! := by
      rw [Array.getElem_toList, getElem!_pos]
    rw [hg, get_flatK _ _ _ _ (by simpa using h2)]
    have he : (l.toArray)[j / 2]! = l[j / 2] := by rw [getElem!_pos _ _ (by simpa using hl)]; simp
    rw [he]
    rcases (by omega : j % 2 = 0 ∨ j % 2 = 1) with h | h
    · have := hk.1
      rw [show j / 2 * 2 = j by omega, List.getElem?_eq_getElem (by rw [length_flat2]; omega), Option.some_inj] at this
      rw [h, this]; rfl
    · have := hk.2
      rw [show j / 2 * 2 + 1 = j by omega, List.getElem?_eq_getElem (by rw [length_flat2]; omega), Option.some_inj] at this
      rw [h, this]; rfl
theorem holds_own {E : TypeId} {w : World} {base g c : Nat} {l : List (Int × Int)} (h : Own2 .i16 .i8 E w base (.slice (some ⟨g, 0, none⟩) l.length c) l) : HoldsK encN 2 w g 0 l.toArray := by
  intro j hj
  rw [size_flatK] at hj
  have hj2 : j < l.length * 2 := by simpa using hj
  have h1 := World.ownsRow.cellAt h j hj2
  refine ⟨?_, by rw [Nat.zero_add]; exact World.ownsRow.frozenAt h _⟩
  rw [Nat.zero_add, h1, ← flatK_enc, id]
  rw [List.getElem?_eq_getElem (by simpa using hj2), Array.getElem_toList, getElem!_pos]
theorem take_putId (cur F : Array Value) (h : F.size ≤ cur.size) : (putCells id 0 F cur).toList.take F.size = F.toList := by
  apply List.ext_getElem?
  intro j
  by_cases hj : j < F.size
  · rw [List.getElem?_take_of_lt hj, Array.getElem?_toList]
    simp [putCells, hj, show j < cur.size by omega]
  · rw [List.getElem?_take_eq_none (by omega), List.getElem?_eq_none (by simp; omega)]
/-- Behind the sort the same slice owns the sorted list. -/
theorem own_sorted {E : TypeId} {w : World} {base g c n : Nat} {os : Array Obj} {l m : List (Int × Int)} (hl : m.length = l.length) (h : Own2 .i16 .i8 E w base (.slice (some ⟨g, 0, none⟩) l.length c) l) :
    Own2 .i16 .i8 E (sortWorldK encN 2 w g 0 n m.toArray os) base (.slice (some ⟨g, 0, none⟩) l.length c) m := by
  rcases h.2 with ⟨h1, _⟩ | ⟨g', cap, cur, h1, h2, h3, h4, h5, h6, h7⟩
  · cases h1
  · simp only [Value.slice.injEq, Option.some.injEq, Addr.mk.injEq, and_true, true_and] at h1
    obtain ⟨rfl, rfl⟩ := h1
    have hg : g < w.heap.size := (Array.getElem?_eq_some_iff.1 h3).1
    have hF : (flatK encN 2 m.toArray).size = m.length * 2 := by simp
    refine ⟨length_flat2 _ _ _, .inr ⟨g, c, putCells id 0 (flatK encN 2 m.toArray) cur, by rw [hl], h2, ?_, by omega, h5, by simp [putCells, h6], ?_⟩⟩
    · unfold sortWorldK putRowK
      rw [heap_grow_old _ _ (by simpa using hg)]
      simp [putRow, mapBlock, Sort.ahead, Array.getElem?_modify, h3, onCells]
    · rw [← flatK_enc, ← hF]
      exact take_putId cur _ (by rw [hF, h6]; omega)
theorem below_sorted {w : World} {B g n : Nat} {os : Array Obj} {m : List (Int × Int)} (hB : B ≤ g) (hBw : B ≤ w.heap.size) : Below B w (sortWorldK encN 2 w g 0 n m.toArray os) := by
  refine ⟨rfl, rfl, rfl, by simp [sortWorldK, putRowK], fun k hk => ?_⟩
  unfold sortWorldK putRowK
  rw [heap_grow_old _ _ (by simp; omega)]
  have : g ≠ k := by omega
  simp [putRow, mapBlock, Sort.ahead, Array.getElem?_modify, this]
/-- What a call that lays blocks and draws leaves. -/
theorem grow_of_below {w w' : World} {q : Nat} (h : Below w.heap.size w w') (hd : w'.drawn = w.drawn + q) : ∃ os, w' = grow (w.drewN q) os := by
  refine ⟨w'.heap.extract w.heap.size w'.heap.size, ?_⟩
  have hs := h.size
  have hh : w'.heap = w.heap ++ w'.heap.extract w.heap.size w'.heap.size := by
    apply Array.ext_getElem?
    intro k
    by_cases hk : k < w.heap.size
    · rw [Array.getElem?_append_left hk]; exact h.block k hk
    · rw [Array.getElem?_append_right (by omega), Array.getElem?_extract]
      by_cases hk2 : k < w'.heap.size
      · rw [if_pos (by omega), show w.heap.size + (k - w.heap.size) = k by omega]
      · rw [if_neg (by omega), Array.getElem?_eq_none (by omega)]
  have h1 := h.os
  have h2 := h.tape
  have h3 := h.output
  cases w'
  simp only [grow, World.drewN] at *
  subst h1 h2 h3 hd
  rw [← hh]
theorem ltOf_cmpN : (ltOf fun x y => cmpN x y) = ltN := by
  funext a b
  unfold ltOf ltN cmpN cmpI
  by_cases h1 : a.1 < b.1
  · simp [h1]
  · by_cases h2 : b.1 < a.1
    · have : ¬ a.1 = b.1 := by omega
      simp [h1, h2, this]
    · have h3 : a.1 = b.1 := by omega
      by_cases h4 : a.2 < b.2
      · simp [h3, h4]
      · by_cases h5 : b.2 < a.2
        · simp [h3, h4, h5]
        · simp [h3, h4, h5]
theorem swoN : SWO (ltOf fun x y => cmpN x y) := by
  rw [ltOf_cmpN]
  refine ⟨ltN_irrefl, fun x y z h k => ltN_trans h k, fun x y z h k => ?_⟩
  rw [← Bool.not_eq_true, ltN_iff] at *
  omega

end Go.Proofs.YtnakdlfjjeligaaGreat
