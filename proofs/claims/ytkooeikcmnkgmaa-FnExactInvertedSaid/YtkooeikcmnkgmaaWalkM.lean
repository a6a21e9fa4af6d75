/-
  The walks of moved and made notes; MoveTune and Transpose, in the reference and in the program.
-/
import Derived.Test.YtkooeikcmnkgmaaWalkK
import Derived.Test.YtkooeikcmnkgmaaWalkL
import Derived.Test.YtkooeikcmnkgmaaDataF
import Derived.Lib.LazyBuf
namespace Go.Proofs.Ytkooeikcmnkgmaa
open Go.RowKit
set_option linter.unusedVariables false
set_option linter.unusedSimpArgs false
set_option maxRecDepth 4000

theorem c_CloneN (A : Option Addr) (c : Nat) (l : List (Int × Int)) (base : Nat) (w : World) (h : Own2 .i16 .i8 62 w base (.slice A l.length c) l) (hn : l.length ≤ 1073741824) :
    Calls Try.prog 76 #[.slice A l.length c] w fun e w' => ∃ A' c', e = .returned (.slice A' l.length c') ∧ Own2 .i16 .i8 62 w' w.heap.size (.slice A' l.length c') l ∧ Below w.heap.size w w' := by
  rcases h.2 with ⟨h1, h2⟩ | ⟨g, cap, cur, h1, _⟩
  · have hl : l = [] := List.length_eq_zero_iff.1 h2
    simp only [Value.slice.injEq] at h1
    obtain ⟨rfl, _, rfl⟩ := h1
    subst hl
    have hq : ∀ w, (Go.binOp .eql 24 (.slice none 0 0) (.slice none 0 0)).run Try.prog w = .ok (.bool true) w := fun w => Go.run_eql_slice_nil w _ _ none 0 0 Try.underlying24
    go_enter Try.func76, Try.ntmps76
    go_wp2
    go_ret
    exact ⟨none, 0, rfl, World.ownsRow_nil _ _ _ _, Below.refl _ _⟩
  · simp only [Value.slice.injEq] at h1
    obtain ⟨rfl, _, rfl⟩ := h1
    have hAt := h.at_.alloc (.cells #[] 62)
    have hown2 := Own2.lit0 (k1 := .i16) (k2 := .i8) (E := 62) (w := w) (base := w.heap.size) (Nat.le_refl _)
    have B3 := balloc (Below.refl _ w) (.cells #[] 62)
    have hbs := B3.size
    have hn2 : ([] : List (Int × Int)).length + l.length ≤ 1073741824 := by simpa using hn
    have hq : ∀ w, (Go.binOp .eql 24 (.slice (some ⟨g, 0, none⟩) l.length c) (.slice none 0 0)).run Try.prog w = .ok (.bool false) w := fun w => Go.run_eql_slice_nil w _ _ (some ⟨g, 0, none⟩) _ _ Try.underlying24
    clear h
    go_enter Try.func76, Try.ntmps76
    go_wp2_with (at_builtin; refine append_pairs rfl (.tmp 5) (.tmp 6) 24 rfl 62 .i16 .i8 4 Try.underlying24 info_Note (by decide) w.heap.size _ [] rfl hown2 _ _ l rfl hAt hn2 hbs ?_; intro A3 c3 w3 ho3 hg3)
    go_ret
    exact ⟨A3, c3, rfl, ho3, bgrown B3 hg3 (fun j hj => hown2.low hj)⟩

theorem c_made (A : Option Addr) (c : Nat) (l : List (Int × Int)) (base : Nat) (w : World) (h : Own2 .i16 .i8 62 w base (.slice A l.length c) l) (hok : okT l = true) :
    Calls Try.prog 45 #[.slice A l.length c] w fun e w' => ∃ A' c', e = .returned (.slice A' l.length c') ∧ Own2 .i16 .i8 62 w' w.heap.size (.slice A' l.length c') l ∧ Below w.heap.size w w' := by
  have hl := okT_len hok
  go_enter Try.func45, Try.ntmps45
  go_wp2_with fail
  refine (c_CloneN A c l base _ h (by omega)).mono ?_
  rintro e w1 ⟨A1, c1, rfl, o1, b1⟩
  go_wp2_with fail
  refine (c_SortRise A1 c1 l _ o1.at_ hok).mono ?_
  rintro e w2 ⟨rfl, b2⟩
  go_wp2_with fail
  refine (c_CompactRise A1 c1 l _ (o1.below b2).at_ hok).mono ?_
  rintro e w3 ⟨rfl, b3⟩
  have o3 := (o1.below b2).below b3
  clear o1
  go_wp2
  go_ret
  exact ⟨A1, c1, rfl, o3, bstep (bstep b1 b2) b3⟩



end Go.Proofs.Ytkooeikcmnkgmaa
