/-
  The walks of CodeName, in the reference and in the program.
-/
import Derived.Test.YtkibfahlfnaeoaaWalkA
namespace Go.Proofs.Ytkibfahlfnaeoaa
open Go.RowKit
set_option linter.unusedVariables false
set_option linter.unusedSimpArgs false

def codeName (n : Int) : ByteArray := match n.toNat with
  | 0 => ⟨#[111, 107]⟩
  | 1 => ⟨#[105, 110, 118, 97, 108, 105, 100]⟩
  | 2 => ⟨#[114, 97, 110, 103, 101]⟩
  | 3 => ⟨#[108, 105, 109, 105, 116]⟩
  | 4 => ⟨#[115, 116, 97, 116, 101]⟩
  | 5 => ⟨#[115, 121, 110, 116, 97, 120]⟩
  | 6 => ⟨#[110, 111, 116, 102, 111, 117, 110, 100]⟩
  | 7 => ⟨#[98, 117, 100, 103, 101, 116]⟩
  | _ => ⟨#[112, 114, 111, 111, 102]⟩
def rCodeName (n : Int) : ByteArray := if inB n 0 8 then codeName n else ⟨#[]⟩

theorem codeCell (w : World) (T : TypeId) (m : Nat) (hm : m ≤ 8) : (w.alloc (.cells #[.string ⟨#[111, 107]⟩, .string ⟨#[105, 110, 118, 97, 108, 105, 100]⟩, .string ⟨#[114, 97, 110, 103, 101]⟩, .string ⟨#[108, 105, 109, 105, 116]⟩, .string ⟨#[115, 116, 97, 116, 101]⟩, .string ⟨#[115, 121, 110, 116, 97, 120]⟩, .string ⟨#[110, 111, 116, 102, 111, 117, 110, 100]⟩, .string ⟨#[98, 117, 100, 103, 101, 116]⟩, .string ⟨#[112, 114, 111, 111, 102]⟩] T)).cell? ⟨w.heap.size, m, none⟩ = some (.string (codeName (m : Int))) := by
  match m, hm with
  | 0, _ | 1, _ | 2, _ | 3, _ | 4, _ | 5, _ | 6, _ | 7, _ | 8, _ => exact cell_new _ _ _ rfl

theorem c_specCodeName (n : Int) (w : World) :
    Calls Try.prog 15 #[.int .i64 n] w fun e w' => e = .returned (.string (rCodeName n)) ∧ Below w.heap.size w w' := by
  rcases h1 : inB n 0 8 with _ | _
  · go_enter Try.func15, Try.ntmps15
    go_wp2_with (go_at_call 42; refine (c_l00In _ _ _ _).mono ?_; rintro e w' ⟨rfl, rfl⟩)
    go_ret
    exact ⟨by simp [rCodeName, h1], balloc (Below.refl _ _) _⟩
  · have h2 := inB_iff.1 h1
    obtain ⟨m, rfl⟩ : ∃ m : Nat, n = (m : Int) := ⟨n.toNat, by omega⟩
    have hm : m ≤ 8 := by omega
    have x1 := codeCell w 9 m hm
    have hr : rCodeName (m : Int) = codeName (m : Int) := by simp [rCodeName, h1]
    have HR := Lib.hid hr; clear hr
    go_enter Try.func15, Try.ntmps15
    go_wp2_with (go_at_call 42; refine (c_l00In _ _ _ _).mono ?_; rintro e w' ⟨rfl, rfl⟩)
    go_ret
    rw [HR.out]
    exact ⟨rfl, balloc (Below.refl _ _) _⟩

theorem c_sizeString (A : Option Addr) (n c : Nat) (w : World) (hn : n ≤ 1073741824) :
    Calls Try.prog 44 #[.slice A n c] w fun e w' => e = .returned (.int .i64 (n : Int)) ∧ w = w' := by
  go_enter Try.func44, Try.ntmps44
  go_wp2
  go_ret
  exact ⟨rfl, rfl⟩

theorem c_implCodeName (n : Int) (w : World) :
    Calls Try.prog 16 #[.int .i64 n] w fun e w' => e = .returned (.string (rCodeName n)) ∧ Below w.heap.size w w' := by
  rcases h1 : inB n 0 8 with _ | _
  · go_enter Try.func16, Try.ntmps16
    go_wp2_with fail
    refine (c_sizeString _ 9 _ _ (by omega)).mono ?_
    rintro e w' ⟨rfl, rfl⟩
    go_wp2_with fail
    refine (c_within n 0 8 _).mono ?_
    rintro e w' ⟨rfl, rfl⟩
    go_wp2
    go_ret
    exact ⟨by simp [rCodeName, h1], balloc (Below.refl _ _) _⟩
  · have h2 := inB_iff.1 h1
    obtain ⟨m, rfl⟩ : ∃ m : Nat, n = (m : Int) := ⟨n.toNat, by omega⟩
    have hm : m ≤ 8 := by omega
    have x1 := codeCell w 9 m hm
    have hr : rCodeName (m : Int) = codeName (m : Int) := by simp [rCodeName, h1]
    have HR := Lib.hid hr; clear hr
    go_enter Try.func16, Try.ntmps16
    go_wp2_with fail
    refine (c_sizeString _ 9 _ _ (by omega)).mono ?_
    rintro e w' ⟨rfl, rfl⟩
    go_wp2_with fail
    refine (c_within m 0 8 _).mono ?_
    rintro e w' ⟨rfl, rfl⟩
    go_wp2
    go_ret
    rw [HR.out]
    exact ⟨rfl, balloc (Below.refl _ _) _⟩

theorem law_CodeName (n : Int) (w : World) :
    Calls Try.prog 4 #[.int .i64 n] w fun e w' => e = .returned (.bool true) ∧ Below w.heap.size w w' := by
  go_enter Try.func4, Try.ntmps4
  go_wp2_with fail
  refine (c_specCodeName n w).mono ?_
  rintro e w1 ⟨rfl, b1⟩
  go_wp2_with fail
  refine (c_implCodeName n w1).mono ?_
  rintro e w2 ⟨rfl, b2⟩
  go_wp2
  go_ret
  exact ⟨rfl, bstep b1 b2⟩

end Go.Proofs.Ytkibfahlfnaeoaa
