/-
  Tunes backward and inverted; joined and sounding together. Plain: no program in it.
-/
import Derived.Test.YtmdocjiljjbijaaPureL
import Derived.Test.YtmdocjiljjbijaaPureM
namespace Go.Proofs.Ytmdocjiljjbijaa
set_option linter.unusedVariables false
set_option linter.unusedSimpArgs false

def backG (n : Int) (x : Int × Int) : Int × Int := (n - 1 - x.1, x.2)
def invG (s : Int) (x : Int × Int) : Int × Int := (x.1, 2 * s - x.2)
theorem lengthL_bd {l : List (Int × Int)} (h : okT l = true) : 0 ≤ lengthL l ∧ lengthL l ≤ 200 := by
  by_cases h0 : 0 < l.length
  · rw [lengthL_last h0]
    have := okT_note h (i := l.length - 1) (by omega)
    omega
  · rw [lengthL_nil h0]; omega
/-- No note lies behind the last one. -/
theorem last_top {l : List (Int × Int)} (h : okT l = true) {i : Nat} (hi : i < l.length) : l[i].1 ≤ lengthL l - 1 := by
  rw [lengthL_last (by omega)]
  by_cases e : i = l.length - 1
  · subst e; omega
  · have := okT_lt h (i := i) (j := l.length - 1) (by omega) (by omega)
    rw [ltN_iff] at this
    omega
theorem movB_back {l : List (Int × Int)} (h : okT l = true) : movB (backG (lengthL l)) l = true := by
  refine movB_all fun i hi => ?_
  have h1 := okT_note h hi
  have h2 := last_top h hi
  have h3 := lengthL_bd h
  rw [okN_iff]
  unfold backG
  simp only []
  omega

end Go.Proofs.Ytmdocjiljjbijaa
