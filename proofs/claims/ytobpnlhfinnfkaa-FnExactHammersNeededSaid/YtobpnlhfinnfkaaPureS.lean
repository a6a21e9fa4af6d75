/-
  Pins parted among hammers: the search, the least number. Plain: no program in it.
-/
import Derived.Test.YtobpnlhfinnfkaaPure
namespace Go.Proofs.Ytobpnlhfinnfkaa
set_option linter.unusedVariables false
set_option linter.unusedSimpArgs false

/-- Two pins are too near for one hammer. -/
def nearI (s r a b : Int) : Bool := decide ((b - a + s) % s < r) || decide ((a - b + s) % s < r)
def nearK (s r : Int) (ats : List Int) (k i : Nat) : Bool := nearI s r (ats.getD k 0) (ats.getD i 0)
/-- Pin i = given.length may go to hammer h. -/
def fitB (near : Nat → Nat → Bool) (given : List Int) (h : Int) (m : Nat) : Bool := (List.range m).all fun k => !(given.getD k 0 == h && near k given.length)
def splitG (near : Nat → Nat → Bool) (most : Nat) : Nat → List Int → Nat → Bool
  | 0, _, _ => true
  | f + 1, given, used => (List.range (min (used + 1) most)).any fun h => fitB near given (h : Int) given.length && splitG near most f (given ++ [(h : Int)]) (max used (h + 1))
def tryB (near : Nat → Nat → Bool) (most f : Nat) (given : List Int) (used h : Nat) : Bool := fitB near given (h : Int) given.length && splitG near most f (given ++ [(h : Int)]) (max used (h + 1))
theorem splitG_hit {near : Nat → Nat → Bool} {most f used h : Nat} {given : List Int} (h1 : h < used + 1) (h2 : h < most) (ht : tryB near most f given used h = true) : splitG near most (f + 1) given used = true := by
  rw [splitG, List.any_eq_true]
  exact ⟨h, List.mem_range.2 (by omega), ht⟩
theorem splitG_none {near : Nat → Nat → Bool} {most f used m : Nat} {given : List Int} (hm : ¬ (m < used + 1 ∧ m < most)) (hz : ∀ h, h < m → tryB near most f given used h = false) : splitG near most (f + 1) given used = false := by
  rw [splitG, List.any_eq_false]
  intro h hh
  have := hz h (by have := List.mem_range.1 hh; omega)
  unfold tryB at this
  simp only [this]
  decide
theorem fitB_zero (near : Nat → Nat → Bool) (given : List Int) (h : Int) : fitB near given h 0 = true := rfl
theorem fitB_succ (near : Nat → Nat → Bool) (given : List Int) (h : Int) (k : Nat) : fitB near given h (k + 1) = (fitB near given h k && !(given.getD k 0 == h && near k given.length)) := by
  unfold fitB
  rw [List.range_succ, List.all_append]
  simp
theorem fitB_le {near : Nat → Nat → Bool} {given : List Int} {h : Int} {k m : Nat} (hkm : k ≤ m) (hf : fitB near given h k = false) : fitB near given h m = false := by
  unfold fitB at hf ⊢
  rw [List.all_eq_false] at hf ⊢
  obtain ⟨x, hx, hp⟩ := hf
  exact ⟨x, List.mem_range.2 (by have := List.mem_range.1 hx; omega), hp⟩
theorem fitB_new {near : Nat → Nat → Bool} {given : List Int} {h : Int} (hn : ∀ k (hk : k < given.length), given[k] ≠ h) : fitB near given h given.length = true := by
  unfold fitB
  rw [List.all_eq_true]
  intro k hk
  have hk2 := List.mem_range.1 hk
  have := hn k hk2
  simp [List.getD, hk2, this]
/-- With as many hammers as pins there is a way. -/
theorem splitG_true {near : Nat → Nat → Bool} {most : Nat} : ∀ (f : Nat) (given : List Int) (used : Nat), used ≤ given.length → given.length + f ≤ most → (∀ k (hk : k < given.length), given[k] < (used : Int)) → splitG near most f given used = true
  | 0, _, _, _, _, _ => rfl
  | f + 1, given, used, h1, h2, h3 => by
    refine splitG_hit (h := used) (by omega) (by omega) ?_
    unfold tryB
    rw [fitB_new (fun k hk => by have := h3 k hk; omega), Bool.true_and]
    refine splitG_true f _ _ ?_ ?_ ?_
    · rw [List.length_append, List.length_cons, List.length_nil]; omega
    · rw [List.length_append, List.length_cons, List.length_nil]; omega
    · intro k hk
      rw [List.length_append, List.length_cons, List.length_nil] at hk
      by_cases e : k < given.length
      · rw [List.getElem_append_left e]; have := h3 k e; omega
      · obtain rfl : k = given.length := by omega
        rw [List.getElem_append_right (Nat.le_refl _)]; simp; omega
/-- m is the least number of hammers. -/
def LeastN (near : Nat → Nat → Bool) (n m : Nat) : Prop := splitG near m n [] 0 = true ∧ ∀ j, j < m → splitG near j n [] 0 = false
theorem LeastN.unique {near : Nat → Nat → Bool} {n a b : Nat} (ha : LeastN near n a) (hb : LeastN near n b) : a = b := by
  rcases Nat.lt_trichotomy a b with h | h | h
  · have := hb.2 a h; rw [ha.1] at this; cases this
  · exact h
  · have := ha.2 b h; rw [hb.1] at this; cases this
open Classical in
noncomputable def needN (near : Nat → Nat → Bool) (n : Nat) : Nat := if h : ∃ m, LeastN near n m then h.choose else 0
theorem needN_eq {near : Nat → Nat → Bool} {n m : Nat} (h : LeastN near n m) : needN near n = m := by
  have hx : ∃ m, LeastN near n m := ⟨m, h⟩
  unfold needN; rw [dif_pos hx]; exact hx.choose_spec.unique h
/-- Too few hammers are fewer than the pins. -/
theorem few_lt {near : Nat → Nat → Bool} {n m : Nat} (h : splitG near m n [] 0 = false) : m < n := by
  rcases Nat.lt_or_ge m n with h1 | h1
  · exact h1
  · have := splitG_true (near := near) (most := m) n [] 0 (by simp) (by simpa using h1) (fun k hk => by simp at hk)
    rw [h] at this; cases this

def szB (s r : Int) : Bool := inB s 2 96 && (inB r 1 20 && decide (r ≤ s))
/-- The first k steps rise, within the frame. -/
def PreA (s : Int) (l : List Int) (k : Nat) : Prop := ∀ i (h : i < l.length), i < k → (0 ≤ l[i] ∧ l[i] ≤ s - 1) ∧ (0 < i → l[i - 1] < l[i])
theorem PreA.zero (s : Int) (l : List Int) : PreA s l 0 := fun _ _ h => absurd h (by omega)
theorem PreA.succ {s : Int} {l : List Int} {k : Nat} (h : PreA s l k) (hk : k < l.length) (h1 : 0 ≤ l[k] ∧ l[k] ≤ s - 1) (h2 : 0 < k → l[k - 1] < l[k]) : PreA s l (k + 1) := fun i hi hik => by
  by_cases e : i = k
  · subst e; exact ⟨h1, h2⟩
  · exact h i hi (by omega)
open Classical in
noncomputable def cHN (s r : Int) (l : List Int) : Int := if szB s r then (if PreA s l l.length then (if l.length ≤ 14 then 0 else 3) else 2) else 2
open Classical in
noncomputable def rHN (s r : Int) (l : List Int) : Int := if szB s r then (if PreA s l l.length then (if l.length ≤ 14 then (needN (nearK s r l) l.length : Int) else 0) else 0) else 0
theorem HN_no {s r : Int} {l : List Int} (h : szB s r = false) : rHN s r l = 0 ∧ cHN s r l = 2 := by simp [rHN, cHN, h]
theorem HN_bad {s r : Int} {l : List Int} (hs : szB s r = true) (h : ¬ PreA s l l.length) : rHN s r l = 0 ∧ cHN s r l = 2 := by simp [rHN, cHN, hs, h]
theorem HN_many {s r : Int} {l : List Int} (hs : szB s r = true) (h : PreA s l l.length) (hl : ¬ l.length ≤ 14) : rHN s r l = 0 ∧ cHN s r l = 3 := by simp [rHN, cHN, hs, h, hl]
theorem HN_ok {s r : Int} {l : List Int} (hs : szB s r = true) (h : PreA s l l.length) (hl : l.length ≤ 14) : rHN s r l = (needN (nearK s r l) l.length : Int) ∧ cHN s r l = 0 := by simp [rHN, cHN, hs, h, hl]
theorem szB_bd {s r : Int} (h : szB s r = true) : 2 ≤ s ∧ s ≤ 96 ∧ 1 ≤ r ∧ r ≤ 20 ∧ r ≤ s := by
  unfold szB at h
  simp only [Bool.and_eq_true, inB_iff, decide_eq_true_eq] at h
  omega

end Go.Proofs.Ytobpnlhfinnfkaa
