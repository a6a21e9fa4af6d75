/-
  What Backward, Inverted, JoinTunes, Together, CanonOf and MakeTune give. Plain: no program in it.
-/
import Derived.Test.YtmdocjiljjbijaaPureO
namespace Go.Proofs.Ytmdocjiljjbijaa
set_option linter.unusedVariables false
set_option linter.unusedSimpArgs false

noncomputable def cBack (l : List (Int × Int)) : Int := if okT l then 0 else 1
noncomputable def rBack (l : List (Int × Int)) : List (Int × Int) := if okT l then sortU (l.map (backG (lengthL l))) else []
theorem rBack_len (l : List (Int × Int)) : (rBack l).length ≤ l.length := by
  unfold rBack; split
  · exact Nat.le_trans (sortU_len _) (by simp)
  · simp
theorem movR_back {l : List (Int × Int)} (h : okT l = true) : movR (backG (lengthL l)) l = l.map (backG (lengthL l)) := by unfold movR; rw [movB_back h]; rfl
noncomputable def rSort (l : List (Int × Int)) (ok : Bool) (bad : Int) (g : Int × Int → Int × Int) : List (Int × Int) := sortU (rMove l ok bad g)
theorem rSort_len (l : List (Int × Int)) (ok : Bool) (bad : Int) (g : Int × Int → Int × Int) : (rSort l ok bad g).length ≤ l.length := Nat.le_trans (sortU_len _) (rMove_len _ _ _ _)

/-! ### lists put in order, at most 120 of them -/
noncomputable def cLim (l : List (Int × Int)) : Int := if (sortU l).length ≤ 120 then 0 else 3
noncomputable def rLim (l : List (Int × Int)) : List (Int × Int) := if (sortU l).length ≤ 120 then sortU l else []
theorem rLim_len (l : List (Int × Int)) : (rLim l).length ≤ l.length := by
  unfold rLim; split
  · exact sortU_len _
  · simp
noncomputable def cTog (a b : List (Int × Int)) : Int := if okT a && okT b then cLim (a ++ b) else 1
noncomputable def rTog (a b : List (Int × Int)) : List (Int × Int) := if okT a && okT b then rLim (a ++ b) else []
theorem rTog_len (a b : List (Int × Int)) : (rTog a b).length ≤ a.length + b.length := by
  unfold rTog; split
  · exact Nat.le_trans (rLim_len _) (by simp)
  · simp
theorem okN_of_okT {l : List (Int × Int)} (h : okT l = true) {x : Int × Int} (hx : x ∈ l) : okN x = true := by
  obtain ⟨i, hi, rfl⟩ := List.getElem_of_mem hx
  exact okN_iff.2 (okT_note h hi)
theorem okN_wn {x : Int × Int} (h : okN x = true) : Wn x := by have := okN_iff.1 h; unfold Wn; omega
theorem wf_of_okN {l : List (Int × Int)} (h : ∀ x ∈ l, okN x = true) : Wf l := fun x hx => okN_wn (h x hx)
theorem wf_sortU {l : List (Int × Int)} (h : Wf l) : Wf (sortU l) := fun x hx => h x ((sortU_mem l x).1 hx)
theorem okN_two {a b : List (Int × Int)} (ha : okT a = true) (hb : okT b = true) : ∀ x ∈ a ++ b, okN x = true := fun x hx => by
  rcases List.mem_append.1 hx with h | h
  · exact okN_of_okT ha h
  · exact okN_of_okT hb h

/-! ### one tune behind the other -/
noncomputable def joinB (a b : List (Int × Int)) : Bool := movB (addG (lengthL a) 0) b && decide (a.length + b.length ≤ 120)
noncomputable def cJoin (a b : List (Int × Int)) : Int := if okT a && okT b then (if joinB a b then 0 else 3) else 1
noncomputable def rJoin (a b : List (Int × Int)) : List (Int × Int) := if okT a && okT b then (if joinB a b then a ++ b.map (addG (lengthL a) 0) else []) else []
theorem rJoin_len (a b : List (Int × Int)) : (rJoin a b).length ≤ a.length + b.length := by
  unfold rJoin; split
  · split <;> simp
  · simp
/-- Behind the last note of a, b's notes rise on. -/
theorem okT_join {a b : List (Int × Int)} (ha : okT a = true) (hb : okT b = true) (hm : movB (addG (lengthL a) 0) b = true) : okT (a ++ b.map (addG (lengthL a) 0)) = decide (a.length + b.length ≤ 120) := by
  have hall : ∀ x ∈ b, okN (addG (lengthL a) 0 x) = true := by unfold movB at hm; rw [List.all_eq_true] at hm; exact hm
  have hr : Rise (a ++ b.map (addG (lengthL a) 0)) := by
    unfold Rise
    rw [List.pairwise_append]
    refine ⟨okT_rise ha, ?_, ?_⟩
    · rw [List.pairwise_map]
      exact (okT_rise hb).imp (fun h => addG_mono _ _ h)
    · intro x hx y hy
      rw [List.mem_map] at hy
      obtain ⟨z, hz, rfl⟩ := hy
      obtain ⟨i, hi, rfl⟩ := List.getElem_of_mem hx
      obtain ⟨j, hj, rfl⟩ := List.getElem_of_mem hz
      have h1 := last_top ha hi
      have h2 := okT_note hb hj
      rw [ltN_iff]
      unfold addG
      left
      simp only []
      omega
  have hn : ∀ x ∈ a ++ b.map (addG (lengthL a) 0), okN x = true := fun x hx => by
    rcases List.mem_append.1 hx with h | h
    · exact okN_of_okT ha h
    · rw [List.mem_map] at h
      obtain ⟨z, hz, rfl⟩ := h
      exact hall z hz
  have hlen : (a ++ b.map (addG (lengthL a) 0)).length = a.length + b.length := by simp
  rcases hd : decide (a.length + b.length ≤ 120) with _ | _
  · have := of_decide_eq_false hd
    cases hq : okT (a ++ b.map (addG (lengthL a) 0)) with
    | false => rfl
    | true => have := okT_len hq; omega
  · exact okT_of_rise hr hn (by have := of_decide_eq_true hd; omega)

/-! ### any notes -/
noncomputable def cMake (l : List (Int × Int)) : Int := if l.all okN then cLim l else 2
noncomputable def rMake (l : List (Int × Int)) : List (Int × Int) := if l.all okN then rLim l else []
theorem rMake_len (l : List (Int × Int)) : (rMake l).length ≤ l.length := by
  unfold rMake; split
  · exact rLim_len _
  · simp

/-! ### voices -/
def voiceG (s t : Int) (v : Nat) : Int × Int → Int × Int := addG ((v : Int) * s) ((v : Int) * t)
/-- The first voice that cannot be moved; n if there is none. -/
def voicesOk (l : List (Int × Int)) (s t : Int) (n : Nat) : Prop := ∀ v, v < n → movB (voiceG s t v) l = true
instance (l : List (Int × Int)) (s t : Int) (n : Nat) : Decidable (voicesOk l s t n) := by unfold voicesOk; exact inferInstance
def voicesL (l : List (Int × Int)) (s t : Int) : Nat → List (Int × Int)
  | 0 => []
  | n + 1 => voicesL l s t n ++ l.map (voiceG s t n)
theorem voicesL_len (l : List (Int × Int)) (s t : Int) (n : Nat) : (voicesL l s t n).length = n * l.length := by
  induction n with
  | zero => simp [voicesL]
  | succ n ih => rw [voicesL, List.length_append, ih, List.length_map, Nat.add_mul]; omega
theorem voicesL_okN {l : List (Int × Int)} {s t : Int} {n : Nat} (h : voicesOk l s t n) : ∀ x ∈ voicesL l s t n, okN x = true := by
  induction n with
  | zero => intro x hx; simp [voicesL] at hx
  | succ n ih =>
    intro x hx
    rw [voicesL] at hx
    rcases List.mem_append.1 hx with hx | hx
    · exact ih (fun v hv => h v (by omega)) x hx
    · rw [List.mem_map] at hx
      obtain ⟨z, hz, rfl⟩ := hx
      have := h n (by omega)
      unfold movB at this
      rw [List.all_eq_true] at this
      exact this z hz
def inCan (v s t : Int) : Bool := inB v 1 8 && inB s 0 200 && inB t (-48) 48
noncomputable def cCan (l : List (Int × Int)) (v s t : Int) : Int := if okT l then (if inCan v s t then (if voicesOk l s t v.toNat then cLim (voicesL l s t v.toNat) else 3) else 2) else 1
noncomputable def rCan (l : List (Int × Int)) (v s t : Int) : List (Int × Int) := if okT l then (if inCan v s t then (if voicesOk l s t v.toNat then rLim (voicesL l s t v.toNat) else []) else []) else []
theorem rCan_len (l : List (Int × Int)) (v s t : Int) : (rCan l v s t).length ≤ 120 := by
  unfold rCan
  split
  · split
    · split
      · unfold rLim; split
        · omega
        · simp
      · simp
    · simp
  · simp

end Go.Proofs.Ytmdocjiljjbijaa
