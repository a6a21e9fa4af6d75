/-
  The least gap between notes of one pitch. Plain: no program in it; and a map's datum that keeps each pitch's last step.
-/
import Derived.Test.YtmdocjiljjbijaaPureB
import Derived.Maps.OwnSet
namespace Go.Proofs.Ytmdocjiljjbijaa
set_option linter.unusedVariables false
set_option linter.unusedSimpArgs false

def leP (x y : Int × Int) : Prop := x.1 < y.1 ∨ (x.1 = y.1 ∧ x.2 ≤ y.2)
theorem leP_trans {x y z : Int × Int} (h : leP x y) (k : leP y z) : leP x z := by unfold leP at *; omega
theorem leP_anti {x y : Int × Int} (h : leP x y) (k : leP y x) : x = y := by unfold leP at *; apply Prod.ext <;> omega
/-- What is known behind some pairs: none yet, or the least of them. -/
def MinOf (st : Int × Int) (S : Int × Int → Prop) : Prop := (st = (-1, 0) ∧ ∀ x, ¬ S x) ∨ (S st ∧ 0 < st.1 ∧ ∀ x, S x → leP st x)
theorem MinOf.unique {a b : Int × Int} {S : Int × Int → Prop} (ha : MinOf a S) (hb : MinOf b S) : a = b := by
  rcases ha with ⟨rfl, h1⟩ | ⟨h1, _, h2⟩
  · rcases hb with ⟨rfl, _⟩ | ⟨h3, _, _⟩
    · rfl
    · exact absurd h3 (h1 _)
  · rcases hb with ⟨rfl, h3⟩ | ⟨h3, _, h4⟩
    · exact absurd h1 (h3 _)
    · exact leP_anti (h2 _ h3) (h4 _ h1)
def bet (st c : Int × Int) : Bool := decide (st.1 < 0) || (decide (c.1 < st.1) || (decide (c.1 = st.1) && decide (c.2 < st.2)))
def updG (st c : Int × Int) : Int × Int := if bet st c then c else st
theorem updG_yes {st c : Int × Int} (h : bet st c = true) : updG st c = c := by unfold updG; rw [h]; rfl
theorem updG_no {st c : Int × Int} (h : bet st c = false) : updG st c = st := by unfold updG; rw [h]; rfl
theorem MinOf.congr {st : Int × Int} {S T : Int × Int → Prop} (h : MinOf st S) (hS : ∀ x, T x ↔ S x) : MinOf st T := by
  have : T = S := funext fun x => propext (hS x)
  rw [this]; exact h
/-- New pairs of which c is the least. -/
theorem MinOf.addAll {st c : Int × Int} {S T N : Int × Int → Prop} (h : MinOf st S) (hc : 0 < c.1) (hT : ∀ x, T x ↔ S x ∨ N x) (hN : N c) (hle : ∀ x, N x → leP c x) : MinOf (updG st c) T := by
  rcases hb : bet st c with _ | _
  · rw [updG_no hb]
    have hb2 : ¬ (st.1 < 0 ∨ (c.1 < st.1 ∨ (c.1 = st.1 ∧ c.2 < st.2))) := fun hx => by
      have : bet st c = true := by unfold bet; simpa using hx
      rw [hb] at this; cases this
    rcases h with ⟨rfl, _⟩ | ⟨h1, h2, h3⟩
    · exact absurd (Or.inl (by decide)) hb2
    · refine .inr ⟨(hT _).2 (.inl h1), h2, fun x hx => ?_⟩
      rcases (hT x).1 hx with hx | hx
      · exact h3 x hx
      · exact leP_trans (by unfold leP; omega) (hle x hx)
  · rw [updG_yes hb]
    have hb2 : st.1 < 0 ∨ (c.1 < st.1 ∨ (c.1 = st.1 ∧ c.2 < st.2)) := by unfold bet at hb; simpa using hb
    refine .inr ⟨(hT _).2 (.inr hN), hc, fun x hx => ?_⟩
    rcases (hT x).1 hx with hx | hx
    · rcases h with ⟨_, h1⟩ | ⟨_, h2, h3⟩
      · exact absurd hx (h1 x)
      · exact leP_trans (by unfold leP; omega) (h3 x hx)
    · exact hle x hx
theorem MinOf.add {st c : Int × Int} {S T : Int × Int → Prop} (h : MinOf st S) (hc : 0 < c.1) (hT : ∀ x, T x ↔ S x ∨ x = c) : MinOf (updG st c) T :=
  h.addAll (N := fun x => x = c) hc hT rfl (fun x hx => by subst hx; unfold leP; omega)

/-- The gaps of all pairs with the later one ahead of i, or at i with the earlier one ahead of j. -/
def GapS (l : List (Int × Int)) (i j : Nat) (x : Int × Int) : Prop := ∃ a b, ∃ (ha : a < l.length) (hb : b < l.length), a < b ∧ (b < i ∨ (b = i ∧ a < j)) ∧ l[a].2 = l[b].2 ∧ x = (l[b].1 - l[a].1, l[b].2)
theorem GapS_zero (l : List (Int × Int)) : MinOf (-1, 0) (GapS l 0 0) := .inl ⟨rfl, fun x ⟨a, b, _, _, _, h, _⟩ => by omega⟩
theorem gap_pos {l : List (Int × Int)} (h : okT l = true) {a b : Nat} (hb : b < l.length) (hab : a < b) (hp : (l[a]'(by omega)).2 = l[b].2) : 0 < l[b].1 - (l[a]'(by omega)).1 := by
  have := okT_lt h hb hab
  rw [ltN_iff] at this
  omega
theorem GapS_step {l : List (Int × Int)} {i j : Nat} (hi : i < l.length) (hj : j < i) (hp : (l[j]'(by omega)).2 = l[i].2) (x : Int × Int) : GapS l i (j + 1) x ↔ GapS l i j x ∨ x = (l[i].1 - (l[j]'(by omega)).1, l[i].2) := by
  constructor
  · rintro ⟨a, b, ha, hb, hab, hc, hq, rfl⟩
    by_cases e : b = i ∧ a = j
    · obtain ⟨rfl, rfl⟩ := e; exact .inr rfl
    · exact .inl ⟨a, b, ha, hb, hab, by omega, hq, rfl⟩
  · rintro (⟨a, b, ha, hb, hab, hc, hq, rfl⟩ | rfl)
    · exact ⟨a, b, ha, hb, hab, by omega, hq, rfl⟩
    · exact ⟨j, i, by omega, hi, hj, by omega, hp, rfl⟩
theorem GapS_skip {l : List (Int × Int)} {i j : Nat} (hi : i < l.length) (hj : j < i) (hp : ¬ (l[j]'(by omega)).2 = l[i].2) (x : Int × Int) : GapS l i (j + 1) x ↔ GapS l i j x := by
  constructor
  · rintro ⟨a, b, ha, hb, hab, hc, hq, rfl⟩
    by_cases e : b = i ∧ a = j
    · obtain ⟨rfl, rfl⟩ := e; exact absurd hq hp
    · exact ⟨a, b, ha, hb, hab, by omega, hq, rfl⟩
  · rintro ⟨a, b, ha, hb, hab, hc, hq, rfl⟩
    exact ⟨a, b, ha, hb, hab, by omega, hq, rfl⟩
theorem GapS_next (l : List (Int × Int)) (i : Nat) (x : Int × Int) : GapS l (i + 1) 0 x ↔ GapS l i i x := by
  constructor
  · rintro ⟨a, b, ha, hb, hab, hc, hq, rfl⟩; exact ⟨a, b, ha, hb, hab, by omega, hq, rfl⟩
  · rintro ⟨a, b, ha, hb, hab, hc, hq, rfl⟩; exact ⟨a, b, ha, hb, hab, by omega, hq, rfl⟩
/-- A note with no earlier one of its pitch adds nothing. -/
theorem gap_none {l : List (Int × Int)} {i : Nat} (hi : i < l.length) (hno : ∀ a (ha : a < l.length), a < i → l[a].2 ≠ l[i].2) {st : Int × Int} (h : MinOf st (GapS l i 0)) : MinOf st (GapS l (i + 1) 0) := by
  refine h.congr fun x => ⟨?_, ?_⟩
  · rintro ⟨a, b, ha, hb, hab, hc, hq, rfl⟩
    by_cases e : b = i
    · subst e; exact absurd hq (hno a ha hab)
    · exact ⟨a, b, ha, hb, hab, by omega, hq, rfl⟩
  · rintro ⟨a, b, ha, hb, hab, hc, hq, rfl⟩; exact ⟨a, b, ha, hb, hab, by omega, hq, rfl⟩
/-- The gap to the last earlier one is the least that a note adds. -/
theorem gap_last {l : List (Int × Int)} (hok : okT l = true) {i m : Nat} (hi : i < l.length) (hm : m < i) (hp : (l[m]'(by omega)).2 = l[i].2) (hlast : ∀ a (ha : a < l.length), m < a → a < i → l[a].2 ≠ l[i].2) {st : Int × Int} (h : MinOf st (GapS l i 0)) :
    MinOf (updG st (l[i].1 - (l[m]'(by omega)).1, l[i].2)) (GapS l (i + 1) 0) := by
  refine h.addAll (N := fun x => ∃ a, ∃ ha : a < i, (l[a]'(by omega)).2 = l[i].2 ∧ x = (l[i].1 - (l[a]'(by omega)).1, l[i].2)) (gap_pos hok hi hm hp) (fun x => ?_) ⟨m, hm, hp, rfl⟩ (fun x ⟨a, ha, hq, hx⟩ => ?_)
  · constructor
    · rintro ⟨a, b, ha, hb, hab, hc, hq, rfl⟩
      by_cases e : b = i
      · subst e; exact .inr ⟨a, hab, hq, rfl⟩
      · exact .inl ⟨a, b, ha, hb, hab, by omega, hq, rfl⟩
    · rintro (⟨a, b, ha, hb, hab, hc, hq, rfl⟩ | ⟨a, ha, hq, rfl⟩)
      · exact ⟨a, b, ha, hb, hab, by omega, hq, rfl⟩
      · exact ⟨a, i, by omega, hi, ha, by omega, hq, rfl⟩
  · subst hx
    by_cases e : a = m
    · subst e; unfold leP; omega
    · have ham : a < m := by
        rcases Nat.lt_trichotomy a m with h1 | h1 | h1
        · exact h1
        · exact absurd h1 e
        · exact absurd hq (hlast a (by omega) h1 ha)
      have := gap_pos hok (a := a) (b := m) (by omega) ham (hq.trans hp.symm)
      unfold leP
      left
      simp only []
      omega
open Classical in
noncomputable def gapL (l : List (Int × Int)) : Int × Int := if h : ∃ st, MinOf st (GapS l l.length 0) then h.choose else (0, 0)
theorem gapL_eq {l : List (Int × Int)} {st : Int × Int} (h : MinOf st (GapS l l.length 0)) : gapL l = st := by
  have hx : ∃ st, MinOf st (GapS l l.length 0) := ⟨st, h⟩
  unfold gapL
  rw [dif_pos hx]
  exact hx.choose_spec.unique h
noncomputable def rG1 (l : List (Int × Int)) : Int := if okT l then (if (gapL l).1 < 0 then 0 else (gapL l).1) else 0
noncomputable def rG2 (l : List (Int × Int)) : Int := if okT l then (if (gapL l).1 < 0 then 0 else (gapL l).2) else 0
noncomputable def cG (l : List (Int × Int)) : Int := if okT l then (if (gapL l).1 < 0 then 6 else 0) else 1
/-- Gaps are small. -/
theorem MinOf.bd {l : List (Int × Int)} (hok : okT l = true) {st : Int × Int} {i j : Nat} (h : MinOf st (GapS l i j)) : -1 ≤ st.1 ∧ st.1 ≤ 199 ∧ 0 ≤ st.2 ∧ st.2 ≤ 47 := by
  rcases h with ⟨rfl, _⟩ | ⟨⟨a, b, ha, hb, hab, _, _, rfl⟩, h0, _⟩
  · simp
  · have h1 := okT_note hok ha
    have h2 := okT_note hok hb
    simp only [] at h0 ⊢
    omega

/-! ### the map -/
open Go.Maps
def pKey (p : Int) : Lit := .int .i8 p
noncomputable def atD (l : List (Int × Int)) : Nat → DataW Unit
  | 0 => .map []
  | k + 1 => if h : k < l.length then (atD l k).put (pKey l[k].2) (.lit (.int .i16 l[k].1)) else atD l k
theorem atD_step {l : List (Int × Int)} {k : Nat} (h : k < l.length) : atD l (k + 1) = (atD l k).put (pKey l[k].2) (.lit (.int .i16 l[k].1)) := by rw [atD, dif_pos h]
theorem atD_map (l : List (Int × Int)) (k : Nat) : IsMap (atD l k) := by
  induction k with
  | zero => exact isMap_empty
  | succ k ih =>
    rw [atD]
    split
    · exact ih.put _ _
    · exact ih
theorem pKey_inj {p q : Int} (h : pKey p = pKey q) : p = q := by unfold pKey at h; simpa using h
theorem atD_spec (l : List (Int × Int)) (p : Int) (k : Nat) (hk : k ≤ l.length) :
    (Maps.has (atD l k) (pKey p) = false ∧ ∀ a (ha : a < l.length), a < k → l[a].2 ≠ p) ∨
    ∃ m, ∃ hm : m < l.length, m < k ∧ l[m].2 = p ∧ (∀ a (ha : a < l.length), m < a → a < k → l[a].2 ≠ p) ∧ Maps.has (atD l k) (pKey p) = true ∧ ∀ z, (atD l k).atKey (pKey p) z = .lit (.int .i16 l[m].1) := by
  induction k with
  | zero => exact .inl ⟨rfl, fun _ _ h => absurd h (by omega)⟩
  | succ k ih =>
    have hlt : k < l.length := by omega
    rw [atD_step hlt]
    by_cases e : l[k].2 = p
    · subst e
      exact .inr ⟨k, hlt, by omega, rfl, fun a ha h1 h2 => absurd h1 (by omega), has_put_same (atD_map l k) (by unfold pKey; exact trivial) _, fun z => atKey_put_same (atD_map l k) (by unfold pKey; exact trivial) _ z⟩
    · have hne : pKey p ≠ pKey l[k].2 := fun h => e (pKey_inj h).symm
      rcases ih (by omega) with ⟨h1, h2⟩ | ⟨m, hm, h1, h2, h3, h4, h5⟩
      · exact .inl ⟨by rw [has_put_other hne]; exact h1, fun a ha hak => by
          by_cases e2 : a = k
          · subst e2; exact e
          · exact h2 a ha (by omega)⟩
      · exact .inr ⟨m, hm, by omega, h2, fun a ha hma hak => by
          by_cases e2 : a = k
          · subst e2; exact e
          · exact h3 a ha hma (by omega), by rw [has_put_other hne]; exact h4, fun z => by rw [atKey_put_other hne]; exact h5 z⟩

end Go.Proofs.Ytmdocjiljjbijaa
