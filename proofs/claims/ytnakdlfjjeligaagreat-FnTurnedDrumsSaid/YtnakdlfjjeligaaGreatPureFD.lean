/-
  Frames and drums that are drawn; the pins of a drum, bit for bit. Plain: no program in it.
-/
import Derived.Test.YtnakdlfjjeligaaGreatPureU
import Derived.Test.YtnakdlfjjeligaaGreatData
namespace Go.Proofs.YtnakdlfjjeligaaGreat
set_option linter.unusedVariables false
set_option linter.unusedSimpArgs false

/-- A frame as it is drawn. -/
def DrawnF (s : Int) (l : List (Int × Int)) : Prop := (4 ≤ s ∧ s ≤ 17) ∧ (1 ≤ l.length ∧ l.length ≤ 5) ∧ ∀ p ∈ l, (22 ≤ p.1 ∧ p.1 ≤ 25) ∧ 1 ≤ p.2 ∧ p.2 ≤ 4
/-- The pins of d lie on the first N steps and the first m tracks. -/
def Within (d : List Int) (N m : Nat) : Prop := ∀ k t, t < 32 → pinB d k t = true → k < N ∧ t < m
/-- A drum as it is drawn, with p pins at most. -/
def DrumIn (s : Int) (l : List (Int × Int)) (d : List Int) (p : Nat) : Prop := Wd d ∧ d.length = 96 ∧ Within d s.toNat l.length ∧ (pinsL d l.length s.toNat).length ≤ p
theorem DrawnF.ok {s : Int} {l : List (Int × Int)} (h : DrawnF s l) : okF s l = true := by
  obtain ⟨h1, h2, h3⟩ := h
  refine okF_iff.2 ⟨by omega, by omega, fun p hp => okH_iff.2 ?_⟩
  have := h3 p hp
  omega
theorem DrawnF.w16 {s : Int} {l : List (Int × Int)} (h : DrawnF s l) : W16 s := by have := h.1; unfold W16; omega
theorem DrawnF.whs {s : Int} {l : List (Int × Int)} (h : DrawnF s l) : Whs l := fun p hp => by have := h.2.2 p hp; unfold Wh; omega

theorem zD_wd : Wd zD := fun x hx => by rw [zD_eq] at hx; have := List.eq_of_mem_replicate hx; omega
theorem pinB_zD (k t : Nat) : pinB zD k t = false := by
  unfold pinB
  have : zD.getD k 0 = 0 := by
    rw [List.getD_eq_getElem?_getD, zD_getElem?]
    split <;> rfl
  rw [this]; simp
theorem putL_wd {d : List Int} (h : Wd d) (k t : Nat) (on : Bool) : Wd (putL d k t on) := putL_bd h k t on
theorem pinB_out {d : List Int} {k : Nat} (h : ¬ k < d.length) (t : Nat) : pinB d k t = false := by
  unfold pinB
  rw [List.getD_eq_getElem?_getD, List.getElem?_eq_none (by omega)]
  simp
/-- A pin put in, or taken out: the other pins stay. -/
theorem pinB_put {d : List Int} (h : Wd d) {k t : Nat} (hk : k < d.length) (ht : t < 32) (on : Bool) {j i : Nat} (hi : i < 32) : pinB (putL d k t on) j i = if j = k ∧ i = t then on else pinB d j i := by
  by_cases hj : j = k
  · subst hj
    have hk2 : j < (putL d j t on).length := by rw [putL_len]; exact hk
    rw [pinB_at hk2, pinB_at hk]
    have hx := h.get hk
    have hgd : d.getD j 0 = d[j] := by simp [List.getD, hk]
    have key : (putL d j t on)[j] = (((if on then BitVec.ofInt 32 d[j] ||| BitVec.ofInt 32 (2 ^ t % 4294967296) else BitVec.ofInt 32 d[j] &&& ~~~ BitVec.ofInt 32 (2 ^ t % 4294967296)).toNat : Nat) : Int) := by
      unfold putL
      simp only [List.getElem_set_self, hgd]
      cases on <;> simp only [Bool.false_eq_true, if_false, if_true, bits_or, bits_andNot]
    have hx2 := (putL_bd h j t on).get hk2
    rw [bit_at hx2 hi, bit_at hx hi, key, ofInt_toNat]
    cases on
    · simp only [Bool.false_eq_true, if_false, BitVec.getLsbD_and, BitVec.getLsbD_not, mask_bit ht i hi, hi, decide_true, Bool.true_and]
      by_cases e : i = t
      · subst e; simp
      · have e2 : ¬ t = i := fun h => e h.symm
        simp [e, e2]
    · simp only [if_true, BitVec.getLsbD_or, mask_bit ht i hi]
      by_cases e : i = t
      · subst e; simp
      · have e2 : ¬ t = i := fun h => e h.symm
        simp [e, e2]
  · rw [if_neg (fun h => hj h.1)]
    unfold pinB putL
    rw [List.getD_eq_getElem?_getD, List.getElem?_set_ne (fun h => hj h.symm), ← List.getD_eq_getElem?_getD]
/-- Two drums with the same pins are the same. -/
theorem drum_ext {d e : List Int} (hd : Wd d) (he : Wd e) (hl : d.length = e.length) (h : ∀ k, k < d.length → ∀ t, t < 32 → pinB d k t = pinB e k t) : d = e := by
  refine List.ext_getElem hl fun k h1 h2 => ?_
  have a := hd.get h1
  have b := he.get h2
  have : BitVec.ofInt 32 d[k] = BitVec.ofInt 32 e[k] := BitVec.eq_of_getLsbD_eq fun i hi => by
    rw [← bit_at a hi, ← bit_at b hi, ← pinB_at h1, ← pinB_at h2]
    exact h k h1 i hi
  rw [← ofInt_back a, ← ofInt_back b, this]
/-- A drum's word is nought where it has no pin. -/
theorem word_zero {d : List Int} (hd : Wd d) {k : Nat} (hk : k < d.length) (h : ∀ t, t < 32 → pinB d k t = false) : d[k] = 0 := by
  have a := hd.get hk
  have : BitVec.ofInt 32 d[k] = 0#32 := BitVec.eq_of_getLsbD_eq fun i hi => by
    rw [← bit_at a hi, ← pinB_at hk, h i hi]; simp
  rw [← ofInt_back a, this]; rfl
/-- A word below 2 ^ m has no bit from m on, and the other way round. -/
theorem div_zero_iff {x : Int} (hx : 0 ≤ x ∧ x ≤ 4294967295) {m : Nat} (hm : m ≤ 32) : (x / 2 ^ m == 0) = true ↔ ∀ t, m ≤ t → t < 32 → (x / 2 ^ t % 2 == 1) = false := by
  have hp : (0 : Int) < 2 ^ m := Int.pow_pos (by decide)
  constructor
  · intro h t hmt ht
    have h0 : x / 2 ^ m = 0 := by simpa using h
    obtain ⟨j, rfl⟩ : ∃ j, t = m + j := ⟨t - m, by omega⟩
    rw [Int.pow_add, ← Int.ediv_ediv_of_nonneg (Int.le_of_lt hp), h0]
    simp
  · intro h
    have key : ∀ j, x / 2 ^ (32 - j) = 0 ∨ ∃ t, 32 - j ≤ t ∧ t < 32 ∧ (x / 2 ^ t % 2 == 1) = true := by
      intro j
      induction j with
      | zero => left; have : (2 : Int) ^ (32 - 0) = 4294967296 := by decide
                rw [this]; omega
      | succ j ih =>
        by_cases hj : 32 ≤ j
        · have e : 32 - (j + 1) = 32 - j := by omega
          rw [e]; exact ih
        · rcases ih with h0 | ⟨t, h1, h2, h3⟩
          · have e : 32 - j = (32 - (j + 1)) + 1 := by omega
            have hq : (0 : Int) < 2 ^ (32 - (j + 1)) := Int.pow_pos (by decide)
            have h5 : 0 ≤ x / 2 ^ (32 - (j + 1)) := Int.ediv_nonneg hx.1 (Int.le_of_lt hq)
            rw [e, Int.pow_add, ← Int.ediv_ediv_of_nonneg (Int.le_of_lt hq), Int.pow_one] at h0
            by_cases h6 : x / 2 ^ (32 - (j + 1)) = 0
            · exact .inl h6
            · refine .inr ⟨32 - (j + 1), Nat.le_refl _, by omega, ?_⟩
              have : x / 2 ^ (32 - (j + 1)) = 1 := by omega
              rw [this]; rfl
          · exact .inr ⟨t, by omega, h2, h3⟩
    rcases key (32 - m) with h0 | ⟨t, h1, h2, h3⟩
    · rw [show 32 - (32 - m) = m by omega] at h0; simp [h0]
    · have := h t (by omega) h2
      rw [this] at h3; cases h3
theorem okD_bits {n : Nat} {s : Int} {d : List Int} (hn : n ≤ 32) (hs : 0 ≤ s) (hd : Wd d) : okD n s d = true ↔ Within d s.toNat n := by
  rw [okD_iff]
  have hmin : min n 32 = n := by omega
  constructor
  · intro h k t ht hp
    by_cases hk : k < d.length
    · have := h k hk
      unfold okP at this
      rw [hmin, Bool.and_eq_true, div_zero_iff (hd.get hk) hn, Bool.or_eq_true, decide_eq_true_eq] at this
      rw [pinB_at hk] at hp
      refine ⟨?_, ?_⟩
      · rcases this.2 with h2 | h2
        · omega
        · have h3 : d[k] = 0 := by simpa using h2
          rw [h3] at hp; simp at hp
      · by_cases hlt : t < n
        · exact hlt
        · have := this.1 t (by omega) ht
          rw [this] at hp; cases hp
    · rw [pinB_out hk] at hp; cases hp
  · intro h k hk
    unfold okP
    rw [hmin, Bool.and_eq_true, div_zero_iff (hd.get hk) hn, Bool.or_eq_true, decide_eq_true_eq]
    refine ⟨fun t h1 h2 => ?_, ?_⟩
    · cases hq : (d[k] / 2 ^ t % 2 == 1) with
      | false => rfl
      | true => rw [← pinB_at hk] at hq; have := (h k t h2 hq).2; omega
    · by_cases hks : (k : Int) < s
      · exact .inl hks
      · right
        have : d[k] = 0 := word_zero hd hk fun t ht => by
          cases hq : pinB d k t with
          | false => rfl
          | true => have := (h k t ht hq).1; omega
        rw [this]; rfl
/-! ### the pins as a list -/
theorem pins_mem {d : List Int} {m N : Nat} {p : Int × Int} : p ∈ pinsL d m N ↔ ∃ k t : Nat, k < N ∧ t < m ∧ pinB d k t = true ∧ p = ((k : Int), (t : Int)) := by
  unfold pinsL rowP
  simp only [List.mem_flatMap, List.mem_map, List.mem_filter, List.mem_range]
  constructor
  · rintro ⟨k, hk, t, ⟨ht, hp⟩, rfl⟩; exact ⟨k, t, hk, ht, hp, rfl⟩
  · rintro ⟨k, t, hk, ht, hp, rfl⟩; exact ⟨k, hk, t, ⟨ht, hp⟩, rfl⟩
theorem pins_rise (d : List Int) (m : Nat) : ∀ N, Rise (pinsL d m N) := by
  have hrow : ∀ k t, Rise (rowP d k t) := by
    intro k t
    unfold rowP Rise
    rw [List.pairwise_map]
    refine List.Pairwise.filter _ ?_
    refine List.Pairwise.imp ?_ List.pairwise_lt_range
    intro a b hab
    have h2 : a < b := hab
    rw [ltN_iff]; exact .inr ⟨rfl, by simp only []; omega⟩
  intro N
  induction N with
  | zero => exact Rise.nil
  | succ N ih =>
    rw [pinsL_succ]
    refine List.pairwise_append.2 ⟨ih, hrow N m, fun a ha b hb => ?_⟩
    obtain ⟨k, t, hk, _, _, rfl⟩ := pins_mem.1 ha
    unfold rowP at hb
    obtain ⟨i, _, rfl⟩ := List.mem_map.1 hb
    rw [ltN_iff]; exact .inl (by simp only []; omega)
/-- One pin more. -/
theorem pins_put {d : List Int} (h : Wd d) {k t m N : Nat} (hk : k < d.length) (ht : t < 32) (hm : m ≤ 32) : (pinsL (putL d k t true) m N).length ≤ (pinsL d m N).length + 1 := by
  have hs : pinsL (putL d k t true) m N = sortU ((pinsL (putL d k t true) m N)) := (sortU_of_rise (pins_rise _ _ _)).symm
  by_cases hin : k < N ∧ t < m
  · have e : sortU (pinsL (putL d k t true) m N) = sortU (pinsL d m N ++ [((k : Int), (t : Int))]) := by
      refine (sortU_rise _).unique (sortU_rise _) fun x => ?_
      rw [sortU_mem, sortU_mem, List.mem_append, List.mem_singleton, pins_mem, pins_mem]
      constructor
      · rintro ⟨j, i, hj, hi, hp, rfl⟩
        rw [pinB_put h hk ht true (by omega)] at hp
        by_cases e : j = k ∧ i = t
        · obtain ⟨rfl, rfl⟩ := e; exact .inr rfl
        · rw [if_neg e] at hp; exact .inl ⟨j, i, hj, hi, hp, rfl⟩
      · rintro (⟨j, i, hj, hi, hp, rfl⟩ | rfl)
        · refine ⟨j, i, hj, hi, ?_, rfl⟩
          rw [pinB_put h hk ht true (by omega)]
          split
          · rfl
          · exact hp
        · exact ⟨k, t, hin.1, hin.2, by rw [pinB_put h hk ht true ht, if_pos ⟨rfl, rfl⟩], rfl⟩
    rw [hs, e]
    have := sortU_len (pinsL d m N ++ [((k : Int), (t : Int))])
    simpa using this
  · have e : pinsL (putL d k t true) m N = pinsL d m N := by
      refine (pins_rise _ _ _).unique (pins_rise _ _ _) fun x => ?_
      rw [pins_mem, pins_mem]
      have hne : ∀ j i, j < N → i < m → ¬ (j = k ∧ i = t) := fun j i h1 h2 ⟨e1, e2⟩ => hin ⟨by omega, by omega⟩
      constructor
      · rintro ⟨j, i, hj, hi, hp, rfl⟩
        rw [pinB_put h hk ht true (by omega), if_neg (hne j i hj hi)] at hp
        exact ⟨j, i, hj, hi, hp, rfl⟩
      · rintro ⟨j, i, hj, hi, hp, rfl⟩
        exact ⟨j, i, hj, hi, by rw [pinB_put h hk ht true (by omega), if_neg (hne j i hj hi)]; exact hp, rfl⟩
    rw [e]; omega
theorem DrumIn.zero {s : Int} (l : List (Int × Int)) : DrumIn s l zD 0 := by
  have hw : Within zD s.toNat l.length := fun k t _ h => by rw [pinB_zD] at h; cases h
  refine ⟨zD_wd, zD_len, hw, ?_⟩
  have : pinsL zD l.length s.toNat = [] := by
    rw [List.eq_nil_iff_forall_not_mem]
    intro p hp
    obtain ⟨k, t, _, _, h, _⟩ := pins_mem.1 hp
    rw [pinB_zD] at h; cases h
  rw [this]; exact Nat.le_refl _
theorem DrumIn.put {s : Int} {l : List (Int × Int)} {d : List Int} {p k t : Nat} (h : DrumIn s l d p) (hk : (k : Int) < s) (hs : s ≤ 96) (ht : t < l.length) (hl : l.length ≤ 32) : DrumIn s l (putL d k t true) (p + 1) := by
  obtain ⟨h1, h2, h3, h4⟩ := h
  have hk2 : k < d.length := by omega
  refine ⟨putL_bd h1 k t true, by rw [putL_len]; exact h2, fun j i hi hp => ?_, Nat.le_trans (pins_put h1 hk2 (by omega) hl) (by omega)⟩
  rw [pinB_put h1 hk2 (by omega) true hi] at hp
  by_cases e : j = k ∧ i = t
  · obtain ⟨rfl, rfl⟩ := e; exact ⟨by omega, ht⟩
  · rw [if_neg e] at hp; exact h3 j i hi hp
theorem DrumIn.mono {s : Int} {l : List (Int × Int)} {d : List Int} {p q : Nat} (h : DrumIn s l d p) (hq : p ≤ q) : DrumIn s l d q := ⟨h.1, h.2.1, h.2.2.1, Nat.le_trans h.2.2.2 hq⟩
theorem DrumIn.ok {s : Int} {l : List (Int × Int)} {d : List Int} {p : Nat} (h : DrumIn s l d p) (hf : DrawnF s l) : okD l.length s d = true := (okD_bits (by have := hf.2.1; omega) (by have := hf.1; omega) h.1).2 h.2.2.1
end Go.Proofs.YtnakdlfjjeligaaGreat
