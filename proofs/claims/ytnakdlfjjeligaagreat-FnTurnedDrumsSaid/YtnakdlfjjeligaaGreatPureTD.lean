/-
  What is said of drums that are turned, mirrored, whose tracks are exchanged, of pins put in and taken out. Plain: no program in it.
-/
import Derived.Test.YtnakdlfjjeligaaGreatPureFD
import Derived.Test.YtnakdlfjjeligaaGreatPure
import Derived.Test.YtnakdlfjjeligaaGreatWalkDQ
import Derived.Test.YtnakdlfjjeligaaGreatWalkDM
import Derived.Test.YtnakdlfjjeligaaGreatWalkDV
import Derived.Test.YtnakdlfjjeligaaGreatWalkEA
namespace Go.Proofs.YtnakdlfjjeligaaGreat
set_option linter.unusedVariables false
set_option linter.unusedSimpArgs false

/-! ### counting by a map -/
theorem card_eq {A B : List (Int × Int)} (ha : A.Nodup) (hb : B.Nodup) (f : Int × Int → Int × Int) (hinj : ∀ x ∈ A, ∀ y ∈ A, f x = f y → x = y) (hm : ∀ z, z ∈ B ↔ ∃ x ∈ A, f x = z) : B.length = A.length := by
  have hn : (A.map f).Nodup := by
    refine List.pairwise_iff_getElem.2 fun i j hi hj hij e => ?_
    simp only [List.getElem_map] at e
    have := hinj _ (List.getElem_mem (by simpa using hi)) _ (List.getElem_mem (by simpa using hj)) e
    exact List.pairwise_iff_getElem.1 ha i j (by simpa using hi) (by simpa using hj) hij this
  have e : sortU (A.map f) = sortU B := (sortU_rise _).unique (sortU_rise _) fun z => by
    rw [sortU_mem, sortU_mem, List.mem_map, hm]
  rw [← sortU_nodup hb, ← e, sortU_nodup hn, List.length_map]
theorem rise_nodup {l : List (Int × Int)} (h : Rise l) : l.Nodup := by
  refine List.Pairwise.imp ?_ h
  intro a b hab e
  subst e
  exact ltN_asymm hab hab
/-! ### arithmetic on a circle -/
theorem mod_if {x n : Nat} (h : x < 2 * n) : x % n = if x < n then x else x - n := by
  split
  · rename_i h1; exact Nat.mod_eq_of_lt h1
  · rename_i h1; rw [Nat.mod_eq_sub_mod (by omega), Nat.mod_eq_of_lt (by omega)]
/-! ### drums as lists of words -/
theorem drum_getD_ext {d e : List Int} (h1 : d.length = 96) (h2 : e.length = 96) (h : ∀ i, i < 96 → d.getD i 0 = e.getD i 0) : d = e := by
  refine List.ext_getElem (by omega) fun i hi hj => ?_
  have := h i (by omega)
  simpa [List.getD, hi, hj] using this
theorem out_zero {d : List Int} {N m : Nat} (hd : Wd d) (hl : d.length = 96) (h : Within d N m) {i : Nat} (hi : N ≤ i) : d.getD i 0 = 0 := by
  by_cases hlt : i < d.length
  · have : d[i] = 0 := word_zero hd hlt fun t ht => by
      cases hq : pinB d i t with
      | false => rfl
      | true => have := (h i t ht hq).1; omega
    simp [List.getD, hlt, this]
  · simp [List.getD, hlt]
theorem turnS_get {n b : Nat} {d : List Int} (hn : 1 ≤ n ∧ n ≤ 96) (hb : b < n) : ∀ k, k ≤ n → ∀ i, (turnS n b d k).getD i 0 = if i < n ∧ (i + n - b) % n < k then d.getD ((i + n - b) % n) 0 else 0
  | 0, _, i => by
    have : (turnS n b d 0).getD i 0 = 0 := by
      show zD.getD i 0 = 0
      rw [List.getD_eq_getElem?_getD, zD_getElem?]
      split <;> rfl
    rw [this, if_neg (by omega)]
  | k + 1, hk, i => by
    have ih := turnS_get (d := d) hn hb k (by omega) i
    have hj : (k + b) % n < n := Nat.mod_lt _ (by omega)
    have hkj := mod_if (show k + b < 2 * n by omega)
    show ((turnS n b d k).set ((k + b) % n) (d.getD k 0)).getD i 0 = _
    by_cases e : i = (k + b) % n
    · have hin : i < n := by omega
      have h2 : (i + n - b) % n = k := by
        rw [mod_if (show i + n - b < 2 * n by omega)]
        rw [hkj] at e
        split at e <;> split <;> omega
      rw [if_pos ⟨hin, by omega⟩, h2, e]
      rw [List.getD_eq_getElem?_getD, List.getElem?_set_self (by rw [turnS_len]; omega)]
      rfl
    · have h3 : (turnS n b d k).getD i 0 = ((turnS n b d k).set ((k + b) % n) (d.getD k 0)).getD i 0 := by
        rw [List.getD_eq_getElem?_getD, List.getD_eq_getElem?_getD, List.getElem?_set_ne (fun h => e h.symm)]
      rw [← h3, ih]
      by_cases hin : i < n
      · have h4 : (i + n - b) % n ≠ k := fun h4 => by
          rw [mod_if (show i + n - b < 2 * n by omega)] at h4
          rw [hkj] at e
          split at h4 <;> split at e <;> omega
        by_cases h5 : (i + n - b) % n < k
        · rw [if_pos ⟨hin, h5⟩, if_pos ⟨hin, by omega⟩]
        · rw [if_neg (fun h => h5 h.2), if_neg (fun h => by omega)]
      · rw [if_neg (fun h => hin h.1), if_neg (fun h => hin h.1)]
theorem turn_get {n b : Nat} {d : List Int} (hn : 1 ≤ n ∧ n ≤ 96) (hb : b < n) (i : Nat) : (turnS n b d n).getD i 0 = if i < n then d.getD ((i + n - b) % n) 0 else 0 := by
  rw [turnS_get hn hb n (Nat.le_refl _)]
  have : (i + n - b) % n < n := Nat.mod_lt _ (by omega)
  by_cases h : i < n
  · rw [if_pos ⟨h, this⟩, if_pos h]
  · rw [if_neg (fun x => h x.1), if_neg h]
theorem getD_wd {d : List Int} (h : Wd d) (i : Nat) : 0 ≤ d.getD i 0 ∧ d.getD i 0 ≤ 4294967295 := by
  by_cases hi : i < d.length
  · have := h.get hi
    simpa [List.getD, hi] using this
  · simp [List.getD, hi]
theorem wd_of_getD {d : List Int} (h : ∀ i, 0 ≤ d.getD i 0 ∧ d.getD i 0 ≤ 4294967295) : Wd d := fun x hx => by
  obtain ⟨i, hi, rfl⟩ := List.getElem_of_mem hx
  have := h i
  simpa [List.getD, hi] using this
theorem pin_turn {n b : Nat} {d : List Int} (hn : 1 ≤ n ∧ n ≤ 96) (hb : b < n) (i t : Nat) : pinB (turnS n b d n) i t = if i < n then pinB d ((i + n - b) % n) t else false := by
  unfold pinB
  rw [turn_get hn hb]
  split
  · rfl
  · simp
theorem turn_wd {n b : Nat} {d : List Int} (hn : 1 ≤ n ∧ n ≤ 96) (hb : b < n) (hd : Wd d) : Wd (turnS n b d n) := wd_of_getD fun i => by
  rw [turn_get hn hb]
  split
  · exact getD_wd hd _
  · omega
theorem turn_within {n b m : Nat} {d : List Int} (hn : 1 ≤ n ∧ n ≤ 96) (hb : b < n) (h : Within d n m) : Within (turnS n b d n) n m := fun k t ht hp => by
  rw [pin_turn hn hb] at hp
  split at hp
  · rename_i h1; exact ⟨h1, (h _ t ht hp).2⟩
  · cases hp
theorem turn_back {n b : Nat} {d : List Int} (hn : 1 ≤ n ∧ n ≤ 96) (hb : b < n) (hl : d.length = 96) (hz : ∀ i, n ≤ i → d.getD i 0 = 0) : turnS n ((n - b) % n) (turnS n b d n) n = d := by
  have hb2 : (n - b) % n < n := Nat.mod_lt _ (by omega)
  refine drum_getD_ext (turnS_len _ _ _ _) hl fun i _ => ?_
  rw [turn_get hn hb2]
  by_cases h : i < n
  · rw [if_pos h, turn_get hn hb, if_pos (Nat.mod_lt _ (by omega))]
    congr 1
    have e1 := mod_if (show n - b < 2 * n by omega)
    have e2 := mod_if (show i + n - (n - b) % n < 2 * n by omega)
    have e3 := mod_if (show (i + n - (n - b) % n) % n + n - b < 2 * n by have := Nat.mod_lt (i + n - (n - b) % n) (show 0 < n by omega); omega)
    rw [e3, e2, e1]
    repeat' split
    all_goals omega
  · rw [if_neg h, hz i (by omega)]
theorem rev_get {n : Nat} {d : List Int} (hl : d.length = 96) (hn : n ≤ 96) (i : Nat) : (revL n d).getD i 0 = if i < n then d.getD (n - 1 - i) 0 else d.getD i 0 := by
  by_cases hi : i < d.length
  · have h2 : i < (revL n d).length := by rw [revL_len]; exact hi
    rw [List.getD_eq_getElem?_getD, List.getElem?_eq_getElem h2]
    simp only [revL, List.getElem_map, List.getElem_range, Option.getD_some]
  · have h2 : ¬ i < (revL n d).length := by rw [revL_len]; exact hi
    rw [if_neg (by omega)]
    simp [List.getD, hi, h2]
theorem pin_rev {n : Nat} {d : List Int} (hl : d.length = 96) (hn : n ≤ 96) (i t : Nat) : pinB (revL n d) i t = if i < n then pinB d (n - 1 - i) t else pinB d i t := by
  unfold pinB
  rw [rev_get hl hn]
  split <;> rfl
theorem rev_wd {n : Nat} {d : List Int} (hl : d.length = 96) (hn : n ≤ 96) (hd : Wd d) : Wd (revL n d) := wd_of_getD fun i => by
  rw [rev_get hl hn]
  split <;> exact getD_wd hd _
theorem rev_within {n m : Nat} {d : List Int} (hl : d.length = 96) (hn : n ≤ 96) (h : Within d n m) : Within (revL n d) n m := fun k t ht hp => by
  rw [pin_rev hl hn] at hp
  split at hp
  · rename_i h1; exact ⟨h1, (h _ t ht hp).2⟩
  · exact h k t ht hp
theorem rev_rev {n : Nat} {d : List Int} (hl : d.length = 96) (hn : n ≤ 96) : revL n (revL n d) = d := by
  refine drum_getD_ext (by rw [revL_len, revL_len, hl]) hl fun i _ => ?_
  rw [rev_get (by rw [revL_len]; exact hl) hn, rev_get hl hn, rev_get hl hn]
  by_cases h : i < n
  · rw [if_pos h, if_pos (by omega), show n - 1 - (n - 1 - i) = i by omega]
  · rw [if_neg h, if_neg h]
/-! ### notes -/
theorem tu_mem {d : List Int} {l : List (Int × Int)} {n : Nat} {x : Int × Int} : x ∈ tuA d l n ↔ ∃ k t : Nat, ∃ ht : t < l.length, k < n ∧ pinB d k t = true ∧ x = ((k : Int), l[t].1) := by
  constructor
  · exact tuA_mem
  · rintro ⟨k, t, ht, hk, hp, rfl⟩
    unfold tuA
    rw [List.mem_map]
    exact ⟨((k : Int), (t : Int)), pins_mem.2 ⟨k, t, hk, ht, hp, rfl⟩, by simp [noteP, ht]⟩
theorem tu_turn {n b : Nat} {d : List Int} {l : List (Int × Int)} (hn : 1 ≤ n ∧ n ≤ 96) (hb : b < n) : (sortU (tuA (turnS n b d n) l n)).length = (sortU (tuA d l n)).length := by
  refine card_eq (rise_nodup (sortU_rise _)) (rise_nodup (sortU_rise _)) (fun x => ((((x.1.toNat + b) % n : Nat) : Int), x.2)) ?_ ?_
  · intro x hx y hy e
    rw [sortU_mem, tu_mem] at hx hy
    obtain ⟨k, t, ht, hk, _, rfl⟩ := hx
    obtain ⟨k2, t2, ht2, hk2, _, rfl⟩ := hy
    simp only [Prod.mk.injEq, Int.toNat_natCast] at e
    have h1 : (k + b) % n = (k2 + b) % n := by omega
    rw [mod_if (show k + b < 2 * n by omega), mod_if (show k2 + b < 2 * n by omega)] at h1
    have : k = k2 := by split at h1 <;> split at h1 <;> omega
    rw [this, e.2]
  · intro z
    simp only [sortU_mem, tu_mem]
    constructor
    · rintro ⟨k, t, ht, hk, hp, rfl⟩
      rw [pin_turn hn hb, if_pos hk] at hp
      refine ⟨((((k + n - b) % n : Nat) : Int), l[t].1), ⟨_, t, ht, Nat.mod_lt _ (by omega), hp, rfl⟩, ?_⟩
      simp only [Int.toNat_natCast]
      have : ((k + n - b) % n + b) % n = k := by
        rw [mod_if (show (k + n - b) % n + b < 2 * n by have := Nat.mod_lt (k + n - b) (show 0 < n by omega); omega), mod_if (show k + n - b < 2 * n by omega)]
        repeat' split
        all_goals omega
      rw [this]
    · rintro ⟨x, ⟨k, t, ht, hk, hp, rfl⟩, rfl⟩
      refine ⟨(k + b) % n, t, ht, Nat.mod_lt _ (by omega), ?_, by simp⟩
      rw [pin_turn hn hb, if_pos (Nat.mod_lt _ (by omega))]
      have : ((k + b) % n + n - b) % n = k := by
        rw [mod_if (show (k + b) % n + n - b < 2 * n by have := Nat.mod_lt (k + b) (show 0 < n by omega); omega), mod_if (show k + b < 2 * n by omega)]
        repeat' split
        all_goals omega
      rw [this]; exact hp
theorem tu_rev {n : Nat} {d : List Int} {l : List (Int × Int)} (hl : d.length = 96) (hn : n ≤ 96) : (sortU (tuA (revL n d) l n)).length = (sortU (tuA d l n)).length := by
  refine card_eq (rise_nodup (sortU_rise _)) (rise_nodup (sortU_rise _)) (fun x => (((n - 1 - x.1.toNat : Nat) : Int), x.2)) ?_ ?_
  · intro x hx y hy e
    rw [sortU_mem, tu_mem] at hx hy
    obtain ⟨k, t, ht, hk, _, rfl⟩ := hx
    obtain ⟨k2, t2, ht2, hk2, _, rfl⟩ := hy
    simp only [Prod.mk.injEq, Int.toNat_natCast] at e
    have : k = k2 := by omega
    rw [this, e.2]
  · intro z
    simp only [sortU_mem, tu_mem]
    constructor
    · rintro ⟨k, t, ht, hk, hp, rfl⟩
      rw [pin_rev hl hn, if_pos hk] at hp
      refine ⟨(((n - 1 - k : Nat) : Int), l[t].1), ⟨_, t, ht, by omega, hp, rfl⟩, ?_⟩
      simp only [Int.toNat_natCast]
      rw [show n - 1 - (n - 1 - k) = k by omega]
    · rintro ⟨x, ⟨k, t, ht, hk, hp, rfl⟩, rfl⟩
      refine ⟨n - 1 - k, t, ht, by omega, ?_, by simp⟩
      rw [pin_rev hl hn, if_pos (by omega), show n - 1 - (n - 1 - k) = k by omega]; exact hp
/-! ### clashes -/
theorem nxt_congr {p q : Nat → Bool} {n : Nat} (h : ∀ j, 1 ≤ j → j < n → p j = q j) : nxt p n = nxt q n := by
  rcases nxt_spec p n with ⟨e, hb⟩ | ⟨h1, h2, h3, hb⟩
  · rw [e]; exact (nxt_none fun j h1 h2 => by rw [← h j h1 h2]; exact hb j h1 h2).symm
  · exact (nxt_some h1 h2 (by rw [← h _ h1 h2]; exact h3) fun j hj1 hj2 => by rw [← h j hj1 (by omega)]; exact hb j hj1 hj2).symm
theorem cl_mem {d : List Int} {n : Nat} {l : List (Int × Int)} {x : Int × Int} : x ∈ clL d n l n ↔ ∃ k t : Nat, k < n ∧ t < l.length ∧ pinB d k t = true ∧ clB d n l k t = true ∧ x = ((k : Int), (t : Int)) := by
  unfold clL clF
  rw [List.mem_filter, pins_mem]
  constructor
  · rintro ⟨⟨k, t, hk, ht, hp, rfl⟩, hc⟩; exact ⟨k, t, hk, ht, hp, by simpa using hc, rfl⟩
  · rintro ⟨k, t, hk, ht, hp, hc, rfl⟩; exact ⟨⟨k, t, hk, ht, hp, rfl⟩, by simpa using hc⟩
theorem cl_nodup (d : List Int) (n : Nat) (l : List (Int × Int)) : (clL d n l n).Nodup := by
  unfold clL clF
  exact List.Pairwise.filter _ (rise_nodup (pins_rise d l.length n))
theorem fw_turn {n b : Nat} {d : List Int} (hn : 1 ≤ n ∧ n ≤ 96) (hb : b < n) {k : Nat} (hk : k < n) (t : Nat) : fwN (turnS n b d n) n ((k + b) % n) t = fwN d n k t := by
  unfold fwN
  refine nxt_congr fun j h1 h2 => ?_
  unfold fwP
  rw [pin_turn hn hb, if_pos (Nat.mod_lt _ (by omega))]
  congr 1
  have m1 := Nat.mod_lt (k + b) (show 0 < n by omega)
  have m2 := Nat.mod_lt ((k + b) % n + j) (show 0 < n by omega)
  rw [mod_if (show ((k + b) % n + j) % n + n - b < 2 * n by omega), mod_if (show (k + b) % n + j < 2 * n by omega), mod_if (show k + b < 2 * n by omega), mod_if (show k + j < 2 * n by omega)]
  repeat' split
  all_goals omega
theorem cl_turn {n b : Nat} {d : List Int} {l : List (Int × Int)} (hn : 1 ≤ n ∧ n ≤ 96) (hb : b < n) : (clL (turnS n b d n) n l n).length = (clL d n l n).length := by
  refine card_eq (cl_nodup _ _ _) (cl_nodup _ _ _) (fun x => ((((x.1.toNat + b) % n : Nat) : Int), x.2)) ?_ ?_
  · intro x hx y hy e
    rw [cl_mem] at hx hy
    obtain ⟨k, t, hk, _, _, _, rfl⟩ := hx
    obtain ⟨k2, t2, hk2, _, _, _, rfl⟩ := hy
    simp only [Prod.mk.injEq, Int.toNat_natCast] at e
    have h1 : (k + b) % n = (k2 + b) % n := by omega
    rw [mod_if (show k + b < 2 * n by omega), mod_if (show k2 + b < 2 * n by omega)] at h1
    have : k = k2 := by split at h1 <;> split at h1 <;> omega
    rw [this, e.2]
  · intro z
    simp only [cl_mem]
    constructor
    · rintro ⟨k, t, hk, ht, hp, hc, rfl⟩
      have hback : ((k + n - b) % n + b) % n = k := by
        rw [mod_if (show (k + n - b) % n + b < 2 * n by have := Nat.mod_lt (k + n - b) (show 0 < n by omega); omega), mod_if (show k + n - b < 2 * n by omega)]
        repeat' split
        all_goals omega
      have hlt : (k + n - b) % n < n := Nat.mod_lt _ (by omega)
      rw [pin_turn hn hb, if_pos hk] at hp
      refine ⟨((((k + n - b) % n : Nat) : Int), (t : Int)), ⟨_, t, hlt, ht, hp, ?_, rfl⟩, ?_⟩
      · have := fw_turn (d := d) hn hb hlt t
        unfold clB at hc ⊢
        rw [hback] at this
        rw [← this]; exact hc
      · simp only [Int.toNat_natCast]
        rw [hback]
    · rintro ⟨x, ⟨k, t, hk, ht, hp, hc, rfl⟩, rfl⟩
      refine ⟨(k + b) % n, t, Nat.mod_lt _ (by omega), ht, ?_, ?_, by simp⟩
      · rw [pin_turn hn hb, if_pos (Nat.mod_lt _ (by omega))]
        have : ((k + b) % n + n - b) % n = k := by
          rw [mod_if (show (k + b) % n + n - b < 2 * n by have := Nat.mod_lt (k + b) (show 0 < n by omega); omega), mod_if (show k + b < 2 * n by omega)]
          repeat' split
          all_goals omega
        rw [this]; exact hp
      · unfold clB at hc ⊢
        rw [fw_turn hn hb hk]; exact hc
theorem fw_rev {n : Nat} {d : List Int} (hl : d.length = 96) (hn : 1 ≤ n ∧ n ≤ 96) {k : Nat} (hk : k < n) (t : Nat) : fwN (revL n d) n (n - 1 - k) t = bwN d n k t := by
  unfold fwN bwN
  refine nxt_congr fun j h1 h2 => ?_
  unfold fwP bwP
  rw [pin_rev hl hn.2, if_pos (Nat.mod_lt _ (by omega))]
  congr 1
  rw [mod_if (show n - 1 - k + j < 2 * n by omega), mod_if (show k + n - j < 2 * n by omega)]
  repeat' split
  all_goals omega
/-- A pin that clashes with the one behind it: that one clashes with the next. -/
theorem fw_of_bw {n : Nat} {d : List Int} {k t j : Nat} (hk : k < n) (hp : pinB d k t = true) (hj : bwN d n k t = j) (hjn : j < n) : 1 ≤ j ∧ pinB d ((k + n - j) % n) t = true ∧ fwN d n ((k + n - j) % n) t = j := by
  rcases nxt_spec (bwP d n k t) n with ⟨e, _⟩ | ⟨h1, h2, h3, hb⟩
  · have : bwN d n k t = n := e
    omega
  · have e : nxt (bwP d n k t) n = j := hj
    rw [e] at h1 h2 h3 hb
    refine ⟨h1, h3, ?_⟩
    unfold fwN
    have m := mod_if (show k + n - j < 2 * n by omega)
    refine nxt_some h1 h2 ?_ fun i hi1 hi2 => ?_
    · unfold fwP
      have : ((k + n - j) % n + j) % n = k := by
        rw [mod_if (show (k + n - j) % n + j < 2 * n by have := Nat.mod_lt (k + n - j) (show 0 < n by omega); omega), m]
        repeat' split
        all_goals omega
      rw [this]; exact hp
    · have := hb (j - i) (by omega) (by omega)
      unfold fwP
      unfold bwP at this
      have e2 : ((k + n - j) % n + i) % n = (k + n - (j - i)) % n := by
        rw [mod_if (show (k + n - j) % n + i < 2 * n by have := Nat.mod_lt (k + n - j) (show 0 < n by omega); omega), m, mod_if (show k + n - (j - i) < 2 * n by omega)]
        repeat' split
        all_goals omega
      rw [e2]; exact this
theorem bw_of_fw {n : Nat} {d : List Int} {k t j : Nat} (hk : k < n) (hp : pinB d k t = true) (hj : fwN d n k t = j) (hjn : j < n) : 1 ≤ j ∧ pinB d ((k + j) % n) t = true ∧ bwN d n ((k + j) % n) t = j := by
  rcases nxt_spec (fwP d n k t) n with ⟨e, _⟩ | ⟨h1, h2, h3, hb⟩
  · have : fwN d n k t = n := e
    omega
  · have e : nxt (fwP d n k t) n = j := hj
    rw [e] at h1 h2 h3 hb
    refine ⟨h1, h3, ?_⟩
    unfold bwN
    have m := mod_if (show k + j < 2 * n by omega)
    refine nxt_some h1 h2 ?_ fun i hi1 hi2 => ?_
    · unfold bwP
      have : ((k + j) % n + n - j) % n = k := by
        rw [mod_if (show (k + j) % n + n - j < 2 * n by have := Nat.mod_lt (k + j) (show 0 < n by omega); omega), m]
        repeat' split
        all_goals omega
      rw [this]; exact hp
    · have := hb (j - i) (by omega) (by omega)
      unfold bwP
      unfold fwP at this
      have e2 : ((k + j) % n + n - i) % n = (k + (j - i)) % n := by
        rw [mod_if (show (k + j) % n + n - i < 2 * n by have := Nat.mod_lt (k + j) (show 0 < n by omega); omega), m, mod_if (show k + (j - i) < 2 * n by omega)]
        repeat' split
        all_goals omega
      rw [e2]; exact this
theorem cl_rev {n : Nat} {d : List Int} {l : List (Int × Int)} (hl : d.length = 96) (hn : 1 ≤ n ∧ n ≤ 96) (hr : ∀ t, t < l.length → rdy l t ≤ (n : Int)) : (clL (revL n d) n l n).length = (clL d n l n).length := by
  refine card_eq (cl_nodup _ _ _) (cl_nodup _ _ _) (fun x => (((n - 1 - (x.1.toNat + fwN d n x.1.toNat x.2.toNat) % n : Nat) : Int), x.2)) ?_ ?_
  · intro x hx y hy e
    rw [cl_mem] at hx hy
    obtain ⟨k, t, hk, ht, hp, hc, rfl⟩ := hx
    obtain ⟨k2, t2, hk2, ht2, hp2, hc2, rfl⟩ := hy
    simp only [Prod.mk.injEq, Int.toNat_natCast] at e
    obtain ⟨e1, e2⟩ := e
    obtain rfl : t = t2 := by omega
    have r1 := hr t ht
    unfold clB at hc hc2
    rw [decide_eq_true_eq] at hc hc2
    have b1 := bw_of_fw hk hp rfl (by omega)
    have b2 := bw_of_fw hk2 hp2 rfl (by omega)
    have m1 := Nat.mod_lt (k + fwN d n k t) (show 0 < n by omega)
    have m2 := Nat.mod_lt (k2 + fwN d n k2 t) (show 0 < n by omega)
    have e3 : (k + fwN d n k t) % n = (k2 + fwN d n k2 t) % n := by omega
    have e4 : fwN d n k t = fwN d n k2 t := by rw [← b1.2.2, ← b2.2.2, e3]
    have hlt : fwN d n k t < n := by omega
    rw [mod_if (show k + fwN d n k t < 2 * n by omega), mod_if (show k2 + fwN d n k2 t < 2 * n by omega)] at e3
    have : k = k2 := by split at e3 <;> split at e3 <;> omega
    rw [this]
  · intro z
    simp only [cl_mem]
    constructor
    · rintro ⟨k, t, hk, ht, hp, hc, rfl⟩
      rw [pin_rev hl hn.2, if_pos hk] at hp
      have hf := fw_rev (d := d) hl hn (show n - 1 - k < n by omega) t
      rw [show n - 1 - (n - 1 - k) = k by omega] at hf
      unfold clB at hc
      rw [decide_eq_true_eq, hf] at hc
      have r1 := hr t ht
      obtain ⟨h1, h2, h3⟩ := fw_of_bw (show n - 1 - k < n by omega) hp rfl (by omega)
      obtain ⟨j, hj⟩ : ∃ j, bwN d n (n - 1 - k) t = j := ⟨_, rfl⟩
      rw [hj] at h1 h2 h3 hc
      refine ⟨((((n - 1 - k + n - j) % n : Nat) : Int), (t : Int)), ⟨_, t, Nat.mod_lt _ (by omega), ht, h2, by unfold clB; rw [decide_eq_true_eq, h3]; exact hc, rfl⟩, ?_⟩
      simp only [Int.toNat_natCast]
      rw [h3]
      have : ((n - 1 - k + n - j) % n + j) % n = n - 1 - k := by
        rw [mod_if (show (n - 1 - k + n - j) % n + j < 2 * n by have := Nat.mod_lt (n - 1 - k + n - j) (show 0 < n by omega); omega), mod_if (show n - 1 - k + n - j < 2 * n by omega)]
        repeat' split
        all_goals omega
      rw [this, show n - 1 - (n - 1 - k) = k by omega]
    · rintro ⟨x, ⟨k, t, hk, ht, hp, hc, rfl⟩, rfl⟩
      have r1 := hr t ht
      unfold clB at hc
      rw [decide_eq_true_eq] at hc
      obtain ⟨h1, h2, h3⟩ := bw_of_fw hk hp rfl (by omega)
      simp only [Int.toNat_natCast]
      obtain ⟨j, hj⟩ : ∃ j, fwN d n k t = j := ⟨_, rfl⟩
      rw [hj] at h1 h2 h3 hc
      rw [hj]
      have m1 := Nat.mod_lt (k + j) (show 0 < n by omega)
      refine ⟨n - 1 - (k + j) % n, t, by omega, ht, ?_, ?_, rfl⟩
      · rw [pin_rev hl hn.2, if_pos (by omega), show n - 1 - (n - 1 - (k + j) % n) = (k + j) % n by omega]; exact h2
      · unfold clB
        rw [decide_eq_true_eq, fw_rev hl hn m1, h3]; exact hc
end Go.Proofs.YtnakdlfjjeligaaGreat
