/-
  What is said of drums whose tracks are exchanged, of bells, of free tracks, of pins put in and taken out. Plain: no program in it.
-/
import Derived.Test.YtnakdlfjjeligaaGreatPureTD
namespace Go.Proofs.YtnakdlfjjeligaaGreat
set_option linter.unusedVariables false
set_option linter.unusedSimpArgs false

/-! ### tracks exchanged -/
def swN (a b t : Nat) : Nat := if t = a then b else if t = b then a else t
theorem swN_swN (a b t : Nat) : swN a b (swN a b t) = t := by
  unfold swN
  repeat' split
  all_goals omega
theorem pin_swL {d : List Int} (h : Wd d) {k a b : Nat} (hk : k < d.length) (ha : a < 32) (hb : b < 32) {j i : Nat} (hi : i < 32) : pinB (swL d k a b) j i = if j = k then pinB d j (swN a b i) else pinB d j i := by
  rw [← put_put h hk ha hb, pinB_put (putL_bd h k a _) (by rw [putL_len]; exact hk) hb _ hi, pinB_put h hk ha _ hi]
  unfold swN
  by_cases hj : j = k
  · subst hj
    by_cases h1 : i = b
    · subst h1
      rw [if_pos ⟨rfl, rfl⟩, if_pos rfl]
      by_cases h2 : i = a
      · rw [if_pos h2, h2]
      · rw [if_neg h2, if_pos rfl]
    · rw [if_neg (fun x => h1 x.2), if_pos rfl]
      by_cases h2 : i = a
      · rw [if_pos ⟨rfl, h2⟩, if_pos h2]
      · rw [if_neg (fun x => h2 x.2), if_neg h2, if_neg h1]
  · rw [if_neg (fun x => hj x.1), if_neg (fun x => hj x.1), if_neg hj]
theorem pin_swT {d : List Int} (h : Wd d) {a b : Nat} (hl : d.length = 96) (ha : a < 32) (hb : b < 32) : ∀ n, n ≤ 96 → ∀ k t, t < 32 → pinB (swT d a b n) k t = if k < n then pinB d k (swN a b t) else pinB d k t
  | 0, _, k, t, _ => by rw [if_neg (by omega)]; rfl
  | n + 1, hn, k, t, ht => by
    have ih := pin_swT h hl ha hb n (by omega)
    have hs : swN a b t < 32 := by unfold swN; (repeat' split) <;> omega
    show pinB (swL (swT d a b n) n a b) k t = _
    rw [pin_swL (swT_bd h a b n) (by rw [swT_len]; omega) ha hb ht]
    by_cases hk : k = n
    · rw [if_pos hk, ih k _ hs, if_neg (by omega), if_pos (by omega)]
    · rw [if_neg hk, ih k t ht]
      by_cases h2 : k < n
      · rw [if_pos h2, if_pos (by omega)]
      · rw [if_neg h2, if_neg (by omega)]
theorem swT_within {d : List Int} (h : Wd d) {a b n m : Nat} (hl : d.length = 96) (hn : n ≤ 96) (ham : a < m) (hbm : b < m) (hm : m ≤ 32) (hw : Within d n m) : Within (swT d a b n) n m := fun k t ht hp => by
  rw [pin_swT h hl (by omega) (by omega) n hn k t ht] at hp
  have hs : swN a b t < 32 := by unfold swN; (repeat' split) <;> omega
  split at hp
  · rename_i h1
    have := (hw k _ hs hp).2
    refine ⟨h1, ?_⟩
    unfold swN at this
    split at this <;> (try split at this) <;> omega
  · exact hw k t ht hp
theorem swH_get {l : List (Int × Int)} {a b t : Nat} (ha : a < l.length) (hb : b < l.length) (ht : t < (swH l a b).length) : (swH l a b)[t] = l[swN a b t]'(by rw [swH_len] at ht; unfold swN; (repeat' split) <;> omega) := by
  unfold swH swN
  have h1 : l.getD a (0, 0) = l[a] := by simp [List.getD, ha]
  have h2 : l.getD b (0, 0) = l[b] := by simp [List.getD, hb]
  simp only [h1, h2, List.getElem_set]
  by_cases e1 : t = b
  · subst e1
    by_cases e2 : t = a
    · subst e2; simp
    · simp [e2]
  · by_cases e2 : t = a
    · subst e2
      have : ¬ b = t := fun e => e1 e.symm
      simp [this]
    · have h3 : ¬ b = t := fun e => e1 e.symm
      have h4 : ¬ a = t := fun e => e2 e.symm
      simp [h3, h4, e1, e2]
theorem swH_mem {l : List (Int × Int)} {a b : Nat} (ha : a < l.length) (hb : b < l.length) {p : Int × Int} (h : p ∈ swH l a b) : p ∈ l := by
  obtain ⟨t, ht, rfl⟩ := List.getElem_of_mem h
  rw [swH_get ha hb ht]
  exact List.getElem_mem _
theorem swH_drawn {s : Int} {l : List (Int × Int)} (h : DrawnF s l) {a b : Nat} (ha : a < l.length) (hb : b < l.length) : DrawnF s (swH l a b) := ⟨h.1, by rw [swH_len]; exact h.2.1, fun p hp => h.2.2 p (swH_mem ha hb hp)⟩
theorem tu_swap {d : List Int} (h : Wd d) {l : List (Int × Int)} {a b n : Nat} (hl : d.length = 96) (hn : n ≤ 96) (ha : a < l.length) (hb : b < l.length) (hm : l.length ≤ 32) : sortU (tuA (swT d a b n) (swH l a b) n) = sortU (tuA d l n) := by
  refine (sortU_rise _).unique (sortU_rise _) fun x => ?_
  have hs : ∀ t, t < l.length → swN a b t < l.length := fun t ht => by unfold swN; (repeat' split) <;> omega
  rw [sortU_mem, sortU_mem, tu_mem, tu_mem]
  constructor
  · rintro ⟨k, t, ht, hk, hp, rfl⟩
    have ht2 : t < l.length := by rw [swH_len] at ht; exact ht
    rw [pin_swT h hl (by omega) (by omega) n hn k t (by omega), if_pos hk] at hp
    exact ⟨k, swN a b t, hs t ht2, hk, hp, by rw [swH_get ha hb ht]⟩
  · rintro ⟨k, t, ht, hk, hp, rfl⟩
    have ht2 : swN a b t < (swH l a b).length := by rw [swH_len]; exact hs t ht
    refine ⟨k, swN a b t, ht2, hk, ?_, ?_⟩
    · rw [pin_swT h hl (by omega) (by omega) n hn k _ (by have := hs t ht; omega), if_pos hk, swN_swN]; exact hp
    · rw [swH_get ha hb ht2]
      simp only [swN_swN]
/-! ### bells -/
theorem bits64_or (x m : Int) : bits .or .u64 x m = (((BitVec.ofInt 64 x ||| BitVec.ofInt 64 m).toNat : Nat) : Int) := by
  have : bits .or .u64 x m = IntKind.u64.wrap (((BitVec.ofInt 64 x ||| BitVec.ofInt 64 m).toNat : Nat) : Int) := rfl
  rw [this]; exact IntWalk.u64_in _ (by have := (BitVec.ofInt 64 x ||| BitVec.ofInt 64 m).isLt; omega)
theorem bits64_andNot (x m : Int) : bits .andNot .u64 x m = (((BitVec.ofInt 64 x &&& ~~~ BitVec.ofInt 64 m).toNat : Nat) : Int) := by
  have : bits .andNot .u64 x m = IntKind.u64.wrap (((BitVec.ofInt 64 x &&& ~~~ BitVec.ofInt 64 m).toNat : Nat) : Int) := rfl
  rw [this]; exact IntWalk.u64_in _ (by have := (BitVec.ofInt 64 x &&& ~~~ BitVec.ofInt 64 m).isLt; omega)
theorem ofInt64_toNat (v : BitVec 64) : BitVec.ofInt 64 ((v.toNat : Nat) : Int) = v := by
  rw [BitVec.ofInt_natCast, BitVec.ofNat_toNat]; simp
theorem mask64 {t : Nat} (ht : t < 64) (i : Nat) (hi : i < 64) : (BitVec.ofInt 64 (IntKind.u64.wrap (2 ^ t))).getLsbD i = decide (t = i) := by
  have h1 : IntKind.u64.wrap ((2 : Int) ^ t) = ((2 ^ t : Nat) : Int) := by
    have h0 : (2 ^ t : Nat) < 2 ^ 64 := Nat.pow_lt_pow_right (by omega) ht
    have h2 : (2 : Int) ^ t = ((2 ^ t : Nat) : Int) := by push_cast; rfl
    have h3 : (2 : Nat) ^ 64 = 18446744073709551616 := by decide
    rw [h2]
    rw [h3] at h0
    generalize (2 ^ t : Nat) = v at h0 ⊢
    exact IntWalk.u64_in _ (by omega)
  rw [h1, BitVec.ofInt_natCast, BitVec.getLsbD_ofNat, Nat.testBit_two_pow]
  simp [hi]
/-- Bits gathered by or. -/
theorem gather (g : Int × Int → Int) : ∀ (l : List (Int × Int)) (acc : Int), (∀ p ∈ l, 0 ≤ g p ∧ g p ≤ 63) → ∀ i, i < 64 → (BitVec.ofInt 64 (l.foldl (fun acc p => bits .or .u64 acc (IntKind.u64.wrap (2 ^ (g p).toNat))) acc)).getLsbD i = ((BitVec.ofInt 64 acc).getLsbD i || l.any fun p => decide (g p = (i : Int)))
  | [], acc, _, i, _ => by simp
  | p :: l, acc, h, i, hi => by
    rw [List.foldl_cons, gather g l _ (fun q hq => h q (List.mem_cons_of_mem _ hq)) i hi, bits64_or, ofInt64_toNat, BitVec.getLsbD_or, List.any_cons]
    have hp := h p List.mem_cons_self
    rw [mask64 (show (g p).toNat < 64 by omega) i hi, Bool.or_assoc]
    congr 2
    rw [Bool.eq_iff_iff, decide_eq_true_eq, decide_eq_true_eq]
    have h1 : ((g p).toNat : Int) = g p := Int.toNat_of_nonneg hp.1
    omega
theorem bells_cover {t l : List (Int × Int)} (ht : ∀ p ∈ t, 0 ≤ p.2 ∧ p.2 ≤ 47) (hl : ∀ p ∈ l, 0 ≤ p.1 ∧ p.1 ≤ 47) (h : ∀ p ∈ t, ∃ q ∈ l, q.1 = p.2) : bits .andNot .u64 (pitchesL t) (bellsL l) = 0 := by
  rw [bits64_andNot]
  have : BitVec.ofInt 64 (pitchesL t) &&& ~~~ BitVec.ofInt 64 (bellsL l) = 0#64 := BitVec.eq_of_getLsbD_eq fun i hi => by
    have e1 : (BitVec.ofInt 64 (pitchesL t)).getLsbD i = ((BitVec.ofInt 64 0).getLsbD i || t.any fun p => decide (p.2 = (i : Int))) := gather (fun p => p.2) t 0 (fun p hp => by have := ht p hp; omega) i hi
    have e2 : (BitVec.ofInt 64 (bellsL l)).getLsbD i = ((BitVec.ofInt 64 0).getLsbD i || l.any fun p => decide (p.1 = (i : Int))) := gather (fun p => p.1) l 0 (fun p hp => by have := hl p hp; omega) i hi
    rw [BitVec.getLsbD_and, BitVec.getLsbD_not, e1, e2]
    have e0 : (BitVec.ofInt 64 0).getLsbD i = false := by simp
    rw [e0, Bool.false_or, Bool.false_or]
    cases hq : t.any fun p => decide (p.2 = (i : Int)) with
    | false => simp
    | true =>
      obtain ⟨p, hp, he⟩ := List.any_eq_true.1 hq
      obtain ⟨q, hq2, he2⟩ := h p hp
      have : (l.any fun p => decide (p.1 = (i : Int))) = true := List.any_eq_true.2 ⟨q, hq2, by rw [he2]; exact he⟩
      rw [this]; simp
  rw [this]; rfl
/-! ### free tracks -/
theorem ft_le (d : List Int) (n : Nat) (l : List (Int × Int)) (k : Nat) (p : Int) : ∀ m, m ≤ l.length → (ftL d n l k p m).length ≤ numH (l.take m) p
  | 0, _ => by rw [ftL_zero]; simp
  | m + 1, h => by
    have ih := ft_le d n l k p m (by omega)
    rw [ftL_succ, numH_snoc l p m (by omega), List.length_append]
    have : (if ftB d n l k p m then [(m : Int)] else []).length ≤ if decide ((l[m]'(by omega)).1 = p) then 1 else 0 := by
      by_cases hb : ftB d n l k p m = true
      · rw [if_pos hb]
        rw [ftB_at (show m < l.length by omega), Bool.and_eq_true] at hb
        rw [if_pos hb.1]; simp
      · rw [if_neg hb]; simp
    omega
theorem ft_no {d : List Int} {n : Nat} {l : List (Int × Int)} {k m a : Nat} {p : Int} (h : pinB d k a = true) : ¬ ((a : Nat) : Int) ∈ ftL d n l k p m := fun hm => by
  unfold ftL at hm
  obtain ⟨i, hi, e⟩ := List.mem_map.1 hm
  obtain rfl : i = a := by omega
  have := (List.mem_filter.1 hi).2
  unfold ftB frB at this
  rw [h] at this
  simp at this
theorem num_pos {l : List (Int × Int)} {a : Nat} (h : a < l.length) : 1 ≤ numH l l[a].1 := by
  unfold numH
  exact List.countP_pos_iff.2 ⟨l[a], List.getElem_mem h, by simp⟩
/-! ### pins put in and taken out -/
theorem put_back {d : List Int} (h : Wd d) (hl : d.length = 96) {k t : Nat} (hk : k < 96) (ht : t < 32) : putL (putL d k t (!pinB d k t)) k t (pinB d k t) = d := by
  have hk2 : k < d.length := by omega
  have h1 := putL_bd h k t (!pinB d k t)
  refine drum_ext (putL_bd h1 k t _) h (by rw [putL_len, putL_len]) fun j _ i hi => ?_
  rw [pinB_put h1 (by rw [putL_len]; exact hk2) ht _ hi, pinB_put h hk2 ht _ hi]
  by_cases e : j = k ∧ i = t
  · rw [if_pos e, e.1, e.2]
  · rw [if_neg e, if_neg e]
theorem put_within {d : List Int} (h : Wd d) (hl : d.length = 96) {k t N m : Nat} (hk : k < N) (hN : N ≤ 96) (ht : t < m) (hm : m ≤ 32) (on : Bool) (hw : Within d N m) : Within (putL d k t on) N m := fun j i hi hp => by
  rw [pinB_put h (by omega) (by omega) on hi] at hp
  by_cases e : j = k ∧ i = t
  · exact ⟨by omega, by omega⟩
  · rw [if_neg e] at hp; exact hw j i hi hp
theorem popI_pow : ∀ t : Fin 32, popI (2 ^ t.val) = 1 := by decide +kernel
theorem popI_zero : popI 0 = 0 := by unfold popI; rw [show (0 : Int).toNat = 0 from rfl, popF_zero]; rfl
theorem foldl_add (l : List Int) : ∀ a : Int, l.foldl (· + ·) a = a + l.foldl (· + ·) 0 := by
  induction l with
  | nil => intro a; simp
  | cons x l ih => intro a; rw [List.foldl_cons, List.foldl_cons, ih (a + x), ih (0 + x)]; omega
theorem popL_cons (x : Int) (d : List Int) : popL (x :: d) = popI x + popL d := by
  unfold popL
  rw [List.map_cons, List.foldl_cons, foldl_add]; omega
theorem popL_zeros : ∀ d : List Int, (∀ x ∈ d, x = 0) → popL d = 0
  | [], _ => rfl
  | x :: d, h => by
    rw [popL_cons, popL_zeros d (fun y hy => h y (List.mem_cons_of_mem _ hy)), h x List.mem_cons_self, popI_zero]; rfl
theorem popL_one : ∀ (d : List Int) (k : Nat), k < d.length → (∀ i (hi : i < d.length), i ≠ k → d[i] = 0) → ∀ v, d[k]? = some v → popL d = popI v
  | [], k, h, _, _, _ => absurd h (by simp)
  | x :: d, 0, _, h, v, hv => by
    simp only [List.getElem?_cons_zero, Option.some.injEq] at hv
    rw [popL_cons, hv, popL_zeros d (fun y hy => by
      obtain ⟨i, hi, rfl⟩ := List.getElem_of_mem hy
      have := h (i + 1) (by simpa using hi) (by omega)
      simpa using this)]
    omega
  | x :: d, k + 1, hk, h, v, hv => by
    have h0 := h 0 (by simp) (by omega)
    simp only [List.getElem_cons_zero] at h0
    simp only [List.getElem?_cons_succ] at hv
    rw [popL_cons, h0, popI_zero, popL_one d k (by simpa using hk) (fun i hi hne => by
      have := h (i + 1) (by simpa using hi) (by omega)
      simpa using this) v hv]
    omega
theorem andNot_self (x : Int) : bits .andNot .u32 x x = 0 := by
  rw [bits_andNot]
  have : BitVec.ofInt 32 x &&& ~~~ BitVec.ofInt 32 x = 0#32 := BitVec.eq_of_getLsbD_eq fun i hi => by
    rw [BitVec.getLsbD_and, BitVec.getLsbD_not]
    cases (BitVec.ofInt 32 x).getLsbD i <;> simp [hi]
  rw [this]; rfl
theorem less_get {d e : List Int} (hl : d.length = e.length) {i : Nat} (hi : i < (lessD d e).length) : (lessD d e)[i] = bits .andNot .u32 (d.getD i 0) (e.getD i 0) := by
  unfold lessD at hi ⊢
  simp only [List.length_map, List.length_zip] at hi
  simp only [List.getElem_map, List.getElem_zip]
  simp [List.getD, show i < d.length by omega, show i < e.length by omega]
theorem less_len {d e : List Int} (hl : d.length = e.length) : (lessD d e).length = d.length := by unfold lessD; simp [hl]
/-- One pin put in: one to add, none to take. -/
theorem moves_put {d : List Int} (h : Wd d) (hl : d.length = 96) {k t : Nat} (hk : k < 96) (ht : t < 32) (hp : pinB d k t = false) : popL (lessD (putL d k t true) d) = 1 ∧ popL (lessD d (putL d k t true)) = 0 := by
  have hk2 : k < d.length := by omega
  have hgd : d.getD k 0 = d[k] := by simp [List.getD, hk2]
  have hx := h.get hk2
  have hget : ∀ i, (putL d k t true).getD i 0 = if i = k then (((BitVec.ofInt 32 d[k] ||| BitVec.ofInt 32 (2 ^ t % 4294967296)).toNat : Nat) : Int) else d.getD i 0 := fun i => by
    unfold putL
    by_cases e : i = k
    · subst e
      rw [if_pos rfl, List.getD_eq_getElem?_getD, List.getElem?_set_self hk2, hgd, if_pos rfl, bits_or]; rfl
    · rw [if_neg e, List.getD_eq_getElem?_getD, List.getElem?_set_ne (fun h => e h.symm), ← List.getD_eq_getElem?_getD]
  have hb : (BitVec.ofInt 32 d[k]).getLsbD t = false := by rw [← bit_at hx ht, ← pinB_at hk2]; exact hp
  have hpow : (0 : Int) ≤ 2 ^ t ∧ (2 : Int) ^ t ≤ 4294967295 := by
    have h0 : (2 ^ t : Nat) < 2 ^ 32 := Nat.pow_lt_pow_right (by omega) ht
    have h2 : (2 : Int) ^ t = ((2 ^ t : Nat) : Int) := by push_cast; rfl
    have h3 : (2 : Nat) ^ 32 = 4294967296 := by decide
    rw [h2]
    rw [h3] at h0
    generalize (2 ^ t : Nat) = v at h0 ⊢
    omega
  have hmod : (2 : Int) ^ t % 4294967296 = 2 ^ t := Int.emod_eq_of_lt hpow.1 (by omega)
  constructor
  · have hlen : (lessD (putL d k t true) d).length = 96 := by rw [less_len (by rw [putL_len]), putL_len, hl]
    have hk3 : k < (lessD (putL d k t true) d).length := by omega
    have hv : (lessD (putL d k t true) d)[k] = 2 ^ t := by
      rw [less_get (by rw [putL_len]) hk3, hget, if_pos rfl, bits_andNot, ofInt_toNat, hgd]
      have : (BitVec.ofInt 32 d[k] ||| BitVec.ofInt 32 (2 ^ t % 4294967296)) &&& ~~~ BitVec.ofInt 32 d[k] = BitVec.ofInt 32 (2 ^ t % 4294967296) := BitVec.eq_of_getLsbD_eq fun i hi => by
        rw [BitVec.getLsbD_and, BitVec.getLsbD_not, BitVec.getLsbD_or, mask_bit ht i hi]
        by_cases e : t = i
        · subst e; rw [hb]; simp [ht]
        · cases (BitVec.ofInt 32 d[k]).getLsbD i <;> simp [e, hi]
      rw [this, hmod]
      exact ofInt_back hpow
    rw [popL_one _ k hk3 (fun i hi hne => by
      rw [less_get (by rw [putL_len]) hi, hget, if_neg hne]; exact andNot_self _) (2 ^ t) (by rw [List.getElem?_eq_getElem hk3, hv])]
    exact popI_pow ⟨t, ht⟩
  · refine popL_zeros _ fun x hx2 => ?_
    obtain ⟨i, hi, rfl⟩ := List.getElem_of_mem hx2
    rw [less_get (by rw [putL_len]) hi, hget]
    by_cases e : i = k
    · subst e
      rw [if_pos rfl, bits_andNot, ofInt_toNat, hgd]
      have : BitVec.ofInt 32 d[i] &&& ~~~ (BitVec.ofInt 32 d[i] ||| BitVec.ofInt 32 (2 ^ t % 4294967296)) = 0#32 := BitVec.eq_of_getLsbD_eq fun j hj => by
        rw [BitVec.getLsbD_and, BitVec.getLsbD_not, BitVec.getLsbD_or]
        cases (BitVec.ofInt 32 d[i]).getLsbD j <;> simp
      rw [this]; rfl
    · rw [if_neg e]; exact andNot_self _
end Go.Proofs.YtnakdlfjjeligaaGreat
