/-
  The reference's reading of a numeral; notes and hammers out of texts.
-/
import Derived.Test.YtkjpiokmccnhdaaDoorWalkRD
namespace Go.Proofs.YtkjpiokmccnhdaaDoor
open Go.RowKit
set_option linter.unusedVariables false
set_option linter.unusedSimpArgs false
set_option maxRecDepth 4000

def numB (t : List UInt8) : Value := .tuple #[.int .i64 (numZ (num t)), .bool (num t).isSome]
theorem numB_none {t : List UInt8} (h : num t = none) : numB t = .tuple #[.int .i64 0, .bool false] := by unfold numB; rw [h]; rfl
theorem numB_some {n : Nat} {t : List UInt8} (h : num t = some n) : numB t = .tuple #[.int .i64 (n : Int), .bool true] := by unfold numB; rw [h]; rfl
theorem decFrom_lt {l : List UInt8} : ∀ {acc n k : Nat}, Lib.decFrom acc l = some n → acc < 10 ^ k → n < 10 ^ (k + l.length) := by
  induction l with
  | nil => intro acc n k h1 h2; simp only [Lib.decFrom, Option.some.injEq] at h1; subst h1; simpa using h2
  | cons a t ih =>
    intro acc n k h1 h2
    unfold Lib.decFrom at h1
    cases hd : Lib.digitVal a with
    | none => rw [hd] at h1; cases h1
    | some d =>
      rw [hd] at h1
      have hd2 := (digitVal_inv hd).2
      have := ih (k := k + 1) h1 (by rw [Nat.pow_succ]; omega)
      rw [List.length_cons, show k + (t.length + 1) = k + 1 + t.length by omega]
      exact this

set_option maxHeartbeats 800000 in
theorem c_numberIn (t : List UInt8) (w : World) (hne : t ≠ []) (hl : t.length ≤ 10) (hz : ¬ (t.head? = some 48 ∧ 1 < t.length)) :
    Calls Tryd.prog 16 #[txt t] w fun e w' => e = .returned (numB t) ∧ Below w.heap.size w w' := by
  have hst := Tryd.underlying9
  have hnum : num t = Lib.decFrom 0 t := by
    unfold num
    rw [if_neg]
    rintro (h | h | h)
    · exact hne h
    · omega
    · exact hz h
  obtain ⟨b, r, rfl⟩ : ∃ b r, t = b :: r := by cases t with
    | nil => exact absurd rfl hne
    | cons b r => exact ⟨b, r, rfl⟩
  have hlr : r.length ≤ 9 := by simp at hl; omega
  have hbr : (b :: r).length = r.length + 1 := rfl
  obtain ⟨T, hT⟩ : ∃ T, b :: r = T := ⟨_, rfl⟩
  have hTl : T.length = r.length + 1 := by rw [← hT]; rfl
  have g1 : (T == ([] : List UInt8)) = false := by rw [← hT]; rfl
  have g1b : (T = ([] : List UInt8)) = False := by rw [← hT]; simp
  have hT10 : T.length ≤ 10 := by omega
  have h0T : 0 < T.length := by omega
  have hb0 : T[0] = b := by subst hT; rfl
  obtain ⟨bz, hbz⟩ : ∃ x : Int, (b.toNat : Int) = x := ⟨_, rfl⟩
  have HB0 := Lib.hid (show (T[0].toNat : Int) = bz by rw [hb0]; exact hbz)
  have hfirst : bz = 48 → r.length = 0 := fun e => by
    have hb48 : b = 48 := by apply UInt8.toNat_inj.1; simp; omega
    rcases Nat.eq_zero_or_pos r.length with h | h
    · exact h
    · exact absurd ⟨by simp [hb48], by simp; omega⟩ hz
  rw [hT] at hnum ⊢
  have HNUM := Lib.hid hnum
  clear hnum hz hne hl hbr hb0 hbz hT
  have walk : ∀ (z : Bool), (bz == 48) = z → (z = true → T.length = 1) → Calls Tryd.prog 16 #[txt T] w fun e w' => e = .returned (numB T) ∧ Below w.heap.size w w' := by
    intro z hz1 hz2
    have hz3 : decide (bz = 48) = z := by rw [← hz1]; rfl
    have HZ2 := Lib.hid hz2
    clear hz2 hfirst hTl hlr
    cases z
    all_goals
      try (have g6 : decide ((T.length : Int) > 1) = false := decide_eq_false (by have := HZ2.out rfl; omega))
      try (have g7 : (1 < T.length) = False := eq_false (by have := HZ2.out rfl; omega))
      have g8 : decide ((T.length : Int) > 10) = false := decide_eq_false (by omega)
      have g9 : (10 < T.length) = False := eq_false (by omega)
      go_enter Tryd.func16, Tryd.ntmps16
      go_wp2_with (refine wpList_idxS T 0 h0T rfl rfl Tryd.underlying9 rfl rfl ?_; rw [HB0.out])
      go_loopw [4, 5] (fun v i w' => ∃ (k q : Nat), i = .int .i64 (k : Int) ∧ v = .int .i64 (q : Int) ∧ k ≤ T.length ∧ Lib.decFrom 0 (T.take k) = some q ∧ Below w.heap.size w w') (fun _ i _ => T.length - (intOf i).toNat)
      case atStart => exact ⟨0, 0, rfl, rfl, by omega, rfl, Below.refl _ _⟩
      case round =>
        obtain ⟨k, q, rfl, rfl, hk, hq, hb⟩ := hrel
        have HQ := Lib.hid hq
        have hqb := decFrom_lt hq (k := 0) (by decide)
        have hq10 : q < 10 ^ 10 := Nat.lt_of_lt_of_le hqb (Nat.pow_le_pow_right (by decide) (by simp; omega))
        clear hq hqb
        by_cases hlt : k < T.length
        · have hd1 : decide ((k : Int) < (T.length : Int)) = true := decide_eq_true (by omega)
          have hkw : IntKind.i64.wrap ((k : Int) + 1) = ((k + 1 : Nat) : Int) := by rw [IntWalk.i64_in _ (by omega)]; rfl
          obtain ⟨x, hx⟩ : ∃ x : Nat, T[k].toNat = x := ⟨_, rfl⟩
          have HX := Lib.hid (show (T[k].toNat : Int) = (x : Int) by rw [hx])
          by_cases hlo : x < 48
          · have e1 : decide ((x : Int) < 48) = true := decide_eq_true (by omega)
            have e1b : (x < 48) = True := eq_true hlo
            have HF := Lib.hid (numB_none (show num T = none by
              rw [HNUM.out]
              cases hd : Lib.decFrom 0 T with
              | none => rfl
              | some n => have := decFrom_mem hd T[k] (List.getElem_mem hlt); omega))
            clear hlo
            go_wp2_with (refine wpList_idxS T k hlt rfl rfl Tryd.underlying9 rfl rfl ?_; rw [HX.out])
            go_ret2
            exact ⟨by rw [HF.out]; rfl, hb⟩
          · by_cases hhi : 57 < x
            · have e1 : decide ((x : Int) < 48) = false := decide_eq_false (by omega)
              have e1b : (x < 48) = False := eq_false hlo
              have e2 : decide ((x : Int) > 57) = true := decide_eq_true (by omega)
              have e2b : (57 < x) = True := eq_true hhi
              have HF := Lib.hid (numB_none (show num T = none by
                rw [HNUM.out]
                cases hd : Lib.decFrom 0 T with
                | none => rfl
                | some n => have := decFrom_mem hd T[k] (List.getElem_mem hlt); omega))
              clear hlo hhi
              go_wp2_with (refine wpList_idxS T k hlt rfl rfl Tryd.underlying9 rfl rfl ?_; rw [HX.out])
              go_ret2
              exact ⟨by rw [HF.out]; rfl, hb⟩
            · have e1 : decide ((x : Int) < 48) = false := decide_eq_false (by omega)
              have e1b : (x < 48) = False := eq_false hlo
              have e2 : decide ((x : Int) > 57) = false := decide_eq_false (by omega)
              have e2b : (57 < x) = False := eq_false hhi
              obtain ⟨d, hxd⟩ : ∃ d, x = 48 + d := ⟨x - 48, by omega⟩
              have HS := Lib.hid (Lib.decFrom_take T k 0 q T[k] d HQ.out (List.getElem?_eq_getElem hlt) (by unfold Lib.digitVal; rw [hx, if_pos (by omega)]; simp; omega))
              have s1 : IntKind.u8.wrap ((x : Int) - 48) = (d : Int) := by rw [show (x : Int) - 48 = (d : Int) by omega]; exact IntWalk.u8_in _ (by omega)
              have s2 : IntKind.i64.wrap (d : Int) = (d : Int) := IntWalk.i64_in _ (by omega)
              have s3 : IntKind.i64.wrap (10 * (q : Int)) = 10 * (q : Int) := IntWalk.i64_in _ (by omega)
              have s4 : IntKind.i64.wrap (10 * (q : Int) + (d : Int)) = ((q * 10 + d : Nat) : Int) := by rw [IntWalk.i64_in _ (by omega)]; omega
              clear hlo hhi hx hxd
              go_wp2_with (refine wpList_idxS T k hlt rfl rfl Tryd.underlying9 rfl rfl ?_; rw [HX.out])
              go_roundw
              case rel => exact ⟨k + 1, q * 10 + d, rfl, rfl, by omega, HS.out, hb⟩
              case measure => simp [intOf] <;> omega
        · obtain rfl : k = T.length := by omega
          have HF := Lib.hid (numB_some (show num T = some q by rw [HNUM.out, ← HQ.out, List.take_length]))
          go_wp2
          go_ret2
          exact ⟨by rw [HF.out]; rfl, hb⟩
  exact walk _ rfl (fun h => by have := hfirst (by simpa using h); omega)

theorem c_l01Number (t : List UInt8) (w : World) :
    Calls Tryd.prog 16 #[txt t] w fun e w' => e = .returned (numB t) ∧ Below w.heap.size w w' := by
  have hst := Tryd.underlying9
  by_cases hne : t = []
  · have HF := Lib.hid (numB_none (show num t = none by unfold num; rw [if_pos (.inl hne)]))
    have g1 : (t == ([] : List UInt8)) = true := by simpa using hne
    have g1b : (t = ([] : List UInt8)) = True := eq_true hne
    clear hne
    go_enter Tryd.func16, Tryd.ntmps16
    go_wp2
    go_ret2
    exact ⟨by rw [HF.out]; rfl, Below.refl _ _⟩
  · by_cases hl : 10 < t.length
    · have HF := Lib.hid (numB_none (show num t = none by unfold num; rw [if_pos (.inr (.inl hl))]))
      have g1 : (t == ([] : List UInt8)) = false := by simpa using hne
      have g1b : (t = ([] : List UInt8)) = False := eq_false hne
      have g8 : decide ((t.length : Int) > 10) = true := decide_eq_true (by omega)
      have g9 : (10 < t.length) = True := eq_true hl
      clear hne hl
      go_enter Tryd.func16, Tryd.ntmps16
      go_wp2
      go_ret2
      exact ⟨by rw [HF.out]; rfl, Below.refl _ _⟩
    · by_cases hz : t.head? = some 48 ∧ 1 < t.length
      · have HF := Lib.hid (numB_none (show num t = none by unfold num; rw [if_pos (.inr (.inr hz))]))
        have g1 : (t == ([] : List UInt8)) = false := by simpa using hne
        have g1b : (t = ([] : List UInt8)) = False := eq_false hne
        have g8 : decide ((t.length : Int) > 10) = false := decide_eq_false (by omega)
        have g9 : (10 < t.length) = False := eq_false hl
        have g6 : decide ((t.length : Int) > 1) = true := decide_eq_true (by omega)
        have g7 : (1 < t.length) = True := eq_true hz.2
        have h0T : 0 < t.length := by omega
        have HB0 := Lib.hid (show (t[0].toNat : Int) = 48 by
          have h1 := hz.1
          cases t with
          | nil => cases h1
          | cons b r => simp at h1; subst h1; rfl)
        clear hne hl hz
        go_enter Tryd.func16, Tryd.ntmps16
        go_wp2_with (refine wpList_idxS t 0 h0T rfl rfl Tryd.underlying9 rfl rfl ?_; rw [HB0.out])
        go_ret2
        exact ⟨by rw [HF.out]; rfl, Below.refl _ _⟩
      · exact c_numberIn t w hne (by omega) hz

/-! ### what is read -/
theorem spl_piece (c : UInt8) : ∀ (s : List UInt8), ∀ x ∈ spl c s, x.length ≤ s.length
  | [], x, hx => by simp [spl] at hx; subst hx; simp
  | b :: l, x, hx => by
    have ih := spl_piece c l
    unfold spl at hx
    split at hx
    · rcases List.mem_cons.1 hx with rfl | hx
      · simp
      · have := ih x hx; simp; omega
    · cases h : spl c l with
      | nil => exact absurd h (spl_ne c l)
      | cons y ys =>
        rw [h] at hx ih
        simp only [addH, List.mem_cons] at hx
        rcases hx with rfl | hx
        · have := ih y (by simp); simp; omega
        · have := ih x (by simp [hx]); simp; omega
theorem num_nil : num [] = none := by unfold num; rw [if_pos (.inl rfl)]
theorem numI_nil (m : Nat) : numI m [] = none := by unfold numI; rw [num_nil]
theorem numI_out {m : Nat} {t : List UInt8} {c : UInt8} (hc : c ∈ t) (h : c.toNat < 48 ∨ 57 < c.toNat) : numI m t = none := by
  cases hq : numI m t with
  | none => rfl
  | some n => have := num_mem (numI_some.1 hq).1 c hc; omega
theorem nameP_ne {n : Nat} : nameP n ≠ [] := by
  unfold nameP
  intro e
  exact dec_ne _ (List.append_eq_nil_iff.1 e).2
theorem pit_nil : pit [] = none := pit_none (fun i _ => nameP_ne)
theorem nameP_mem {n : Nat} (h : n < 48) : ∀ c ∈ nameP n, c.toNat ≠ 58 := by
  intro c hc
  unfold nameP at hc
  rw [dec_small (by omega)] at hc
  rcases List.mem_append.1 hc with hc | hc
  · have : ∀ r, r < 12 → ∀ c ∈ pNames.getD r [], c.toNat ≠ 58 := by
      intro r hr
      match r, hr with
      | 0, _ => decide
      | 1, _ => decide
      | 2, _ => decide
      | 3, _ => decide
      | 4, _ => decide
      | 5, _ => decide
      | 6, _ => decide
      | 7, _ => decide
      | 8, _ => decide
      | 9, _ => decide
      | 10, _ => decide
      | 11, _ => decide
      | r + 12, hr => omega
    exact this (n % 12) (Nat.mod_lt _ (by omega)) c hc
  · simp only [List.mem_cons, List.mem_nil_iff, or_false] at hc
    subst hc
    rw [UInt8.toNat_ofNat', Nat.mod_eq_of_lt (by omega)]
    omega
theorem pit_out {t : List UInt8} (h : (58 : UInt8) ∈ t) : pit t = none := by
  cases hq : pit t with
  | none => rfl
  | some k =>
    obtain ⟨h1, h2⟩ := pit_inv hq
    subst h2
    exact absurd rfl (nameP_mem h1 58 h)
/-- Two readings that both succeed. -/
def both (a b : Option Nat) : Option (Int × Int) := match a, b with
  | some x, some y => some ((x : Int), (y : Int))
  | _, _ => none
theorem both_none1 (b : Option Nat) : both none b = none := rfl
theorem both_none2 (a : Option Nat) : both a none = none := by cases a <;> rfl
/-- A hammer out of its text, a note out of its text. -/
def hamO (t : List UInt8) : Option (Int × Int) := match spl 47 t with
  | [a, b] => both (pit a) (numI 20 b)
  | _ => none
def notO (t : List UInt8) : Option (Int × Int) := match spl 58 t with
  | [a, b] => both (numI 199 a) (pit b)
  | _ => none
theorem hamO_cut (t : List UInt8) : both (pit (Lib.cut t [47]).1) (numI 20 (Lib.cut t [47]).2.1) = hamO t := by
  unfold hamO
  rcases index_cases t 47 with h | ⟨i, h⟩
  · rw [cut_miss h, spl_miss h]
    exact both_none2 _
  · rw [cut_hit h, (spl_hit h).2]
    rcases index_cases (t.drop (i + 1)) 47 with h2 | ⟨j, h2⟩
    · rw [spl_miss h2]
    · rw [(spl_hit h2).2]
      show both _ (numI 20 (t.drop (i + 1))) = _
      rw [numI_out (index_mem h2) (by decide), both_none2]
      cases hq : spl 47 ((t.drop (i + 1)).drop (j + 1)) with
      | nil => exact absurd hq (spl_ne _ _)
      | cons y ys => rfl
theorem notO_cut (t : List UInt8) : both (numI 199 (Lib.cut t [58]).1) (pit (Lib.cut t [58]).2.1) = notO t := by
  unfold notO
  rcases index_cases t 58 with h | ⟨i, h⟩
  · rw [cut_miss h, spl_miss h]
    show both _ (pit []) = _
    rw [pit_nil]
    exact both_none2 _
  · rw [cut_hit h, (spl_hit h).2]
    rcases index_cases (t.drop (i + 1)) 58 with h2 | ⟨j, h2⟩
    · rw [spl_miss h2]
    · rw [(spl_hit h2).2]
      show both _ (pit (t.drop (i + 1))) = _
      rw [pit_out (index_mem h2), both_none2]
      cases hq : spl 58 ((t.drop (i + 1)).drop (j + 1)) with
      | nil => exact absurd hq (spl_ne _ _)
      | cons y ys => rfl
theorem both_some {a b : Option Nat} {p : Int × Int} (h : both a b = some p) : ∃ x y : Nat, a = some x ∧ b = some y ∧ p = ((x : Int), (y : Int)) := by
  cases a with
  | none => cases h
  | some x => cases b with
    | none => cases h
    | some y => exact ⟨x, y, rfl, rfl, by simpa [both] using h.symm⟩
theorem hamO_bd {t : List UInt8} {p : Int × Int} (h : hamO t = some p) : 0 ≤ p.1 ∧ p.1 ≤ 47 ∧ 0 ≤ p.2 ∧ p.2 ≤ 20 := by
  rw [← hamO_cut] at h
  obtain ⟨x, y, h1, h2, rfl⟩ := both_some h
  have := (pit_inv h1).1
  have := (numI_some.1 h2).2
  simp; omega
theorem notO_bd {t : List UInt8} {p : Int × Int} (h : notO t = some p) : 0 ≤ p.1 ∧ p.1 ≤ 199 ∧ 0 ≤ p.2 ∧ p.2 ≤ 47 := by
  rw [← notO_cut] at h
  obtain ⟨x, y, h1, h2, rfl⟩ := both_some h
  have := (pit_inv h2).1
  have := (numI_some.1 h1).2
  simp; omega
/-- The first k pieces read. -/
def got (f : List UInt8 → Option (Int × Int)) (P : List (List UInt8)) (k : Nat) : List (Int × Int) := (P.take k).filterMap f
theorem got_zero (f : List UInt8 → Option (Int × Int)) (P : List (List UInt8)) : got f P 0 = [] := rfl
theorem got_succ {f : List UInt8 → Option (Int × Int)} {P : List (List UInt8)} {k : Nat} (h : k < P.length) {p : Int × Int} (hp : f P[k] = some p) : got f P (k + 1) = got f P k ++ [p] := by
  unfold got
  rw [List.take_add_one, List.getElem?_eq_getElem h, Option.toList_some, List.filterMap_append]
  simp [hp]
theorem got_len (f : List UInt8 → Option (Int × Int)) (P : List (List UInt8)) (k : Nat) : (got f P k).length ≤ P.length := by
  unfold got
  refine Nat.le_trans (List.length_filterMap_le _ _) ?_
  rw [List.length_take]; omega
theorem got_mem {f : List UInt8 → Option (Int × Int)} {P : List (List UInt8)} {k : Nat} {p : Int × Int} (h : p ∈ got f P k) : ∃ t, f t = some p := by
  unfold got at h
  obtain ⟨t, _, ht⟩ := List.mem_filterMap.1 h
  exact ⟨t, ht⟩
def allO (f : List UInt8 → Option (Int × Int)) (P : List (List UInt8)) : Bool := P.all fun t => (f t).isSome
theorem allO_bad {f : List UInt8 → Option (Int × Int)} {P : List (List UInt8)} {k : Nat} (h : k < P.length) (hp : f P[k] = none) : allO f P = false := by
  unfold allO
  rw [List.all_eq_false]
  exact ⟨P[k], List.getElem_mem h, by simp [hp]⟩
theorem allO_ok {f : List UInt8 → Option (Int × Int)} {P : List (List UInt8)} (h : ∀ k (hk : k < P.length), (f P[k]).isSome = true) : allO f P = true := by
  unfold allO
  rw [List.all_eq_true]
  intro x hx
  obtain ⟨k, hk, rfl⟩ := List.getElem_of_mem hx
  exact h k hk
end Go.Proofs.YtkjpiokmccnhdaaDoor
