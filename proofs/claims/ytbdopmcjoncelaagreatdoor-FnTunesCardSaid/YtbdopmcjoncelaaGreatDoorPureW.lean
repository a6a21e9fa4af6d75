/-
  The plain side of texts that are read back: a tune's text reads as the tune. No program in it.
-/
import Derived.Test.YtbdopmcjoncelaaGreatDoorPureWA
import Derived.Test.YtbdopmcjoncelaaGreatDoorWalkRT
import Derived.Test.YtbdopmcjoncelaaGreatDoorWalkTT
import Derived.Test.YtbdopmcjoncelaaGreatDoorPure
namespace Go.Proofs.YtbdopmcjoncelaaGreatDoor
set_option linter.unusedVariables false
set_option linter.unusedSimpArgs false

theorem spl_join {c : UInt8} : ∀ {xs : List (List UInt8)}, xs ≠ [] → (∀ x ∈ xs, c ∉ x) → spl c (Lib.join xs [c]) = xs
  | [], h, _ => absurd rfl h
  | [x], _, h => by rw [Lib.join_one]; exact spl_no (h x (by simp))
  | x :: y :: r, _, h => by
    have ih := spl_join (c := c) (xs := y :: r) (by simp) (fun z hz => h z (List.mem_cons_of_mem _ hz))
    have e : Lib.join (x :: y :: r) [c] = x ++ c :: Lib.join (y :: r) [c] := by
      rw [Lib.join_cons, Lib.join_cons]
      show x ++ ((y :: r).map ([c] ++ ·)).flatten = _
      rw [List.map_cons, List.flatten_cons]
      simp only [List.cons_append, List.nil_append, List.append_assoc]
      rfl
    rw [e, spl_app (h x (by simp)), ih]
theorem notO_note {p : Int × Int} (h1 : 0 ≤ p.1 ∧ p.1 ≤ 199) (h2 : 0 ≤ p.2 ∧ p.2 ≤ 47) : notO (noteT p) = some p := by
  unfold notO noteT
  rw [show (Lib.decDigits p.1.toNat ++ [58]) ++ nameP p.2.toNat = Lib.decDigits p.1.toNat ++ 58 :: nameP p.2.toNat by simp, spl_app (dec_out _ (.inr (by decide))), spl_no (nameP_out (by omega)).2.2]
  show both _ _ = _
  rw [numI_dec (by omega) (by omega), pit_name (by omega)]
  unfold both
  simp only []
  congr 1
  exact Prod.ext (by simp; omega) (by simp; omega)
theorem noteT_out {p : Int × Int} (h2 : 0 ≤ p.2 ∧ p.2 ≤ 47) : (32 : UInt8) ∉ noteT p := by
  unfold noteT
  intro h
  rcases List.mem_append.1 h with h | h
  · rcases List.mem_append.1 h with h | h
    · exact dec_out _ (.inl (by decide)) h
    · simp at h
  · exact (nameP_out (by omega)).1 h
theorem okT_bd {t : List (Int × Int)} (h : okT t = true) : ∀ p ∈ t, (0 ≤ p.1 ∧ p.1 ≤ 199) ∧ (0 ≤ p.2 ∧ p.2 ≤ 47) := fun p hp => by
  have := okN_of_okT h hp
  rw [okN_iff] at this
  omega
theorem spl_rTT {t : List (Int × Int)} (h : okT t = true) (hne : t ≠ []) : spl 32 (rTT t) = t.map noteT := by
  unfold rTT tj
  rw [h, if_pos rfl, List.take_length]
  exact spl_join (by simpa using hne) (fun x hx => by
    obtain ⟨p, hp, rfl⟩ := List.mem_map.1 hx
    exact noteT_out (okT_bd h p hp).2)
theorem tOK_rTT {t : List (Int × Int)} (h : okT t = true) (hne : t ≠ []) : tOK (rTT t) = true ∧ got notO (spl 32 (rTT t)) (spl 32 (rTT t)).length = t := by
  have hg : got notO (spl 32 (rTT t)) (spl 32 (rTT t)).length = t := by
    rw [spl_rTT h hne]
    unfold got
    rw [List.take_length]
    exact got_map (fun p hp => notO_note (okT_bd h p hp).1 (okT_bd h p hp).2)
  refine ⟨?_, hg⟩
  unfold tOK
  rw [hg, h, Bool.and_true, spl_rTT h hne]
  exact allO_map (fun p hp => notO_note (okT_bd h p hp).1 (okT_bd h p hp).2)
theorem rTT_nil : rTT [] = [] := by
  unfold rTT
  split <;> rfl
/-- The text of a tune reads as the tune. -/
theorem tL_rTT {t : List (Int × Int)} (h : okT t = true) : tL (rTT t) = t ∧ tC (rTT t) = 0 := by
  by_cases hne : t = []
  · subst hne
    rw [rTT_nil]
    exact ⟨by unfold tL; simp, by unfold tC; simp⟩
  · obtain ⟨h1, h2⟩ := tOK_rTT h hne
    have h3 : rTT t ≠ [] := fun e => by
      have := spl_rTT h hne
      rw [e] at this
      have h4 : [[]] = t.map noteT := this
      cases t with
      | nil => exact hne rfl
      | cons p r =>
        simp only [List.map_cons, List.cons.injEq] at h4
        have h5 := congrArg List.length h4.1
        unfold noteT at h5
        simp at h5
    exact ⟨by unfold tL; rw [if_pos ⟨h3, h1⟩, h2], by unfold tC; rw [if_pos (.inr h1)]⟩
theorem rTT_len {t : List (Int × Int)} (h : okT t = true) : (rTT t).length ≤ 24960 := by
  unfold rTT
  rw [h, if_pos rfl]
  have h1 := okT_len h
  have := tj_len (l := t) (fun i hi => ⟨(okT_bd h _ (List.getElem_mem hi)).1.2, (okT_bd h _ (List.getElem_mem hi)).2.2⟩) t.length (Nat.le_refl _)
  omega

end Go.Proofs.YtbdopmcjoncelaaGreatDoor
