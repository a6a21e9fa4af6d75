/-
  The plain side of texts that are read back: a frame's text reads as the frame. No program in it.
-/
import Derived.Test.YtjcbailckchnoaaGreatDoorPureWA
import Derived.Test.YtjcbailckchnoaaGreatDoorWalkRF
import Derived.Test.YtjcbailckchnoaaGreatDoorWalkFT
namespace Go.Proofs.YtjcbailckchnoaaGreatDoor
set_option linter.unusedVariables false
set_option linter.unusedSimpArgs false

theorem spl_flat {c : UInt8} {g : Int × Int → List UInt8} : ∀ {l : List (Int × Int)} {x : List UInt8}, c ∉ x → (∀ p ∈ l, c ∉ g p) → spl c (x ++ (l.map fun p => c :: g p).flatten) = x :: l.map g
  | [], x, hx, _ => by simp; exact spl_no hx
  | p :: l, x, hx, h => by
    rw [List.map_cons, List.flatten_cons, List.cons_append, spl_app hx, spl_flat (h p List.mem_cons_self) (fun q hq => h q (List.mem_cons_of_mem _ hq))]
    rfl
def hamG (p : Int × Int) : List UInt8 := nameP p.1.toNat ++ 47 :: Lib.decDigits p.2.toNat
theorem hamT_G (p : Int × Int) : hamT p = 32 :: hamG p := by unfold hamT hamG; simp
theorem hamO_ham {p : Int × Int} (h1 : 0 ≤ p.1 ∧ p.1 ≤ 47) (h2 : 0 ≤ p.2 ∧ p.2 ≤ 20) : hamO (hamG p) = some p := by
  unfold hamO hamG
  rw [spl_app (nameP_out (by omega)).2.1, spl_no (dec_out _ (.inl (by decide)))]
  show both _ _ = _
  rw [numI_dec (by omega) (by omega), pit_name (by omega)]
  unfold both
  simp only []
  congr 1
  exact Prod.ext (by simp; omega) (by simp; omega)
theorem hamG_out {p : Int × Int} (h2 : 0 ≤ p.1 ∧ p.1 ≤ 47) : (32 : UInt8) ∉ hamG p := by
  unfold hamG
  intro h
  rcases List.mem_append.1 h with h | h
  · exact (nameP_out (by omega)).1 h
  · rcases List.mem_cons.1 h with h | h
    · simp at h
    · exact dec_out _ (.inl (by decide)) h
theorem frame_back {s : Int} {l : List (Int × Int)} (hok : okF s l = true) (hb : ∀ p ∈ l, (0 ≤ p.1 ∧ p.1 ≤ 47) ∧ 0 ≤ p.2 ∧ p.2 ≤ 20) : fS (rFT s l) = s ∧ fL (rFT s l) = l ∧ fC (rFT s l) = 0 ∧ (rFT s l).length ≤ 1048576 := by
  obtain ⟨⟨s1, s2⟩, ⟨n1, n2⟩, _⟩ := okF_iff.1 hok
  have e1 : rFT s l = Lib.decDigits s.toNat ++ (l.map fun p => 32 :: hamG p).flatten := by
    unfold rFT fj
    rw [if_pos hok, List.take_length, show hamT = fun p => 32 :: hamG p from funext hamT_G]
  have e2 : spl 32 (rFT s l) = Lib.decDigits s.toNat :: l.map hamG := by rw [e1]; exact spl_flat (dec_out _ (.inl (by decide))) (fun p hp => hamG_out (hb p hp).1)
  have e3 : numI 96 (Lib.decDigits s.toNat) = some s.toNat := numI_dec (by omega) (by omega)
  have e4 : ∀ p ∈ l, hamO (hamG p) = some p := fun p hp => hamO_ham (hb p hp).1 (hb p hp).2
  have e5 : got hamO (l.map hamG) (l.map hamG).length = l := by unfold got; rw [List.take_length]; exact got_map e4
  have e6 : numZ (numI 96 (Lib.decDigits s.toNat)) = s := by rw [e3]; show ((s.toNat : Nat) : Int) = s; omega
  have e7 : fOK (rFT s l) = true := by
    unfold fOK
    rw [e2]
    simp only []
    rw [e5, e6, hok, e3, allO_map e4]
    rfl
  have hln := fj_len (s := s) (l := l) (by omega) (fun i h => by have := hb _ (List.getElem_mem h); omega) l.length (Nat.le_refl _)
  refine ⟨?_, ?_, ?_, ?_⟩
  · unfold fS; rw [if_pos e7, e2]; exact e6
  · unfold fL; rw [if_pos e7, e2]; exact e5
  · unfold fC; rw [if_pos e7]
  · unfold rFT; rw [if_pos hok]; omega
end Go.Proofs.YtjcbailckchnoaaGreatDoor
