/-
  Decimal numerals, and the names of pitches, in the reference and in the program.
-/
import Derived.Test.YtjcbailckchnoaaGreatDoorWalkA
import Derived.Test.YtjcbailckchnoaaGreatDoorDataS
import Derived.Test.YtjcbailckchnoaaGreatDoorData
import Derived.Test.YtjcbailckchnoaaGreatDoorShelfC
import Derived.Lib.ItoaNum
namespace Go.Proofs.YtjcbailckchnoaaGreatDoor
open Go.RowKit
set_option linter.unusedVariables false
set_option linter.unusedSimpArgs false
set_option maxRecDepth 4000

theorem dec_small {n : Nat} (h : n < 10) : Lib.decDigits n = [UInt8.ofNat (48 + n)] := by rw [Lib.decDigits, dif_pos h]
theorem dec_big {n : Nat} (h : ¬ n < 10) : Lib.decDigits n = Lib.decDigits (n / 10) ++ [UInt8.ofNat (48 + n % 10)] := by rw [Lib.decDigits, dif_neg h]
theorem dec_len : ∀ (n : Nat), (Lib.decDigits n).length ≤ n + 1 := by
  intro n
  induction n using Nat.strongRecOn with
  | _ n ih =>
    by_cases h : n < 10
    · rw [dec_small h]; simp
    · rw [dec_big h, List.length_append]
      have := ih (n / 10) (Nat.div_lt_self (by omega) (by omega))
      have h2 : n / 10 + 1 + 1 ≤ n + 1 := by omega
      simp; omega
theorem digit_cell (w : World) (z : Nat) (hz : z < 256) (t : TypeId) : ∀ j (hj : j < [UInt8.ofNat z].length), (w.alloc (.cells #[.int .u8 (z : Int)] t)).cell? ⟨w.heap.size, j, none⟩ = some (.int .u8 ([UInt8.ofNat z][j].toNat : Int)) := fun j hj => by
  obtain rfl : j = 0 := by simp at hj; omega
  have hbt : ((UInt8.ofNat z).toNat : Int) = (z : Int) := by rw [UInt8.toNat_ofNat', Nat.mod_eq_of_lt (by omega)]
  rw [List.getElem_cons_zero, hbt]
  exact cell_new w #[.int .u8 (z : Int)] t (i := 0) rfl


/-- The names of the twelve pitches. -/
def pNames : List (List UInt8) := [[99], [99, 35], [100], [100, 35], [101], [102], [102, 35], [103], [103, 35], [97], [97, 35], [98]]
def nameP (n : Nat) : List UInt8 := pNames.getD (n % 12) [] ++ Lib.decDigits (n / 12)
/-- The name of a pitch, empty where it is none. -/
def rName (a : Int) : List UInt8 := if inB a 0 47 then nameP a.toNat else []
def pCells : Array Value := #[.string ⟨#[99]⟩, .string ⟨#[99, 35]⟩, .string ⟨#[100]⟩, .string ⟨#[100, 35]⟩, .string ⟨#[101]⟩, .string ⟨#[102]⟩, .string ⟨#[102, 35]⟩, .string ⟨#[103]⟩, .string ⟨#[103, 35]⟩, .string ⟨#[97]⟩, .string ⟨#[97, 35]⟩, .string ⟨#[98]⟩]
theorem pCells_get {r : Nat} (h : r < 12) : pCells[r]? = some (txt (pNames.getD r [])) := by
  match r, h with
  | 0, _ => rfl
  | 1, _ => rfl
  | 2, _ => rfl
  | 3, _ => rfl
  | 4, _ => rfl
  | 5, _ => rfl
  | 6, _ => rfl
  | 7, _ => rfl
  | 8, _ => rfl
  | 9, _ => rfl
  | 10, _ => rfl
  | 11, _ => rfl
  | r + 12, h => omega
theorem pName_len (r : Nat) (h : r < 12) : (pNames.getD r []).length ≤ 2 := by
  match r, h with
  | 0, _ => decide
  | 1, _ => decide
  | 2, _ => decide
  | 3, _ => decide
  | 4, _ => decide
  | 5, _ => decide
  | 6, _ => decide
  | 7, _ => decide
  | 8, _ => decide
  | 9, _ => decide
  | 10, _ => decide
  | 11, _ => decide
  | r + 12, h => omega
theorem nameP_len {n : Nat} (h : n ≤ 47) : (nameP n).length ≤ 6 := by
  unfold nameP
  have h1 := pName_len (n % 12) (Nat.mod_lt _ (by omega))
  have h2 := dec_len (n / 12)
  rw [List.length_append]; omega

theorem c_decimal (n : Nat) (w : World) (hn : n < 100) :
    Calls Tryz.prog 33 #[.int .i64 (n : Int)] w fun e w' => e = .returned (txt (Lib.decDigits n)) ∧ Below w.heap.size w w' := by
  go_enter Tryz.func33, Tryz.ntmps33
  go_wp2_with fail
  refine (Tryz.strconv_FormatInt_10_small n hn _).mono ?_
  rintro e w' ⟨rfl, rfl⟩
  go_wp2
  go_ret
  exact ⟨rfl, Below.refl _ _⟩
set_option maxHeartbeats 800000 in
theorem c_implName (n : Nat) (w : World) (hn : n ≤ 47) :
    Calls Tryz.prog 34 #[.int .i64 (n : Int)] w fun e w' => e = .returned (txt (nameP n)) ∧ Below w.heap.size w w' := by
  have hst := Tryz.underlying9
  obtain ⟨r, hr⟩ : ∃ r, n % 12 = r := ⟨_, rfl⟩
  obtain ⟨p, hp⟩ : ∃ p, n / 12 = p := ⟨_, rfl⟩
  have hr12 : r < 12 := by rw [← hr]; exact Nat.mod_lt _ (by omega)
  have hp4 : p < 4 := by rw [← hp]; omega
  have r1 : ((n : Int)).tmod 12 = (r : Int) := by rw [Int.tmod_eq_emod_of_nonneg (by omega), ← hr]; rfl
  have r2 : ((n : Int)).tdiv 12 = (p : Int) := by rw [Int.tdiv_eq_ediv_of_nonneg (by omega), ← hp]; rfl
  have s3 : IntKind.i64.wrap (r : Int) = (r : Int) := IntWalk.i64_in _ (by omega)
  have s4 : IntKind.i64.wrap (p : Int) = (p : Int) := IntWalk.i64_in _ (by omega)
  have i1 : (0 : Int) ≤ (r : Int) := by omega
  have i2 : (r : Int) < 12 := by omega
  have HF := Lib.hid (show txt (nameP n) = txt (pNames.getD r [] ++ Lib.decDigits p) by unfold nameP; rw [hr, hp])
  have hl1 : (pNames.getD r []).length ≤ 8388608 := Nat.le_trans (pName_len r hr12) (by decide)
  have hl2 : (Lib.decDigits p).length ≤ 8388608 := Nat.le_trans (dec_len p) (by omega)
  have V := Lib.hid (Var.new w pCells 9)
  have B := balloc (Below.refl _ w) (.cells pCells 9)
  obtain ⟨NR, hNR⟩ : ∃ x, pNames.getD r [] = x := ⟨_, rfl⟩
  have HC := Lib.hid ((pCells_get hr12).trans (by rw [hNR]))
  rw [hNR] at HF hl1
  clear hr hp hNR
  have hin : inB (n : Int) 0 47 = true := by unfold inB; simp; omega
  go_enter Tryz.func34, Tryz.ntmps34
  go_upto_region 4 with (go_at_call 45; refine (c_isPitch _ _).mono ?_; rintro e w' ⟨rfl, rfl⟩; rw [hin])
  obtain ⟨w1, hw1⟩ : ∃ x, (w.alloc (.cells pCells 9)) = x := ⟨_, rfl⟩
  have hfold : w.alloc (.cells #[.string ⟨#[99]⟩, .string ⟨#[99, 35]⟩, .string ⟨#[100]⟩, .string ⟨#[100, 35]⟩, .string ⟨#[101]⟩, .string ⟨#[102]⟩, .string ⟨#[102, 35]⟩, .string ⟨#[103]⟩, .string ⟨#[103, 35]⟩, .string ⟨#[97]⟩, .string ⟨#[97, 35]⟩, .string ⟨#[98]⟩] 9) = w1 := hw1
  rw [hfold]
  rw [hw1] at V B
  clear hfold hw1
  refine wp_region_held_drew (S := (Below w1.heap.size w1)) (by kernel_rfl) (bdrew (Below.refl _ _)) (fun hHeld => ?_)
  obtain ⟨u, hu⟩ : ∃ x, w1.drew = x := ⟨_, rfl⟩
  rw [hu] at hHeld ⊢
  clear hu
  refine takeL (i := 0) (v := .slice (some ⟨w.heap.size, 0, none⟩) 12 12) rfl (by kernel_rfl) (by kernel_rfl) (by kernel_rfl) (fun _ _ _ h => h) (Or.inl ⟨by rfl, by intro w' hS; clear hS; go_simp⟩) hHeld ?_
  simp only [Act.put, List.setIfInBounds_toArray, List.set_cons_zero, List.set_cons_succ]
  refine takeL (i := 1) (v := .int .i64 (n : Int)) rfl (by kernel_rfl) (by kernel_rfl) (by kernel_rfl) (fun _ _ _ h => h) (Or.inl ⟨by rfl, by intro w' hS; clear hS; go_simp⟩) hHeld ?_
  simp only [Act.put, List.setIfInBounds_toArray, List.set_cons_zero, List.set_cons_succ]
  refine takeL (i := 2) (v := .int .i64 (r : Int)) rfl (by kernel_rfl) (by kernel_rfl) (by kernel_rfl) (fun _ _ _ h => h) (Or.inl ⟨by rfl, by intro w' hS; clear hS; go_simp⟩) hHeld ?_
  simp only [Act.put, List.setIfInBounds_toArray, List.set_cons_zero, List.set_cons_succ]
  refine takeL (i := 3) (v := .pointer (some ⟨w.heap.size, r, none⟩)) rfl (by kernel_rfl) (by kernel_rfl) (by kernel_rfl) (fun _ _ _ h => h) (Or.inl ⟨by rfl, by intro w' hS; clear hS; go_simp⟩) hHeld ?_
  simp only [Act.put, List.setIfInBounds_toArray, List.set_cons_zero, List.set_cons_succ]
  refine takeL (i := 4) (v := txt NR) rfl (by kernel_rfl) (by kernel_rfl) (by kernel_rfl) (fun _ _ _ h => h) (Or.inl ⟨by rfl, by intro w' hS; have y1 := (V.out.below hS).cell HC.out; clear hS; go_simp⟩) hHeld ?_
  simp only [Act.put, List.setIfInBounds_toArray, List.set_cons_zero, List.set_cons_succ]
  refine takeL (i := 5) (v := .int .i64 (n : Int)) rfl (by kernel_rfl) (by kernel_rfl) (by kernel_rfl) (fun _ _ _ h => h) (Or.inl ⟨by rfl, by intro w' hS; clear hS; go_simp⟩) hHeld ?_
  simp only [Act.put, List.setIfInBounds_toArray, List.set_cons_zero, List.set_cons_succ]
  refine takeL (i := 6) (v := .int .i64 (p : Int)) rfl (by kernel_rfl) (by kernel_rfl) (by kernel_rfl) (fun _ _ _ h => h) (Or.inl ⟨by rfl, by intro w' hS; clear hS; go_simp⟩) hHeld ?_
  simp only [Act.put, List.setIfInBounds_toArray, List.set_cons_zero, List.set_cons_succ]
  refine wpAnyH_ready (rs := [7]) (by kernel_rfl) (by simp) ?_
  refine readyL rfl (fun K hK => ?_) AllReadyH.nil
  go_simp
  refine (c_decimal p _ (by omega)).mono ?_
  rintro e v ⟨rfl, hbk⟩
  go_wp2_with fail
  refine hK.out _ _ (bstep hHeld hbk) (fun hHeld => ?_)
  clear hK K
  try simp only [Act.put, List.setIfInBounds_toArray, List.set_cons_zero, List.set_cons_succ]
  refine wpAnyH_ready (rs := [8]) (by kernel_rfl) (by simp) ?_
  refine readyL rfl (fun K hK => ?_) AllReadyH.nil
  rw [if_pos (by rfl)]
  refine wp_addS NR (Lib.decDigits p) rfl rfl rfl hl1 hl2 ?_
  refine hK.out _ _ (hHeld) (fun hHeld => ?_)
  clear hK K
  try simp only [Act.put, List.setIfInBounds_toArray, List.set_cons_zero, List.set_cons_succ]
  refine wpAnyH_ready (rs := [9]) (by kernel_rfl) (by simp) ?_
  refine readyL rfl (fun K hK => ?_) AllReadyH.nil
  go_simp
  refine hK.out _ _ (hHeld) (fun hHeld => ?_)
  clear hK K
  try simp only [Act.put, List.setIfInBounds_toArray, List.set_cons_zero, List.set_cons_succ]
  refine wpAnyH_done (by kernel_rfl) ?_ _
  have HH := Lib.hid hHeld
  clear hHeld
  go_wp2_with fail
  go_ret
  exact ⟨congrArg Ending.returned HF.out.symm, bstep B HH.out⟩

theorem c_implPitchName (a : Int) (w : World) :
    Calls Tryz.prog 34 #[.int .i64 a] w fun e w' => e = .returned (txt (rName a)) ∧ Below w.heap.size w w' := by
  rcases h : inB a 0 47 with _ | _
  · have HF := Lib.hid (show rName a = [] by unfold rName; rw [h]; rfl)
    have H := Lib.hid h
    clear h
    go_enter Tryz.func34, Tryz.ntmps34
    go_wp2_with fail
    refine (c_isPitch _ _).mono ?_
    rintro e w' ⟨rfl, rfl⟩
    rw [H.out]
    go_wp2
    go_ret
    exact ⟨by rw [HF.out]; rfl, Below.refl _ _⟩
  · have h2 := h
    unfold inB at h2
    simp only [Bool.and_eq_true, decide_eq_true_eq] at h2
    obtain ⟨n, rfl⟩ := Int.eq_ofNat_of_zero_le h2.1
    have HF := Lib.hid (show rName (n : Int) = nameP n by unfold rName; rw [h]; rfl)
    rw [HF.out]
    exact c_implName n w (by omega)

end Go.Proofs.YtjcbailckchnoaaGreatDoor
