/-
  The walks of WithPin and WithoutPin, in the reference and in the program.
-/
import Derived.Test.YtnakdlfjjeligaaGreatWalkDJ
import Derived.Test.YtnakdlfjjeligaaGreatWalkDP
namespace Go.Proofs.YtnakdlfjjeligaaGreat
open Go.RowKit
set_option linter.unusedVariables false
set_option linter.unusedSimpArgs false
set_option maxRecDepth 4000

/-- The code, and the drum, with the pin put in or taken out. -/
noncomputable def cW (s : Int) (l : List (Int × Int)) (d : List Int) (a t : Int) (on : Bool) : Int := if cP s l d a t = 0 then (if pinB d a.toNat t.toNat == on then 4 else 0) else cP s l d a t
noncomputable def rW (s : Int) (l : List (Int × Int)) (d : List Int) (a t : Int) (on : Bool) : List Int := if cW s l d a t on = 0 then putL d a.toNat t.toNat on else zD
theorem rW_len {d : List Int} (hd : d.length = 96) (s : Int) (l : List (Int × Int)) (a t : Int) (on : Bool) : (rW s l d a t on).length = 96 := by
  unfold rW; split
  · rw [putL_len, hd]
  · exact zD_len



set_option maxHeartbeats 800000 in
theorem c_withPut_true (s : Int) (A : Option Addr) (c : Nat) (l : List (Int × Int)) (d : List Int) (a t : Int) (w : World) (h : At2 .i8 .i8 w A l) (hs : W16 s) (hl : Whs l) (hn : l.length ≤ 1073741824) (hd : d.length = 96) (hr : ∀ x ∈ d, 0 ≤ x ∧ x ≤ 4294967295) (hba : -9223372036854775808 ≤ a ∧ a ≤ 9223372036854775807) (hbt : -9223372036854775808 ≤ t ∧ t ≤ 9223372036854775807) :
    Calls Tryz.prog 59 #[.agg #[.int .i16 s, .slice A l.length c], .agg (drumV d), .int .i64 a, .int .i64 t, .bool true] w fun e w' => e = .returned (.tuple #[.agg (drumV (rW s l d a t true)), .int .i64 (cW s l d a t true)]) ∧ Below w.heap.size w w' := by
  have hu2 := Tryz.underlying27
  have v0 : Var (((w.alloc (.cells #[.int .i16 s, .slice A l.length c] 27)).alloc (.cells (drumV d) 31)).alloc (.cells (drumV zD) 31)) w.heap.size #[.int .i16 s, .slice A l.length c] 27 := ((Var.new w _ _).old _).old _
  have v1 : Var (((w.alloc (.cells #[.int .i16 s, .slice A l.length c] 27)).alloc (.cells (drumV d) 31)).alloc (.cells (drumV zD) 31)) (w.heap.size + 1) (drumV d) 31 := by simpa using (Var.new (w.alloc (.cells #[.int .i16 s, .slice A l.length c] 27)) (drumV d) 31).old (.cells (drumV zD) 31)
  have v2 : Var (((w.alloc (.cells #[.int .i16 s, .slice A l.length c] 27)).alloc (.cells (drumV d) 31)).alloc (.cells (drumV zD) 31)) (w.heap.size + 1 + 1) (drumV zD) 31 := by simpa using Var.new ((w.alloc (.cells #[.int .i16 s, .slice A l.length c] 27)).alloc (.cells (drumV d) 31)) (drumV zD) 31
  have B : Below w.heap.size w (((w.alloc (.cells #[.int .i16 s, .slice A l.length c] 27)).alloc (.cells (drumV d) 31)).alloc (.cells (drumV zD) 31)) := balloc (balloc (balloc (Below.refl _ w) _) _) _
  have V0 := Lib.hid v0
  have V1 := Lib.hid v1
  have V2 := Lib.hid v2
  clear v0 v1 v2
  by_cases hx : cP s l d a t = 0
  · obtain ⟨hf, hdd, ⟨a1, a2⟩, t1, t2⟩ := cP_zero hx
    obtain ⟨⟨s1, s2⟩, ⟨n1, n2⟩, _⟩ := okF_iff.1 hf
    obtain ⟨k, rfl⟩ := Int.eq_ofNat_of_zero_le a1
    obtain ⟨j, rfl⟩ := Int.eq_ofNat_of_zero_le t1
    have hk : k < 96 := by omega
    have hj : j < 32 := by omega
    have hk2 : k < d.length := by omega
    have HX := Lib.hid hx
    have HC := Lib.hid (show cW s l d (k : Int) (j : Int) true = if pinB d k j == true then 4 else 0 by unfold cW; rw [if_pos hx, Int.toNat_natCast, Int.toNat_natCast])
    have HRW := Lib.hid (show rW s l d (k : Int) (j : Int) true = if cW s l d (k : Int) (j : Int) true = 0 then putL d k j true else zD by unfold rW; rw [Int.toNat_natCast, Int.toNat_natCast])
    clear hx hf hdd a1 a2 t1 t2 s1 s2 n1 n2 hba hbt
    rcases hpin : pinB d k j with _ | _
    · rw [hpin] at HC
      have HPN := Lib.hid hpin
      clear hpin
      go_enter Tryz.func59, Tryz.ntmps59
      go_wp2_with (first | (refine wpList_alloc_row rfl 31 rfl (.agg (drumV zD)) zero_Drum ?_) | (refine wpList_loadD (by rfl) rfl V1.out rfl Tryz.underlying31 size_Drum hd ?_))
      refine (c_placeCode s A c l d _ _ _ (h.below B) hs hl hn hd).mono ?_
      rintro e w1 ⟨rfl, b1⟩
      rw [HX.out]
      have D1 := Lib.hid (V1.out.below b1)
      have R1 := Lib.hid (V2.out.below b1)
      have B1 := bstep B b1
      clear b1
      go_wp2_with fail
      refine (c_has (w.heap.size + 1) k j d _ (D1.out.drum hd) hr hk hj).mono ?_
      rintro e w' ⟨rfl, rfl⟩
      rw [HPN.out]
      have HM := Lib.hid (show rW s l d (k : Int) (j : Int) true = putL d k j true by
        rw [HRW.out, HC.out]; rfl)
      have HC2 := Lib.hid (show cW s l d (k : Int) (j : Int) true = 0 by rw [HC.out]; rfl)
      have HL := Lib.hid (show (putL d k j true).length = 96 by rw [putL_len, hd])
      go_wp2_with fail
      refine (c_put (w.heap.size + 1) k j true d 31 _ D1.out hd hk hj).mono ?_
      rintro e w2 ⟨rfl, hv, hg⟩
      have HV := Lib.hid hv
      have R2 := Lib.hid (show Var w2 (w.heap.size + 1 + 1) (drumV zD) 31 from (hg.5 _ R1.out.lt (by simp)).trans R1.out)
      have B2 := bgrown B1 hg (fun k hk => by simp at hk; omega)
      clear hv hg
      go_wp2_with (first | (refine wpList_loadD (by rfl) rfl HV.out rfl Tryz.underlying31 size_Drum HL.out ?_) | (refine wpList_storeD rfl rfl R2.out rfl rfl size_Drum HL.out zD_len ?_))
      refine bodyPost_ret (results_drum_int Tryz.results59 _ _ (w.heap.size + 1 + 1) 31 (putL d k j true) rfl (R2.out.row _) Tryz.underlying31 size_Drum HL.out) rfl ⟨?_, brow B2 (by omega) _⟩
      rw [HM.out, HC2.out]; rfl
    · rw [hpin] at HC
      have HPN := Lib.hid hpin
      clear hpin
      go_enter Tryz.func59, Tryz.ntmps59
      go_wp2_with (first | (refine wpList_alloc_row rfl 31 rfl (.agg (drumV zD)) zero_Drum ?_) | (refine wpList_loadD (by rfl) rfl V1.out rfl Tryz.underlying31 size_Drum hd ?_))
      refine (c_placeCode s A c l d _ _ _ (h.below B) hs hl hn hd).mono ?_
      rintro e w1 ⟨rfl, b1⟩
      rw [HX.out]
      have D1 := Lib.hid (V1.out.below b1)
      have R1 := Lib.hid (V2.out.below b1)
      have B1 := bstep B b1
      clear b1
      go_wp2_with fail
      refine (c_has (w.heap.size + 1) k j d _ (D1.out.drum hd) hr hk hj).mono ?_
      rintro e w' ⟨rfl, rfl⟩
      rw [HPN.out]
      have HC2 := Lib.hid (show cW s l d (k : Int) (j : Int) true = 4 by rw [HC.out]; rfl)
      have HM := Lib.hid (show rW s l d (k : Int) (j : Int) true = zD by rw [HRW.out, HC2.out]; rfl)
      go_wp2_with (first | (refine wpList_bz (by rfl) rfl Tryz.underlying31 zero_Drum size_u32 ?_) | (refine wpList_storeD rfl rfl R1.out rfl rfl size_Drum zD_len zD_len ?_))
      refine bodyPost_ret (results_drum_int Tryz.results59 _ _ (w.heap.size + 1 + 1) 31 zD rfl (R1.out.row _) Tryz.underlying31 size_Drum zD_len) rfl ⟨?_, brow B1 (by omega) _⟩
      rw [HM.out, HC2.out]; rfl
  · obtain ⟨p, hp⟩ : ∃ p, cP s l d a t = p := ⟨_, rfl⟩
    have HC := Lib.hid (show cW s l d a t true = p by unfold cW; rw [if_neg hx, hp])
    have HM := Lib.hid (show rW s l d a t true = zD by unfold rW; rw [HC.out, if_neg (by rw [← hp]; exact hx)])
    rw [hp] at hx
    have HP := Lib.hid hp
    have hx2 : (p == 0) = false := by simpa using hx
    clear hp hx
    go_enter Tryz.func59, Tryz.ntmps59
    go_wp2_with (first | (refine wpList_alloc_row rfl 31 rfl (.agg (drumV zD)) zero_Drum ?_) | (refine wpList_loadD (by rfl) rfl V1.out rfl Tryz.underlying31 size_Drum hd ?_))
    refine (c_placeCode s A c l d _ _ _ (h.below B) hs hl hn hd).mono ?_
    rintro e w1 ⟨rfl, b1⟩
    rw [HP.out]
    have D1 := Lib.hid (V1.out.below b1)
    have R1 := Lib.hid (V2.out.below b1)
    have B1 := bstep B b1
    clear b1
    go_wp2_with (first | (refine wpList_bz (by rfl) rfl Tryz.underlying31 zero_Drum size_u32 ?_) | (refine wpList_storeD rfl rfl R1.out rfl rfl size_Drum zD_len zD_len ?_))
    refine bodyPost_ret (results_drum_int Tryz.results59 _ _ (w.heap.size + 1 + 1) 31 zD rfl (R1.out.row _) Tryz.underlying31 size_Drum zD_len) rfl ⟨?_, brow B1 (by omega) _⟩
    rw [HM.out, HC.out]; rfl

set_option maxHeartbeats 800000 in
theorem c_withPut_false (s : Int) (A : Option Addr) (c : Nat) (l : List (Int × Int)) (d : List Int) (a t : Int) (w : World) (h : At2 .i8 .i8 w A l) (hs : W16 s) (hl : Whs l) (hn : l.length ≤ 1073741824) (hd : d.length = 96) (hr : ∀ x ∈ d, 0 ≤ x ∧ x ≤ 4294967295) (hba : -9223372036854775808 ≤ a ∧ a ≤ 9223372036854775807) (hbt : -9223372036854775808 ≤ t ∧ t ≤ 9223372036854775807) :
    Calls Tryz.prog 59 #[.agg #[.int .i16 s, .slice A l.length c], .agg (drumV d), .int .i64 a, .int .i64 t, .bool false] w fun e w' => e = .returned (.tuple #[.agg (drumV (rW s l d a t false)), .int .i64 (cW s l d a t false)]) ∧ Below w.heap.size w w' := by
  have hu2 := Tryz.underlying27
  have v0 : Var (((w.alloc (.cells #[.int .i16 s, .slice A l.length c] 27)).alloc (.cells (drumV d) 31)).alloc (.cells (drumV zD) 31)) w.heap.size #[.int .i16 s, .slice A l.length c] 27 := ((Var.new w _ _).old _).old _
  have v1 : Var (((w.alloc (.cells #[.int .i16 s, .slice A l.length c] 27)).alloc (.cells (drumV d) 31)).alloc (.cells (drumV zD) 31)) (w.heap.size + 1) (drumV d) 31 := by simpa using (Var.new (w.alloc (.cells #[.int .i16 s, .slice A l.length c] 27)) (drumV d) 31).old (.cells (drumV zD) 31)
  have v2 : Var (((w.alloc (.cells #[.int .i16 s, .slice A l.length c] 27)).alloc (.cells (drumV d) 31)).alloc (.cells (drumV zD) 31)) (w.heap.size + 1 + 1) (drumV zD) 31 := by simpa using Var.new ((w.alloc (.cells #[.int .i16 s, .slice A l.length c] 27)).alloc (.cells (drumV d) 31)) (drumV zD) 31
  have B : Below w.heap.size w (((w.alloc (.cells #[.int .i16 s, .slice A l.length c] 27)).alloc (.cells (drumV d) 31)).alloc (.cells (drumV zD) 31)) := balloc (balloc (balloc (Below.refl _ w) _) _) _
  have V0 := Lib.hid v0
  have V1 := Lib.hid v1
  have V2 := Lib.hid v2
  clear v0 v1 v2
  by_cases hx : cP s l d a t = 0
  · obtain ⟨hf, hdd, ⟨a1, a2⟩, t1, t2⟩ := cP_zero hx
    obtain ⟨⟨s1, s2⟩, ⟨n1, n2⟩, _⟩ := okF_iff.1 hf
    obtain ⟨k, rfl⟩ := Int.eq_ofNat_of_zero_le a1
    obtain ⟨j, rfl⟩ := Int.eq_ofNat_of_zero_le t1
    have hk : k < 96 := by omega
    have hj : j < 32 := by omega
    have hk2 : k < d.length := by omega
    have HX := Lib.hid hx
    have HC := Lib.hid (show cW s l d (k : Int) (j : Int) false = if pinB d k j == false then 4 else 0 by unfold cW; rw [if_pos hx, Int.toNat_natCast, Int.toNat_natCast])
    have HRW := Lib.hid (show rW s l d (k : Int) (j : Int) false = if cW s l d (k : Int) (j : Int) false = 0 then putL d k j false else zD by unfold rW; rw [Int.toNat_natCast, Int.toNat_natCast])
    clear hx hf hdd a1 a2 t1 t2 s1 s2 n1 n2 hba hbt
    rcases hpin : pinB d k j with _ | _
    · rw [hpin] at HC
      have HPN := Lib.hid hpin
      clear hpin
      go_enter Tryz.func59, Tryz.ntmps59
      go_wp2_with (first | (refine wpList_alloc_row rfl 31 rfl (.agg (drumV zD)) zero_Drum ?_) | (refine wpList_loadD (by rfl) rfl V1.out rfl Tryz.underlying31 size_Drum hd ?_))
      refine (c_placeCode s A c l d _ _ _ (h.below B) hs hl hn hd).mono ?_
      rintro e w1 ⟨rfl, b1⟩
      rw [HX.out]
      have D1 := Lib.hid (V1.out.below b1)
      have R1 := Lib.hid (V2.out.below b1)
      have B1 := bstep B b1
      clear b1
      go_wp2_with fail
      refine (c_has (w.heap.size + 1) k j d _ (D1.out.drum hd) hr hk hj).mono ?_
      rintro e w' ⟨rfl, rfl⟩
      rw [HPN.out]
      have HC2 := Lib.hid (show cW s l d (k : Int) (j : Int) false = 4 by rw [HC.out]; rfl)
      have HM := Lib.hid (show rW s l d (k : Int) (j : Int) false = zD by rw [HRW.out, HC2.out]; rfl)
      go_wp2_with (first | (refine wpList_bz (by rfl) rfl Tryz.underlying31 zero_Drum size_u32 ?_) | (refine wpList_storeD rfl rfl R1.out rfl rfl size_Drum zD_len zD_len ?_))
      refine bodyPost_ret (results_drum_int Tryz.results59 _ _ (w.heap.size + 1 + 1) 31 zD rfl (R1.out.row _) Tryz.underlying31 size_Drum zD_len) rfl ⟨?_, brow B1 (by omega) _⟩
      rw [HM.out, HC2.out]; rfl
    · rw [hpin] at HC
      have HPN := Lib.hid hpin
      clear hpin
      go_enter Tryz.func59, Tryz.ntmps59
      go_wp2_with (first | (refine wpList_alloc_row rfl 31 rfl (.agg (drumV zD)) zero_Drum ?_) | (refine wpList_loadD (by rfl) rfl V1.out rfl Tryz.underlying31 size_Drum hd ?_))
      refine (c_placeCode s A c l d _ _ _ (h.below B) hs hl hn hd).mono ?_
      rintro e w1 ⟨rfl, b1⟩
      rw [HX.out]
      have D1 := Lib.hid (V1.out.below b1)
      have R1 := Lib.hid (V2.out.below b1)
      have B1 := bstep B b1
      clear b1
      go_wp2_with fail
      refine (c_has (w.heap.size + 1) k j d _ (D1.out.drum hd) hr hk hj).mono ?_
      rintro e w' ⟨rfl, rfl⟩
      rw [HPN.out]
      have HM := Lib.hid (show rW s l d (k : Int) (j : Int) false = putL d k j false by
        rw [HRW.out, HC.out]; rfl)
      have HC2 := Lib.hid (show cW s l d (k : Int) (j : Int) false = 0 by rw [HC.out]; rfl)
      have HL := Lib.hid (show (putL d k j false).length = 96 by rw [putL_len, hd])
      go_wp2_with fail
      refine (c_put (w.heap.size + 1) k j false d 31 _ D1.out hd hk hj).mono ?_
      rintro e w2 ⟨rfl, hv, hg⟩
      have HV := Lib.hid hv
      have R2 := Lib.hid (show Var w2 (w.heap.size + 1 + 1) (drumV zD) 31 from (hg.5 _ R1.out.lt (by simp)).trans R1.out)
      have B2 := bgrown B1 hg (fun k hk => by simp at hk; omega)
      clear hv hg
      go_wp2_with (first | (refine wpList_loadD (by rfl) rfl HV.out rfl Tryz.underlying31 size_Drum HL.out ?_) | (refine wpList_storeD rfl rfl R2.out rfl rfl size_Drum HL.out zD_len ?_))
      refine bodyPost_ret (results_drum_int Tryz.results59 _ _ (w.heap.size + 1 + 1) 31 (putL d k j false) rfl (R2.out.row _) Tryz.underlying31 size_Drum HL.out) rfl ⟨?_, brow B2 (by omega) _⟩
      rw [HM.out, HC2.out]; rfl
  · obtain ⟨p, hp⟩ : ∃ p, cP s l d a t = p := ⟨_, rfl⟩
    have HC := Lib.hid (show cW s l d a t false = p by unfold cW; rw [if_neg hx, hp])
    have HM := Lib.hid (show rW s l d a t false = zD by unfold rW; rw [HC.out, if_neg (by rw [← hp]; exact hx)])
    rw [hp] at hx
    have HP := Lib.hid hp
    have hx2 : (p == 0) = false := by simpa using hx
    clear hp hx
    go_enter Tryz.func59, Tryz.ntmps59
    go_wp2_with (first | (refine wpList_alloc_row rfl 31 rfl (.agg (drumV zD)) zero_Drum ?_) | (refine wpList_loadD (by rfl) rfl V1.out rfl Tryz.underlying31 size_Drum hd ?_))
    refine (c_placeCode s A c l d _ _ _ (h.below B) hs hl hn hd).mono ?_
    rintro e w1 ⟨rfl, b1⟩
    rw [HP.out]
    have D1 := Lib.hid (V1.out.below b1)
    have R1 := Lib.hid (V2.out.below b1)
    have B1 := bstep B b1
    clear b1
    go_wp2_with (first | (refine wpList_bz (by rfl) rfl Tryz.underlying31 zero_Drum size_u32 ?_) | (refine wpList_storeD rfl rfl R1.out rfl rfl size_Drum zD_len zD_len ?_))
    refine bodyPost_ret (results_drum_int Tryz.results59 _ _ (w.heap.size + 1 + 1) 31 zD rfl (R1.out.row _) Tryz.underlying31 size_Drum zD_len) rfl ⟨?_, brow B1 (by omega) _⟩
    rw [HM.out, HC.out]; rfl

theorem c_implWithPin (s : Int) (A : Option Addr) (c : Nat) (l : List (Int × Int)) (d : List Int) (a t : Int) (w : World) (h : At2 .i8 .i8 w A l) (hs : W16 s) (hl : Whs l) (hn : l.length ≤ 1073741824) (hd : d.length = 96) (hr : ∀ x ∈ d, 0 ≤ x ∧ x ≤ 4294967295) (hba : -9223372036854775808 ≤ a ∧ a ≤ 9223372036854775807) (hbt : -9223372036854775808 ≤ t ∧ t ≤ 9223372036854775807) :
    Calls Tryz.prog 25 #[.agg #[.int .i16 s, .slice A l.length c], .agg (drumV d), .int .i64 a, .int .i64 t] w fun e w' => e = .returned (.tuple #[.agg (drumV (rW s l d a t true)), .int .i64 (cW s l d a t true)]) ∧ Below w.heap.size w w' := by
  have hu2 := Tryz.underlying27
  have v0 : Var (((w.alloc (.cells #[.int .i16 s, .slice A l.length c] 27)).alloc (.cells (drumV d) 31)).alloc (.cells (drumV zD) 31)) w.heap.size #[.int .i16 s, .slice A l.length c] 27 := ((Var.new w _ _).old _).old _
  have v1 : Var (((w.alloc (.cells #[.int .i16 s, .slice A l.length c] 27)).alloc (.cells (drumV d) 31)).alloc (.cells (drumV zD) 31)) (w.heap.size + 1) (drumV d) 31 := by simpa using (Var.new (w.alloc (.cells #[.int .i16 s, .slice A l.length c] 27)) (drumV d) 31).old (.cells (drumV zD) 31)
  have v2 : Var (((w.alloc (.cells #[.int .i16 s, .slice A l.length c] 27)).alloc (.cells (drumV d) 31)).alloc (.cells (drumV zD) 31)) (w.heap.size + 1 + 1) (drumV zD) 31 := by simpa using Var.new ((w.alloc (.cells #[.int .i16 s, .slice A l.length c] 27)).alloc (.cells (drumV d) 31)) (drumV zD) 31
  have B : Below w.heap.size w (((w.alloc (.cells #[.int .i16 s, .slice A l.length c] 27)).alloc (.cells (drumV d) 31)).alloc (.cells (drumV zD) 31)) := balloc (balloc (balloc (Below.refl _ w) _) _) _
  have V0 := Lib.hid v0
  have V1 := Lib.hid v1
  have V2 := Lib.hid v2
  clear v0 v1 v2
  have HL := Lib.hid (rW_len hd s l a t true)
  go_enter Tryz.func25, Tryz.ntmps25
  go_wp2_with (first | (refine wpList_alloc_row rfl 31 rfl (.agg (drumV zD)) zero_Drum ?_) | (refine wpList_loadD (by rfl) rfl V1.out rfl Tryz.underlying31 size_Drum hd ?_))
  refine (c_withPut_true s A c l d a t _ (h.below B) hs hl hn hd hr hba hbt).mono ?_
  rintro e w1 ⟨rfl, b1⟩
  have R1 := Lib.hid (V2.out.below b1)
  have B1 := bstep B b1
  clear b1
  go_wp2_with (refine wpList_storeD rfl rfl R1.out rfl rfl size_Drum HL.out zD_len ?_)
  refine bodyPost_ret (results_drum_int Tryz.results25 _ _ (w.heap.size + 1 + 1) 31 (rW s l d a t true) rfl (R1.out.row _) Tryz.underlying31 size_Drum HL.out) rfl ⟨?_, brow B1 (by omega) _⟩
  rfl

theorem c_implWithoutPin (s : Int) (A : Option Addr) (c : Nat) (l : List (Int × Int)) (d : List Int) (a t : Int) (w : World) (h : At2 .i8 .i8 w A l) (hs : W16 s) (hl : Whs l) (hn : l.length ≤ 1073741824) (hd : d.length = 96) (hr : ∀ x ∈ d, 0 ≤ x ∧ x ≤ 4294967295) (hba : -9223372036854775808 ≤ a ∧ a ≤ 9223372036854775807) (hbt : -9223372036854775808 ≤ t ∧ t ≤ 9223372036854775807) :
    Calls Tryz.prog 26 #[.agg #[.int .i16 s, .slice A l.length c], .agg (drumV d), .int .i64 a, .int .i64 t] w fun e w' => e = .returned (.tuple #[.agg (drumV (rW s l d a t false)), .int .i64 (cW s l d a t false)]) ∧ Below w.heap.size w w' := by
  have hu2 := Tryz.underlying27
  have v0 : Var (((w.alloc (.cells #[.int .i16 s, .slice A l.length c] 27)).alloc (.cells (drumV d) 31)).alloc (.cells (drumV zD) 31)) w.heap.size #[.int .i16 s, .slice A l.length c] 27 := ((Var.new w _ _).old _).old _
  have v1 : Var (((w.alloc (.cells #[.int .i16 s, .slice A l.length c] 27)).alloc (.cells (drumV d) 31)).alloc (.cells (drumV zD) 31)) (w.heap.size + 1) (drumV d) 31 := by simpa using (Var.new (w.alloc (.cells #[.int .i16 s, .slice A l.length c] 27)) (drumV d) 31).old (.cells (drumV zD) 31)
  have v2 : Var (((w.alloc (.cells #[.int .i16 s, .slice A l.length c] 27)).alloc (.cells (drumV d) 31)).alloc (.cells (drumV zD) 31)) (w.heap.size + 1 + 1) (drumV zD) 31 := by simpa using Var.new ((w.alloc (.cells #[.int .i16 s, .slice A l.length c] 27)).alloc (.cells (drumV d) 31)) (drumV zD) 31
  have B : Below w.heap.size w (((w.alloc (.cells #[.int .i16 s, .slice A l.length c] 27)).alloc (.cells (drumV d) 31)).alloc (.cells (drumV zD) 31)) := balloc (balloc (balloc (Below.refl _ w) _) _) _
  have V0 := Lib.hid v0
  have V1 := Lib.hid v1
  have V2 := Lib.hid v2
  clear v0 v1 v2
  have HL := Lib.hid (rW_len hd s l a t false)
  go_enter Tryz.func26, Tryz.ntmps26
  go_wp2_with (first | (refine wpList_alloc_row rfl 31 rfl (.agg (drumV zD)) zero_Drum ?_) | (refine wpList_loadD (by rfl) rfl V1.out rfl Tryz.underlying31 size_Drum hd ?_))
  refine (c_withPut_false s A c l d a t _ (h.below B) hs hl hn hd hr hba hbt).mono ?_
  rintro e w1 ⟨rfl, b1⟩
  have R1 := Lib.hid (V2.out.below b1)
  have B1 := bstep B b1
  clear b1
  go_wp2_with (refine wpList_storeD rfl rfl R1.out rfl rfl size_Drum HL.out zD_len ?_)
  refine bodyPost_ret (results_drum_int Tryz.results26 _ _ (w.heap.size + 1 + 1) 31 (rW s l d a t false) rfl (R1.out.row _) Tryz.underlying31 size_Drum HL.out) rfl ⟨?_, brow B1 (by omega) _⟩
  rfl

end Go.Proofs.YtnakdlfjjeligaaGreat
