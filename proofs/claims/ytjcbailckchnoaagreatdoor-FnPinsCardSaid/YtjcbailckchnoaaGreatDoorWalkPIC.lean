/-
  The walks of DrumPicture, in the reference and in the program.
-/
import Derived.Test.YtjcbailckchnoaaGreatDoorWalkDR
import Derived.Test.YtjcbailckchnoaaGreatDoorWalkDJ
import Derived.Test.YtjcbailckchnoaaGreatDoorData
import Derived.Test.YtjcbailckchnoaaGreatDoorWalkST
namespace Go.Proofs.YtjcbailckchnoaaGreatDoor
open Go.RowKit
set_option linter.unusedVariables false
set_option linter.unusedSimpArgs false
set_option maxRecDepth 4000

theorem cD0 {s : Int} {l : List (Int × Int)} {d : List Int} (h : cD s l d = 0) : okF s l = true ∧ okD l.length s d = true := by
  unfold cD at h
  split at h
  · rename_i hx; simpa using hx
  · cases h

/-- The sign of a place of the picture. -/
noncomputable def picB (d : List Int) (n : Nat) (l : List (Int × Int)) (k t : Nat) : UInt8 := if (pinB d k t && clB d n l k t) = true then 33 else if pinB d k t = true then 120 else 46
noncomputable def picR (d : List Int) (n : Nat) (l : List (Int × Int)) (t k : Nat) : List UInt8 := (List.range k).map fun i => picB d n l i t
theorem picR_len (d : List Int) (n : Nat) (l : List (Int × Int)) (t k : Nat) : (picR d n l t k).length = k := by simp [picR]
theorem picR_zero (d : List Int) (n : Nat) (l : List (Int × Int)) (t : Nat) : picR d n l t 0 = [] := rfl
theorem picR_succ (d : List Int) (n : Nat) (l : List (Int × Int)) (t k : Nat) : picR d n l t (k + 1) = picR d n l t k ++ [picB d n l k t] := by unfold picR; rw [List.range_succ, List.map_append]; rfl
/-- The rows of the picture above row r. -/
noncomputable def picL (d : List Int) (n : Nat) (l : List (Int × Int)) (r : Nat) : List (List UInt8) := (List.range (l.length - r)).map fun i => picR d n l (l.length - 1 - i) n
theorem picL_len (d : List Int) (n : Nat) (l : List (Int × Int)) (r : Nat) : (picL d n l r).length = l.length - r := by simp [picL]
theorem picL_top (d : List Int) (n : Nat) (l : List (Int × Int)) : picL d n l l.length = [] := by simp [picL]
theorem picL_step (d : List Int) (n : Nat) (l : List (Int × Int)) {t : Nat} (h : t < l.length) : picL d n l t = picL d n l (t + 1) ++ [picR d n l t n] := by
  unfold picL
  rw [show l.length - t = (l.length - (t + 1)) + 1 by omega, List.range_succ, List.map_append, List.map_cons, List.map_nil, show l.length - 1 - (l.length - (t + 1)) = t by omega]
noncomputable def rPic (s : Int) (l : List (Int × Int)) (d : List Int) : List (List UInt8) := if cD s l d = 0 then picL d s.toNat l 0 else []
theorem rPic_len (s : Int) (l : List (Int × Int)) (d : List Int) : (rPic s l d).length ≤ 24 := by
  unfold rPic
  split
  · rename_i hx
    obtain ⟨hf, _⟩ := cD0 hx
    obtain ⟨_, ⟨n1, n2⟩, _⟩ := okF_iff.1 hf
    rw [picL_len]; omega
  · simp
def bI (p : List UInt8) : List Int := p.map fun b => (b.toNat : Int)
theorem bI_len (p : List UInt8) : (bI p).length = p.length := by simp [bI]
theorem info_u8 : (Tryz.prog.info? 5).map (fun i => (i.zero, i.size, i.bytes)) = some (some (.int .u8 0), 1, 1) := by kernel_rfl


theorem c_sizeH (A : Option Addr) (n c : Nat) (w : World) :
    Calls Tryz.prog 39 #[.slice A n c] w fun e w' => e = .returned (.int .i64 (n : Int)) ∧ w = w' := by
  go_enter Tryz.func39, Tryz.ntmps39
  go_wp2
  go_ret
  exact ⟨rfl, rfl⟩

set_option maxHeartbeats 1600000 in
theorem c_implDrumPicture (s : Int) (A : Option Addr) (c : Nat) (l : List (Int × Int)) (d : List Int) (w : World) (h : At2 .i8 .i8 w A l) (hs : W16 s) (hl : Whs l) (hn : l.length ≤ 1073741824) (hd : d.length = 96) (hr : ∀ x ∈ d, 0 ≤ x ∧ x ≤ 4294967295) :
    Calls Tryz.prog 13 #[.agg #[.int .i16 s, .slice A l.length c], .agg (drumV d)] w fun e w' => ∃ A' c', e = .returned (.tuple #[.slice A' (rPic s l d).length c', .int .i64 (cD s l d)]) ∧ OwnS 9 w' w.heap.size (.slice A' (rPic s l d).length c') (rPic s l d) ∧ Below w.heap.size w w' := by
  have hst := Tryz.underlying9
  have hu2 := Tryz.underlying27
  have v0 : Var (((w.alloc (.cells #[.int .i16 s, .slice A l.length c] 27)).alloc (.cells (drumV d) 31)).alloc (.cells (drumV d) 31)) w.heap.size #[.int .i16 s, .slice A l.length c] 27 := ((Var.new w _ _).old _).old _
  have v1 : Var ((w.alloc (.cells #[.int .i16 s, .slice A l.length c] 27)).alloc (.cells (drumV d) 31)) (w.heap.size + 1) (drumV d) 31 := by simpa using Var.new (w.alloc (.cells #[.int .i16 s, .slice A l.length c] 27)) (drumV d) 31
  have v3 : Var (((w.alloc (.cells #[.int .i16 s, .slice A l.length c] 27)).alloc (.cells (drumV d) 31)).alloc (.cells (drumV d) 31)) (w.heap.size + 1 + 1) (drumV d) 31 := by simpa using Var.new ((w.alloc (.cells #[.int .i16 s, .slice A l.length c] 27)).alloc (.cells (drumV d) 31)) (drumV d) 31
  have B : Below w.heap.size w (((w.alloc (.cells #[.int .i16 s, .slice A l.length c] 27)).alloc (.cells (drumV d) 31)).alloc (.cells (drumV d) 31)) := balloc (balloc (balloc (Below.refl _ w) _) _) _
  have V0 := Lib.hid v0
  have V1 := Lib.hid v1
  have U1 := Lib.hid (v1.old (.cells (drumV d) 31))
  have V3 := Lib.hid v3
  clear v0 v1 v3
  by_cases hx : cD s l d = 0
  · obtain ⟨hf, hdd⟩ := cD0 hx
    obtain ⟨⟨s1, s2⟩, ⟨n1, n2⟩, _⟩ := okF_iff.1 hf
    obtain ⟨n, rfl⟩ := Int.eq_ofNat_of_zero_le (show 0 ≤ s by omega)
    have HM := Lib.hid (show rPic (n : Int) l d = picL d n l 0 by unfold rPic; rw [if_pos hx, Int.toNat_natCast])
    have hn96 : n ≤ 96 := by omega
    have hn2 : 2 ≤ n := by omega
    have hl24 : l.length ≤ 24 := by omega
    have hl32 : l.length ≤ 32 := by omega
    have HX := Lib.hid hx
    clear hx hf hdd s1 s2 n1 n2
    go_enter Tryz.func13, Tryz.ntmps13
    go_wp2_with (first | (refine wpList_loadD (by rfl) rfl V1.out rfl Tryz.underlying31 size_Drum hd ?_) | (refine wpList_bd1 (by rfl) rfl (by simp [Act.eval, Act.put]) Tryz.underlying106 zero_Drum size_Drum hd ?_))
    refine (c_drumCode _ (n : Int) A c 1 l [d] _ (h.below B) (DrumsAt.one V3.out hd) hs hl hn (by simp)).mono ?_
    rintro e w1 ⟨rfl, b1⟩
    rw [cD_eq, HX.out]
    have F1 := Lib.hid (V0.out.below b1)
    have D1 := Lib.hid ((U1.out.below b1).drum hd)
    have B1 := bstep B b1
    have HA := Lib.hid (h.below B1)
    clear b1
    have f2 := (F1.out.old (.cells #[] 9)).cell (i := 1) rfl
    have hwl : IntKind.i64.wrap ((l.length : Int) - 1) = (l.length : Int) - 1 := IntWalk.i64_in _ (by omega)
    go_wp2_with fail
    refine (c_sizeH A l.length c _).mono ?_
    rintro e w' ⟨rfl, rfl⟩
    go_wp2
    clear f2
    go_loopw [7, 8] (fun v i w' => ∃ (r : Nat) (x : Int) (A' : Option Addr) (c' : Nat), i = .int .i64 x ∧ x = (r : Int) - 1 ∧ v = .slice A' (picL d n l r).length c' ∧ r ≤ l.length ∧ OwnS 9 w' w1.heap.size v (picL d n l r) ∧ Below w1.heap.size w1 w') (fun _ i _ => (intOf i + 1).toNat)
    case atStart => exact ⟨l.length, _, _, _, rfl, rfl, by rw [picL_top]; rfl, by omega, by rw [picL_top]; exact OwnS.lit0 (Nat.le_refl _), balloc (Below.refl _ _) _⟩
    case round =>
      obtain ⟨r, x, A1, c1, rfl, hxr, rfl, hrl, hown, hb⟩ := hrel
      have HO := Lib.hid hown
      clear hown
      rcases r with _ | t
      · obtain rfl : x = -1 := by omega
        clear hxr
        go_wp2
        go_ret2
        rw [HM.out]
        refine ⟨A1, c1, ?_, HO.out.base_le B1.size, bstep B1 hb⟩
        rw [HX.out]; rfl
      · obtain rfl : x = (t : Int) := by omega
        have ht : t < l.length := by omega
        have ht32 : t < 32 := by omega
        clear hxr
        have f1 := ((F1.out.below hb).old (.cells #[] 5)).cell (i := 0) rfl
        go_wp2
        clear f1
        go_loopw [9, 31] (fun v i w' => ∃ (k : Nat) (A' : Option Addr) (c' : Nat), i = .int .i64 (k : Int) ∧ v = .slice A' (picR d n l t k).length c' ∧ k ≤ n ∧ Own1 .u8 5 w' w1.heap.size v (bI (picR d n l t k)) ∧ OwnS 9 w' w1.heap.size (.slice A1 (picL d n l (t + 1)).length c1) (picL d n l (t + 1)) ∧ Below w1.heap.size w1 w') (fun _ i _ => n - (intOf i).toNat)
        case atStart => exact ⟨0, _, _, rfl, by rw [picR_zero]; rfl, by omega, by rw [picR_zero]; exact Own1.lit0 hb.size, HO.out.alloc _, balloc hb _⟩
        case round =>
          clear HO hb
          obtain ⟨k, A2, c2, rfl, rfl, hk, hown2, hown, hb⟩ := hrel
          have HO := Lib.hid hown
          have HO2 := Lib.hid hown2
          clear hown hown2
          by_cases hlt : k < n
          · have hle : decide ((k : Int) < (n : Int)) = true := decide_eq_true (by omega)
            have hsu := picR_succ d n l t k
            have hbl : (bI (picR d n l t k)).length ≤ 1073741824 := by rw [bI_len, picR_len]; omega
            rcases hp : pinB d k t with _ | _
            · have HB := Lib.hid (show bI (picR d n l t k) ++ [46] = bI (picR d n l t (k + 1)) by rw [hsu]; unfold picB bI; rw [hp]; simp)
              have HP := Lib.hid hp
              clear hsu hp
              go_wp2_with fail
              refine (c_has (w.heap.size + 1) k t d _ (D1.out.below hb) hr (by omega) ht32).mono ?_
              rintro z w' ⟨rfl, rfl⟩
              rw [HP.out]
              have hown2 := HO2.out.alloc (.cells #[.int .u8 46] 5)
              have hown3 := HO.out.alloc (.cells #[.int .u8 46] 5)
              have B3 := balloc hb (.cells #[.int .u8 46] 5)
              have hbs := B3.size
              have z1 := cell_new wr #[.int .u8 46] 5 (i := 0) rfl
              go_wp2_with (at_builtin; refine append_int rfl (.tmp 42) (.tmp 43) 22 rfl 5 .u8 1 Tryz.underlying22 info_u8 (by decide) w1.heap.size _ _ rfl hown2 _ _ 46 rfl z1 hbl hbs ?_; intro A3 c3 w3 ho3 hg3)
              have B4 := bgrown B3 hg3 (fun j hj => hown2.low hj)
              have hos := hown3.apart hg3 (own_ne_own hown3 hown2 (by decide))
              rw [List.length_append, HB.out] at ho3
              have HO3 := Lib.hid ho3
              have HLn := Lib.hid (show (bI (picR d n l t k)).length + 1 = (picR d n l t (k + 1)).length by rw [bI_len, picR_len, picR_len])
              clear ho3
              go_roundw
              case rel => exact ⟨k + 1, A3, c3, by go_num, by rw [HLn.out], by omega, HO3.out, hos, B4⟩
              case measure => simp [intOf] <;> omega

            · have f1 := (F1.out.below hb).cell (i := 0) rfl
              have f2 := (F1.out.below hb).cell (i := 1) rfl
              rcases hq : clB d n l k t with _ | _
              · have HB := Lib.hid (show bI (picR d n l t k) ++ [120] = bI (picR d n l t (k + 1)) by rw [hsu]; unfold picB bI; rw [hp, hq]; simp)
                have HP := Lib.hid hp
                have HQ := Lib.hid hq
                clear hsu hp hq
                go_wp2_with fail
                refine (c_has (w.heap.size + 1) k t d _ (D1.out.below hb) hr (by omega) ht32).mono ?_
                rintro z w' ⟨rfl, rfl⟩
                rw [HP.out]
                go_wp2_with fail
                refine (c_clashes (w.heap.size + 1) n A c l d k t _ (HA.out.below hb) (D1.out.below hb) hr hn2 hn96 hlt ht hl32 hl).mono ?_
                rintro z w2 ⟨rfl, b2⟩
                rw [HQ.out]
                have HO := Lib.hid (HO.out.below b2)
                have HO2 := Lib.hid (HO2.out.below b2)
                have hb := bstep hb b2
                have hown2 := HO2.out.alloc (.cells #[.int .u8 120] 5)
                have hown3 := HO.out.alloc (.cells #[.int .u8 120] 5)
                have B3 := balloc hb (.cells #[.int .u8 120] 5)
                have hbs := B3.size
                have z1 := cell_new w2 #[.int .u8 120] 5 (i := 0) rfl
                go_wp2_with (at_builtin; refine append_int rfl (.tmp 34) (.tmp 35) 22 rfl 5 .u8 1 Tryz.underlying22 info_u8 (by decide) w1.heap.size _ _ rfl hown2 _ _ 120 rfl z1 hbl hbs ?_; intro A3 c3 w3 ho3 hg3)
                have B4 := bgrown B3 hg3 (fun j hj => hown2.low hj)
                have hos := hown3.apart hg3 (own_ne_own hown3 hown2 (by decide))
                rw [List.length_append, HB.out] at ho3
                have HO3 := Lib.hid ho3
                have HLn := Lib.hid (show (bI (picR d n l t k)).length + 1 = (picR d n l t (k + 1)).length by rw [bI_len, picR_len, picR_len])
                clear ho3
                go_roundw
                case rel => exact ⟨k + 1, A3, c3, by go_num, by rw [HLn.out], by omega, HO3.out, hos, B4⟩
                case measure => simp [intOf] <;> omega

              · have HB := Lib.hid (show bI (picR d n l t k) ++ [33] = bI (picR d n l t (k + 1)) by rw [hsu]; unfold picB bI; rw [hp, hq]; simp)
                have HP := Lib.hid hp
                have HQ := Lib.hid hq
                clear hsu hp hq
                go_wp2_with fail
                refine (c_has (w.heap.size + 1) k t d _ (D1.out.below hb) hr (by omega) ht32).mono ?_
                rintro z w' ⟨rfl, rfl⟩
                rw [HP.out]
                go_wp2_with fail
                refine (c_clashes (w.heap.size + 1) n A c l d k t _ (HA.out.below hb) (D1.out.below hb) hr hn2 hn96 hlt ht hl32 hl).mono ?_
                rintro z w2 ⟨rfl, b2⟩
                rw [HQ.out]
                have HO := Lib.hid (HO.out.below b2)
                have HO2 := Lib.hid (HO2.out.below b2)
                have hb := bstep hb b2
                have hown2 := HO2.out.alloc (.cells #[.int .u8 33] 5)
                have hown3 := HO.out.alloc (.cells #[.int .u8 33] 5)
                have B3 := balloc hb (.cells #[.int .u8 33] 5)
                have hbs := B3.size
                have z1 := cell_new w2 #[.int .u8 33] 5 (i := 0) rfl
                go_wp2_with (at_builtin; refine append_int rfl (.tmp 50) (.tmp 51) 22 rfl 5 .u8 1 Tryz.underlying22 info_u8 (by decide) w1.heap.size _ _ rfl hown2 _ _ 33 rfl z1 hbl hbs ?_; intro A3 c3 w3 ho3 hg3)
                have B4 := bgrown B3 hg3 (fun j hj => hown2.low hj)
                have hos := hown3.apart hg3 (own_ne_own hown3 hown2 (by decide))
                rw [List.length_append, HB.out] at ho3
                have HO3 := Lib.hid ho3
                have HLn := Lib.hid (show (bI (picR d n l t k)).length + 1 = (picR d n l t (k + 1)).length by rw [bI_len, picR_len, picR_len])
                clear ho3
                go_roundw
                case rel => exact ⟨k + 1, A3, c3, by go_num, by rw [HLn.out], by omega, HO3.out, hos, B4⟩
                case measure => simp [intOf] <;> omega

          · skip
            obtain rfl : k = n := by omega
            have hlen2 : (picL d k l (t + 1)).length ≤ 1073741824 := by rw [picL_len]; omega
            have HS := Lib.hid (picL_step d k l ht)
            obtain ⟨g, rfl⟩ := HO2.out.form (by rw [picR_len]; omega)
            have hcell : ∀ j (hj : j < (picR d k l t k).length), wr.cell? ⟨g, j, none⟩ = some (.int .u8 ((picR d k l t k)[j].toNat : Int)) := fun j hj => by
              have := (HO2.out.cell j (by rw [bI_len]; exact hj)).1
              simpa [bI] using this
            have hown2 := (HO.out).alloc (.cells #[txt (picR d k l t k)] 9)
            have B3 := balloc hb (.cells #[txt (picR d k l t k)] 9)
            have hbs := B3.size
            have z1 := cell_new wr #[txt (picR d k l t k)] 9 (i := 0) rfl
            have hdec : IntKind.i64.wrap ((t : Int) - 1) = (t : Int) - 1 := IntWalk.i64_in _ (by omega)
            go_wp2_with (first | refine wpList_convB (picR d k l t k) g c2 rfl rfl Tryz.underlying22 Tryz.underlying5 Tryz.underlying9 rfl hcell ?_ | (at_builtin; refine append_txt rfl (.tmp 54) (.tmp 57) 43 rfl 9 16 Tryz.underlying43 info_str (by decide) w1.heap.size _ _ rfl hown2 _ _ (picR d k l t k) rfl z1 hlen2 hbs ?_; intro A3 c3 w3 ho3 hg3))
            have B4 := bgrown B3 hg3 (fun j hj => hown2.low hj)
            go_roundw
            case rel => exact ⟨t, _, A3, c3, rfl, rfl, by rw [HS.out, List.length_append]; rfl, by omega, by rw [HS.out]; rw [List.length_append] at ho3; exact ho3, B4⟩
            case measure => simp [intOf] <;> omega
  · obtain ⟨p, hp⟩ : ∃ p, cD s l d = p := ⟨_, rfl⟩
    have HM := Lib.hid (show rPic s l d = [] by unfold rPic; rw [if_neg hx])
    rw [hp] at hx ⊢
    have HP := Lib.hid hp
    have hx2 : (p == 0) = false := by simpa using hx
    clear hp hx
    go_enter Tryz.func13, Tryz.ntmps13
    go_wp2_with (first | (refine wpList_loadD (by rfl) rfl V1.out rfl Tryz.underlying31 size_Drum hd ?_) | (refine wpList_bd1 (by rfl) rfl (by simp [Act.eval, Act.put]) Tryz.underlying106 zero_Drum size_Drum hd ?_))
    refine (c_drumCode _ s A c 1 l [d] _ (h.below B) (DrumsAt.one V3.out hd) hs hl hn (by simp)).mono ?_
    rintro e w1 ⟨rfl, b1⟩
    rw [cD_eq, HP.out]
    have B1 := bstep B b1
    clear b1
    go_wp2
    go_ret2
    rw [HM.out]
    exact ⟨none, 0, rfl, World.ownsRow_nil _ _ _ _, B1⟩

end Go.Proofs.YtjcbailckchnoaaGreatDoor
