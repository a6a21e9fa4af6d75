/-
  Frames and drums that are drawn, and the comparisons of frames, lists and places.
-/
import Derived.Test.YtnakdlfjjeligaaGreatWalkSR
import Derived.Test.YtnakdlfjjeligaaGreatPureFD
import Derived.Test.YtnakdlfjjeligaaGreatData
import Derived.Test.YtnakdlfjjeligaaGreatWalkDY
import Derived.Test.YtnakdlfjjeligaaGreatWalkDA
import Derived.ChangeKeysEq
namespace Go.Proofs.YtnakdlfjjeligaaGreat
open Go.RowKit
set_option linter.unusedVariables false
set_option linter.unusedSimpArgs false
set_option maxRecDepth 4000

theorem c_pickA (b : Nat) (A : Option Addr) (c : Nat) (code : List Int) (k sd n : Int) (w : World) (h : Src w b A c code k sd) (hk : k ≤ 800000000) (hA : code ≠ [] → ∀ a, A = some a → a.block ≠ b) (hn : 1 ≤ n ∧ n ≤ 268435456) :
    Calls Tryz.prog 63 #[.pointer (some ⟨b, 0, none⟩), .int .i64 n] w fun e w' => ∃ r k' sd' : Int, e = .returned (.int .i64 r) ∧ (0 ≤ r ∧ r < n) ∧ (k ≤ k' ∧ k' ≤ k + 2) ∧ Src w' b A c code k' sd' ∧ w.grownBy w' (some b) := by
  by_cases h1 : n = 1
  · subst h1
    have HS := Lib.hid h
    clear h
    go_enter Tryz.func63, Tryz.ntmps63
    go_wp2
    go_ret
    exact ⟨0, k, sd, rfl, by omega, by omega, HS.out, World.grownBy.refl _ _⟩
  · exact c_pick b A c code k sd n w h hk hA (by omega)
theorem Var.setS {w : World} {b : Nat} {A : Option Addr} {c : Nat} {code : List Int} {k sd : Int} (h : Src w b A c code k sd) {g i : Nat} (hne : g ≠ b) (hA : code ≠ [] → ∀ a, A = some a → a.block ≠ g) (v : Value) : Src (w.setCell ⟨g, i, none⟩ v) b A c code k sd :=
  h.grownS (row := some g) (gset (g := g) (World.grownBy.refl w (some g)) (.inl rfl) v) (fun e => hne (Option.some.inj e)) (fun h0 a ea e => hA h0 a ea (Option.some.inj e))

theorem growRow (w : World) (g : Nat) (cs : Array Value) : w.grownBy (w.setRow g cs) (some g) := ⟨rfl, rfl, rfl, by simp, fun i hi hne => setRow_other w g i cs (fun e => hne (by rw [e]))⟩
set_option maxHeartbeats 1600000 in
/-- A drawn frame: W0 is the world ahead of the source. -/
theorem c_l02FrameDrawn (W0 : World) (b : Nat) (A : Option Addr) (c : Nat) (code : List Int) (sd : Int) (w : World) (h : Src w b A c code 0 sd) (hA : code ≠ [] → ∀ a, A = some a → a.block ≠ b) (hB : Below W0.heap.size W0 w) (hb : W0.heap.size ≤ b) (hAW : code ≠ [] → ∀ a, A = some a → a.block < W0.heap.size) :
    Calls Tryz.prog 30 #[.pointer (some ⟨b, 0, none⟩)] w fun e w' => ∃ s A' c' l, e = .returned (.agg #[.int .i16 s, .slice A' l.length c']) ∧ DrawnF s l ∧ Own2 .i8 .i8 56 w' W0.heap.size (.slice A' l.length c') l ∧ Below W0.heap.size W0 w' := by
  have hu := Tryz.underlying56
  have hu2 := Tryz.underlying27
  have hbw := h.1.lt
  have V0 := Lib.hid (Var.new w #[.int .i16 0, .slice none 0 0] 27)
  have HHA := Lib.hid hA
  have HAW := Lib.hid hAW
  have B0 := balloc hB (.cells #[.int .i16 0, .slice none 0 0] 27)
  have hWw := hB.size
  have S0 := h.alloc (.cells #[.int .i16 0, .slice none 0 0] 27)
  clear h hA hAW
  go_enter Tryz.func30, Tryz.ntmps30
  go_wp2_with fail
  refine (c_pick b A c code 0 sd 14 _ S0 (by omega) HHA.out (by omega)).mono ?_
  rintro e w1 ⟨r0, k1, sd1, rfl, ⟨r1, r2⟩, ⟨k2, k3⟩, s1, g1⟩
  have V1 := Lib.hid (V0.out.grown g1 (fun e => by have := Option.some.inj e; omega))
  have B1 := bgrown B0 g1 (fun j hj => by have := Option.some.inj hj; omega)
  have hg1 := g1.size
  obtain ⟨s, hs⟩ : ∃ x, 4 + r0 = x := ⟨_, rfl⟩
  have hws : IntKind.i64.wrap (4 + r0) = s := by rw [hs]; exact IntWalk.i64_in _ (by omega)
  have hws2 : IntKind.i16.wrap s = s := IntWalk.i16_in _ (by omega)
  have HSB := Lib.hid (show 4 ≤ s ∧ s ≤ 17 by omega)
  have V2 := Lib.hid (V1.out.old (.cells #[.int .i16 s, .slice none 0 0] 27))
  have F2 := Lib.hid (Var.new w1 #[.int .i16 s, .slice none 0 0] 27)
  have S2 := Lib.hid (s1.alloc (.cells #[.int .i16 s, .slice none 0 0] 27))
  have B2 := balloc B1 (.cells #[.int .i16 s, .slice none 0 0] 27)
  have hsz : w.heap.size + 1 ≤ w1.heap.size := by simpa using hg1
  clear s1 hs V0 V1 B0 g1 hg1 S0
  go_upto_region 2 with fail
  obtain ⟨g3, hg3⟩ : ∃ x, x = w1.heap.size := ⟨_, rfl⟩
  obtain ⟨w2, hw2⟩ : ∃ x, x = w1.alloc (.cells #[.int .i16 s, .slice none 0 0] 27) := ⟨_, rfl⟩
  obtain ⟨g2, hg2⟩ : ∃ x, x = w.heap.size := ⟨_, rfl⟩
  have hbg3 : b ≠ g3 := by omega
  have hbg2 : b ≠ g2 := by omega
  have hg23 : g2 ≠ g3 := by omega
  have hWg2 : W0.heap.size ≤ g2 := by omega
  have hWg3 : W0.heap.size ≤ g3 := by omega
  rw [← hw2] at V2 F2 S2 B2 ⊢
  rw [← hg3] at F2 ⊢
  rw [← hg2] at V2 ⊢
  clear hg3 hw2 hg2 hsz hbw hws hws2
  go_wp2_with fail
  refine (c_pick b A c code k1 sd1 5 _ S2.out (by omega) HHA.out (by omega)).mono ?_
  rintro e w3 ⟨q0, k4, sd4, rfl, ⟨q1, q2⟩, ⟨k5, k6⟩, s3, g3'⟩
  have V3 := Lib.hid (V2.out.grown g3' (fun e => hbg2 (Option.some.inj e)))
  have F3 := Lib.hid (F2.out.grown g3' (fun e => hbg3 (Option.some.inj e)))
  have B3 := bgrown B2 g3' (fun j hj => by have := Option.some.inj hj; omega)
  have S3 := Lib.hid s3
  obtain ⟨m0, hm0⟩ : ∃ m : Nat, 1 + q0 = (m : Int) := ⟨(1 + q0).toNat, by omega⟩
  have hwm : IntKind.i64.wrap (1 + q0) = (m0 : Int) := by rw [hm0]; exact IntWalk.i64_in _ (by omega)
  have hmb : 1 ≤ m0 ∧ m0 ≤ 5 := by omega
  clear s3 g3' V2 F2 S2 B2
  go_wp2
  clear hwm hm0 q1 q2
  go_loopw [4] (fun kv w' => ∃ (m : Nat) (l : List (Int × Int)) (k sd : Int) (A' : Option Addr) (c' : Nat), kv = .int .i64 (m : Int) ∧ l.length + m = m0 ∧ (0 ≤ k ∧ k ≤ 4 + 4 * (l.length : Int)) ∧ RowKit.Hid (∀ p ∈ l, (22 ≤ p.1 ∧ p.1 ≤ 25) ∧ 1 ≤ p.2 ∧ p.2 ≤ 4) ∧ Src w' b A c code k sd ∧ Var w' g2 #[.int .i16 0, .slice none 0 0] 27 ∧ Var w' g3 #[.int .i16 s, .slice A' l.length c'] 27 ∧ Own2 .i8 .i8 56 w' W0.heap.size (.slice A' l.length c') l ∧ Below W0.heap.size W0 w') (fun kv _ => (intOf kv).toNat)
  case atStart => exact ⟨m0, [], k4, sd4, none, 0, rfl, by simp, by simp; omega, Lib.hid (fun p hp => by cases hp), S3.out, V3.out, F3.out, World.ownsRow_nil _ _ _ _, B3⟩
  case round =>
    clear V3 F3 B3 S3
    obtain ⟨m, l, k, sd2, A1, c1, rfl, hlm, hkk, HL, hsrc, hv, hf, hown, hB2⟩ := hrel
    have HS := Lib.hid hsrc
    have HV := Lib.hid hv
    have HF := Lib.hid hf
    have HO := Lib.hid hown
    have HLM := Lib.hid hlm
    clear hsrc hv hf hown hlm
    have hl5 : l.length + m ≤ 5 := by have := HLM.out; omega
    by_cases hlt : 0 < m
    · have hd : decide ((m : Int) > 0) = true := decide_eq_true (by omega)
      have hd' : (0 < m) = True := eq_true hlt
      go_wp2_with fail
      refine (c_pick b A c code k sd2 4 _ HS.out (by omega) HHA.out (by omega)).mono ?_
      rintro e w4 ⟨p1, k7, sd7, rfl, ⟨p2, p3⟩, ⟨k8, k9⟩, s4, gr4⟩
      have hsrcne := HS.out.1.lt
      have V4 := Lib.hid (HV.out.grown gr4 (fun e => hbg2 (Option.some.inj e)))
      have F4 := Lib.hid (HF.out.grown gr4 (fun e => hbg3 (Option.some.inj e)))
      have O4 := Lib.hid (HO.out.apart gr4 (fun j hj e => by have := HO.out.ne_var HS.out.1 (by decide); have e2 : b = j := Option.some.inj e; exact this (by rw [hj, e2])))
      have B4 := bgrown hB2 gr4 (fun j hj => by have := Option.some.inj hj; omega)
      obtain ⟨q, hq⟩ : ∃ x, 22 + p1 = x := ⟨_, rfl⟩
      have hwq : IntKind.i64.wrap (22 + p1) = q := by rw [hq]; exact IntWalk.i64_in _ (by omega)
      have hwq2 : IntKind.i8.wrap q = q := IntWalk.i8_in _ (by omega)
      have hqb : 22 ≤ q ∧ q ≤ 25 := by omega
      have V5 := Lib.hid (V4.out.old (.cells #[.int .i8 q, .int .i8 0] 56))
      have F5 := Lib.hid (F4.out.old (.cells #[.int .i8 q, .int .i8 0] 56))
      have O5 := Lib.hid (O4.out.alloc (.cells #[.int .i8 q, .int .i8 0] 56))
      have S5 := Lib.hid (s4.alloc (.cells #[.int .i8 q, .int .i8 0] 56))
      have H5 := Lib.hid (Var.new w4 #[.int .i8 q, .int .i8 0] 56)
      have B5 := balloc B4 (.cells #[.int .i8 q, .int .i8 0] 56)
      have ne1 := V4.out.lt
      have ne2 := F4.out.lt
      have ne3 := s4.1.lt
      have ne4 := B4.size
      have hlow : ∀ j, (Value.slice A1 l.length c1).ownBlock = some j → j < w4.heap.size := fun j hj => O4.out.high hj
      have hlowA : code ≠ [] → ∀ a, A = some a → a.block < w4.heap.size := fun h0 a ea => by have := HAW.out h0 a ea; omega
      clear s4 gr4 HV HF HS HO V4 F4 O4 B4 hB2 hq
      go_upto_region 6 with fail
      obtain ⟨g5, hg5⟩ : ∃ x, x = w4.heap.size := ⟨_, rfl⟩
      obtain ⟨w5, hw5⟩ : ∃ x, x = w4.alloc (.cells #[.int .i8 q, .int .i8 0] 56) := ⟨_, rfl⟩
      rw [← hw5] at V5 F5 O5 S5 H5 B5 ⊢
      rw [← hg5] at H5 hlow hlowA ⊢
      have h5b : g5 ≠ b := by omega
      have h52 : g5 ≠ g2 := by omega
      have h53 : g5 ≠ g3 := by omega
      have h5W : W0.heap.size ≤ g5 := by omega
      have HLOW := Lib.hid (show ∀ j, (Value.slice A1 l.length c1).ownBlock = some j → some g5 ≠ some j from fun j hj e => by have := hlow j hj; have := Option.some.inj e; omega)
      have HLA := Lib.hid (show code ≠ [] → ∀ a, A = some a → a.block ≠ g5 from fun h0 a ea e => by have := hlowA h0 a ea; omega)
      clear hg5 hw5 hlow hlowA ne1 ne2 ne3 ne4 hwq hwq2 hsrcne
      go_wp2_with fail
      refine (c_pick b A c code k7 sd7 4 _ S5.out (by omega) HHA.out (by omega)).mono ?_
      rintro e w6 ⟨t1, ka, sda, rfl, ⟨t2, t3⟩, ⟨kb, kc⟩, s6, gr6⟩
      have V6 := Lib.hid (V5.out.grown gr6 (fun e => hbg2 (Option.some.inj e)))
      have F6 := Lib.hid (F5.out.grown gr6 (fun e => hbg3 (Option.some.inj e)))
      have H6 := H5.out.grown gr6 (fun e => h5b (Option.some.inj e).symm)
      have O6 := Lib.hid (O5.out.apart gr6 (fun j hj e => by have := O5.out.ne_var S5.out.1 (by decide); have e2 : b = j := Option.some.inj e; exact this (by rw [hj, e2])))
      have B6 := bgrown B5 gr6 (fun j hj => by have := Option.some.inj hj; omega)
      obtain ⟨r, hr⟩ : ∃ x, 1 + t1 = x := ⟨_, rfl⟩
      have hwr : IntKind.i64.wrap (1 + t1) = r := by rw [hr]; exact IntWalk.i64_in _ (by omega)
      have hwr2 : IntKind.i8.wrap r = r := IntWalk.i8_in _ (by omega)
      have hrb : 1 ≤ r ∧ r ≤ 4 := by omega
      have z1 := H6.cell (i := 1) rfl
      have z2 := H6.frozen 1
      have H7 := Lib.hid (H6.set 1 (.int .i8 r))
      have V7 := Lib.hid (V6.out.other (p := ⟨g5, 1, none⟩) (fun e => h52 e.symm) (.int .i8 r))
      have F7 := Lib.hid (F6.out.other (p := ⟨g5, 1, none⟩) (fun e => h53 e.symm) (.int .i8 r))
      have O7 := Lib.hid (O6.out.apart (gset (g := g5) (World.grownBy.refl w6 (some g5)) (p := ⟨g5, 1, none⟩) (.inl rfl) (.int .i8 r)) (fun j hj => HLOW.out j hj))
      have S7 := Lib.hid (Var.setS s6 (i := 1) h5b HLA.out (.int .i8 r))
      have B7 := bset B6 (p := ⟨g5, 1, none⟩) h5W (.int .i8 r)
      clear H6 s6 gr6 hr V5 F5 O5 S5 H5 B5 V6 F6 O6 B6
      go_upto_region 7 with fail
      obtain ⟨w7, hw7⟩ : ∃ x, x = w6.setCell ⟨g5, 1, none⟩ (.int .i8 r) := ⟨_, rfl⟩
      rw [← hw7] at V7 F7 O7 S7 H7 B7 ⊢
      clear hw7 z1 z2 hwr hwr2
      have y0 := H7.out.cell (i := 0) rfl
      have y1 := H7.out.cell (i := 1) rfl
      have y2 := F7.out.cell (i := 1) rfl
      have hown2 := O7.out.alloc (.cells #[.int .i8 q, .int .i8 r] 56)
      have V8 := Lib.hid (V7.out.old (.cells #[.int .i8 q, .int .i8 r] 56))
      have F8 := Lib.hid (F7.out.old (.cells #[.int .i8 q, .int .i8 r] 56))
      have S8 := Lib.hid (S7.out.alloc (.cells #[.int .i8 q, .int .i8 r] 56))
      have B8 := balloc B7 (.cells #[.int .i8 q, .int .i8 r] 56)
      have hbs := B8.size
      have x1 := cell_new w7 #[.int .i8 q, .int .i8 r] 56 (i := 0) rfl
      have x2 := cell_new w7 #[.int .i8 q, .int .i8 r] 56 (i := 1) rfl
      have hlen2 : l.length ≤ 1073741824 := by omega
      have hw9 : IntKind.i64.wrap ((m : Int) - 1) = ((m - 1 : Nat) : Int) := by rw [IntWalk.i64_in _ (by omega)]; omega
      go_wp2_with (at_builtin; refine append_pair rfl (.tmp 29) (.tmp 31) 25 rfl 56 .i8 .i8 2 Tryz.underlying25 info_Hammer (by decide) W0.heap.size _ _ rfl hown2 _ _ (q, r) rfl x1 x2 hlen2 hbs ?_; intro A3 c3 w9 ho3 hg9; have hv3 := F8.out.grownH hg9 (own_ne_var hown2 F8.out (by decide)); have q1 := hv3.cell (i := 1) rfl; have q2 := hv3.frozen 1)
      have V9 := V8.out.grownH hg9 (own_ne_var hown2 V8.out (by decide))
      have S9 := S8.out.grownS hg9 (hown2.ne_var S8.out.1 (by decide)) (fun h0 a ea e => by have h1 := HAW.out h0 a ea; have h2 := hown2.low e.symm; omega)
      have B9 := bgrown B8 hg9 (fun j hj => hown2.low hj)
      go_roundw
      case rel =>
        refine ⟨m - 1, l ++ [(q, r)], ka, sda, A3, c3, by first | rfl | rw [hw9], by rw [List.length_append]; have := HLM.out; simp; omega, by rw [List.length_append]; simp; omega, Lib.hid (fun x hx => ?_), Var.setS S9 (fun e => hbg3 e.symm) (fun h0 a ea e => by have := HAW.out h0 a ea; omega) _, V9.other (by simpa using hg23) _, by rw [List.length_append]; exact hv3.set 1 _, by rw [List.length_append] at ho3; rw [List.length_append]; exact ho3.beside hv3 (by decide) 1 _, bset B9 (by simpa using hWg3) _⟩
        rcases List.mem_append.1 hx with hx | hx
        · exact HL.out x hx
        · rw [List.mem_singleton] at hx
          subst hx
          exact ⟨hqb, hrb⟩
      case measure => simp [intOf]; omega
    · have hd : decide ((m : Int) > 0) = false := decide_eq_false (by omega)
      have hd' : (0 < m) = False := eq_false hlt
      have hDr := Lib.hid (show DrawnF s l from ⟨HSB.out, by have := HLM.out; omega, HL.out⟩)
      have z1 := HF.out.cell (i := 0) rfl
      have z2 := HF.out.cell (i := 1) rfl
      have z3 := HV.out.cell (i := 0) rfl
      have z4 := HV.out.cell (i := 1) rfl
      have z5 := HV.out.frozen 0
      have z6 := HV.out.frozen 1
      have RV := Lib.hid ((HV.out.set 0 (.int .i16 s)).set 1 (.slice A1 l.length c1))
      have RO := Lib.hid ((HO.out.beside HV.out (by decide) 0 (.int .i16 s)).beside (HV.out.set 0 (.int .i16 s)) (by decide) 1 (.slice A1 l.length c1))
      have RB := Lib.hid (bset (bset hB2 (p := ⟨g2, 0, none⟩) hWg2 (.int .i16 s)) (p := ⟨g2, 1, none⟩) hWg2 (.slice A1 l.length c1))
      clear hl5
      go_wp2
      refine bodyPost_ret (results_cell_row Tryz.results30 _ _ g2 27 _ (0, 0) _ rfl RV.out hu2 rfl (by kernel_rfl)) rfl ⟨s, A1, c1, l, rfl, hDr.out, RO.out, RB.out⟩
theorem c_A2Frame (A : Option Addr) (c : Nat) (code : List Int) (w : World) (h : At1 .u8 w A code) (hcd : ∀ x ∈ code, 0 ≤ x ∧ x ≤ 255) (hcl : code.length ≤ 1000000) :
    Calls Tryz.prog 5 #[.slice A code.length c] w fun e w' => ∃ s A' c' l, e = .returned (.agg #[.int .i16 s, .slice A' l.length c']) ∧ DrawnF s l ∧ Own2 .i8 .i8 56 w' w.heap.size (.slice A' l.length c') l ∧ Below w.heap.size w w' := by
  have hu2 := Tryz.underlying27
  have hAW : code ≠ [] → ∀ a, A = some a → a.block < w.heap.size := fun h0 a ea => by
    obtain ⟨g, off, e, hlt, _⟩ := h (fun e => h0 (List.map_eq_nil_iff.1 e))
    rw [e] at ea
    have := Option.some.inj ea
    subst this
    exact hlt
  have V0 := Lib.hid (Var.new w #[.int .i16 0, .slice none 0 0] 27)
  obtain ⟨g2, hg2⟩ : ∃ x, x = w.heap.size := ⟨_, rfl⟩
  obtain ⟨W0, hW0⟩ : ∃ x, x = w.alloc (.cells #[.int .i16 0, .slice none 0 0] 27) := ⟨_, rfl⟩
  have HAT := Lib.hid (h.below (balloc (Below.refl _ w) (.cells #[.int .i16 0, .slice none 0 0] 27)))
  have B0 := balloc (Below.refl _ w) (.cells #[.int .i16 0, .slice none 0 0] 27)
  have hsz : W0.heap.size = g2 + 1 := by rw [hW0, hg2]; simp
  have hAW2 : code ≠ [] → ∀ a, A = some a → a.block < W0.heap.size := fun h0 a ea => by have := hAW h0 a ea; omega
  rw [← hW0, ← hg2] at V0
  rw [← hW0] at HAT B0
  have HCD := Lib.hid hcd
  have HAW := Lib.hid hAW2
  clear h hAW hcd hAW2
  go_enter Tryz.func5, Tryz.ntmps5
  go_upto_region 1 with fail
  rw [← hW0, ← hg2]
  have HG2 := Lib.hid hg2
  have HSZ := Lib.hid hsz
  clear hW0 hg2 hsz
  go_wp2_with fail
  refine (c_l00From A c code _).mono ?_
  rintro e w1 ⟨rfl, hw1⟩
  have V1 : Var w1 W0.heap.size #[.slice A code.length c, .int .i64 0, .int .u64 0] 103 := by rw [hw1]; exact Var.new _ _ _
  have HB1 := Lib.hid (show Below W0.heap.size W0 w1 by rw [hw1]; exact balloc (Below.refl _ _) _)
  have HS1 := Lib.hid (show Src w1 W0.heap.size A c code 0 0 from ⟨V1, HAT.out.below HB1.out, HCD.out, hcl, by omega, by omega, by omega, by omega⟩)
  clear hw1 V1
  go_wp2_with fail
  refine (c_l02FrameDrawn W0 W0.heap.size A c code 0 _ HS1.out (fun h0 a ea e => by have := HAW.out h0 a ea; omega) HB1.out (Nat.le_refl _) HAW.out).mono ?_
  rintro e w2 ⟨s, A2, c2, l, rfl, hD, ho, hb2⟩
  have HD := Lib.hid hD
  have hv := V0.out.below hb2
  have z3 := hv.cell (i := 0) rfl
  have z4 := hv.cell (i := 1) rfl
  have z5 := hv.frozen 0
  have z6 := hv.frozen 1
  have hle : g2 ≤ W0.heap.size := by have := HSZ.out; omega
  have RV := Lib.hid ((hv.set 0 (.int .i16 s)).set 1 (.slice A2 l.length c2))
  have RO := Lib.hid (((ho.beside hv (by decide) 0 (.int .i16 s)).beside (hv.set 0 (.int .i16 s)) (by decide) 1 (.slice A2 l.length c2)).base_le (show w.heap.size ≤ W0.heap.size by rw [← HG2.out]; exact hle))
  have RB := Lib.hid (bset (bset (bstep B0 hb2) (p := ⟨g2, 0, none⟩) (by rw [← HG2.out]; exact Nat.le_refl _) (.int .i16 s)) (p := ⟨g2, 1, none⟩) (by rw [← HG2.out]; exact Nat.le_refl _) (.slice A2 l.length c2))
  clear hv ho hb2 hD hle B0
  go_wp2
  refine bodyPost_ret (results_cell_row Tryz.results5 _ _ g2 27 _ (0, 0) _ rfl RV.out hu2 rfl (by kernel_rfl)) rfl ⟨s, A2, c2, l, rfl, HD.out, RO.out, RB.out⟩
set_option maxHeartbeats 1600000 in
/-- A drawn drum, for a drawn frame that lies in block bf. -/
theorem c_l02Drawn (W0 : World) (b : Nat) (A : Option Addr) (c : Nat) (code : List Int) (sd : Int) (bf : Nat) (s : Int) (Af : Option Addr) (cf : Nat) (l : List (Int × Int)) (w : World) (h : Src w b A c code 0 sd) (hA : code ≠ [] → ∀ a, A = some a → a.block ≠ b) (hB : Below W0.heap.size W0 w) (hb : W0.heap.size ≤ b) (hAW : code ≠ [] → ∀ a, A = some a → a.block < W0.heap.size) (hF : DrawnF s l) (hat : At2 .i8 .i8 W0 Af l) (hfr : FrameAt W0 bf s Af cf l) :
    Calls Tryz.prog 32 #[.pointer (some ⟨b, 0, none⟩), .pointer (some ⟨bf, 0, none⟩)] w fun e w' => ∃ d, e = .returned (.agg (drumV d)) ∧ DrumIn s l d 11 ∧ Below W0.heap.size W0 w' := by
  have hu := Tryz.underlying31
  have hu2 := Tryz.underlying27
  have hbw := h.1.lt
  have U0r := Lib.hid (Var.new (w.alloc (.cells (drumV zD) 31)) (drumV zD) 31)
  have U0 := Lib.hid (show Var ((w.alloc (.cells (drumV zD) 31)).alloc (.cells (drumV zD) 31)) (w.heap.size + 1) (drumV zD) 31 by simpa using Var.new (w.alloc (.cells (drumV zD) 31)) (drumV zD) 31)
  have V1 := Lib.hid ((Var.new w (drumV zD) 31).old (.cells (drumV zD) 31))
  have HHA := Lib.hid hA
  have HAW := Lib.hid hAW
  have HAT := Lib.hid hat
  have HFR := Lib.hid hfr
  have HFD := Lib.hid hF
  obtain ⟨⟨s1, s2⟩, ⟨n1, n2⟩, _⟩ := hF
  obtain ⟨N, hN⟩ : ∃ N : Nat, s = (N : Int) := ⟨s.toNat, by omega⟩
  subst hN
  have B0 := balloc (balloc hB (.cells (drumV zD) 31)) (.cells (drumV zD) 31)
  have hWw := hB.size
  have S0 := (h.alloc (.cells (drumV zD) 31)).alloc (.cells (drumV zD) 31)
  have V2 := Lib.hid (V1.out.rowOther (drumV zD) (g := w.heap.size + 1) (by omega))
  have U2 := Lib.hid (U0.out.row (drumV zD))
  have S2 := Lib.hid (S0.grownS (growRow _ (w.heap.size + 1) (drumV zD)) (fun e => by have := Option.some.inj e; omega) (fun h0 a ea e => by have := hAW h0 a ea; have := Option.some.inj e; omega))
  have B2 := brow (W := W0) B0 (g := w.heap.size + 1) (by omega) (drumV zD)
  clear h hA hAW hat hfr
  go_enter Tryz.func32, Tryz.ntmps32
  go_upto_region 2 with (first | (refine wpList_bz (by rfl) rfl Tryz.underlying31 zero_Drum size_u32 ?_) | (refine wpList_alloc_row rfl 31 rfl (.agg (drumV zD)) zero_Drum ?_) | (refine wpList_storeD rfl rfl U0r.out rfl rfl size_Drum zD_len zD_len ?_))
  obtain ⟨g4, hg4⟩ : ∃ x, x = w.heap.size := ⟨_, rfl⟩
  obtain ⟨g5, hg5⟩ : ∃ x, x = w.heap.size + 1 := ⟨_, rfl⟩
  obtain ⟨w2, hw2⟩ : ∃ x, x = ((w.alloc (.cells (drumV zD) 31)).alloc (.cells (drumV zD) 31)).setRow (w.heap.size + 1) (drumV zD) := ⟨_, rfl⟩
  have hb4 : b ≠ g4 := by omega
  have hb5 : b ≠ g5 := by omega
  have h45 : g4 ≠ g5 := by omega
  have hW4 : W0.heap.size ≤ g4 := by omega
  have hW5 : W0.heap.size ≤ g5 := by omega
  rw [← hw2] at V2 U2 S2 B2
  rw [← hg5] at U2
  rw [← hg4] at V2
  have hsz1 : (w.alloc (.cells (drumV zD) 31)).heap.size = w.heap.size + 1 := by simp
  rw [show (Value.agg (drumV zD)).cells = drumV zD from rfl, hsz1, ← hw2, ← hg5, ← hg4]
  clear hsz1
  clear U0r U0 V1 B0 S0 hbw hWw hw2 hg4 hg5
  go_wp2_with fail
  refine (c_one b A c code 0 sd 4 _ S2.out (by omega) HHA.out (by omega)).mono ?_
  rintro e w3 ⟨wild, k1, sd1, rfl, ⟨k2, k3⟩, s3, gr3⟩
  have V3 := Lib.hid (V2.out.grown gr3 (fun e => hb4 (Option.some.inj e)))
  have U3 := Lib.hid (U2.out.grown gr3 (fun e => hb5 (Option.some.inj e)))
  have B3 := bgrown B2 gr3 (fun j hj => by have := Option.some.inj hj; omega)
  have S3 := Lib.hid s3
  clear s3 gr3 V2 U2 S2 B2
  go_wp2_with fail
  refine (c_pick b A c code k1 sd1 12 _ S3.out (by omega) HHA.out (by omega)).mono ?_
  rintro e w4 ⟨r0, k4, sd4, rfl, ⟨r1, r2⟩, ⟨k5, k6⟩, s4, gr4⟩
  have V4 := Lib.hid (V3.out.grown gr4 (fun e => hb4 (Option.some.inj e)))
  have U4 := Lib.hid (U3.out.grown gr4 (fun e => hb5 (Option.some.inj e)))
  have B4 := bgrown B3 gr4 (fun j hj => by have := Option.some.inj hj; omega)
  have S4 := Lib.hid s4
  obtain ⟨m0, hm0⟩ : ∃ m : Nat, r0 = (m : Int) := ⟨r0.toNat, by omega⟩
  subst hm0
  clear s4 gr4 V3 U3 S3 B3
  go_wp2
  go_loopw [7, 8, 9] (fun kv _ _ w' => ∃ (m : Nat) (d : List Int) (k sd : Int), kv = .int .i64 (m : Int) ∧ m ≤ 11 ∧ (0 ≤ k ∧ k ≤ 4 + 4 * (11 - (m : Int))) ∧ RowKit.Hid (DrumIn (N : Int) l d (11 - m)) ∧ Src w' b A c code k sd ∧ Var w' g4 (drumV zD) 31 ∧ Var w' g5 (drumV d) 31 ∧ Below W0.heap.size W0 w') (fun kv _ _ _ => (intOf kv).toNat)
  case atStart => exact ⟨m0, zD, k4, sd4, rfl, by omega, by omega, Lib.hid ((DrumIn.zero l).mono (by omega)), S4.out, V4.out, U4.out, B4⟩
  case round =>
    clear V4 U4 B4 S4
    obtain ⟨m, d, k, sd2, rfl, hm, hkk, HD, hsrc, hv, hu5, hB2⟩ := hrel
    have HS := Lib.hid hsrc
    have HV := Lib.hid hv
    have HU := Lib.hid hu5
    clear hsrc hv hu5
    by_cases hlt : 0 < m
    · have hd : decide ((m : Int) > 0) = true := decide_eq_true (by omega)
      have hd' : (0 < m) = True := eq_true hlt
      have f1 := (HFR.out.below hB2).2.1
      go_wp2_with fail
      refine (c_pickA b A c code k sd2 (N : Int) _ HS.out (by omega) HHA.out (by omega)).mono ?_
      rintro e w5 ⟨p0, k7, sd7, rfl, ⟨p1, p2⟩, ⟨k8, k9⟩, s5, gr5⟩
      obtain ⟨q, hq⟩ : ∃ q : Nat, p0 = (q : Int) := ⟨p0.toNat, by omega⟩
      subst hq
      have V5 := Lib.hid (HV.out.grown gr5 (fun e => hb4 (Option.some.inj e)))
      have U5 := Lib.hid (HU.out.grown gr5 (fun e => hb5 (Option.some.inj e)))
      have B5 := bgrown hB2 gr5 (fun j hj => by have := Option.some.inj hj; omega)
      have S5 := Lib.hid s5
      clear s5 gr5 HS HV HU f1 hB2
      have f2 := (HFR.out.below B5).2.2
      go_wp2_with fail
      refine (c_pickA b A c code k7 sd7 (l.length : Int) _ S5.out (by omega) HHA.out (by omega)).mono ?_
      rintro e w6 ⟨t0, ka, sda, rfl, ⟨t1, t2⟩, ⟨kb, kc⟩, s6, gr6⟩
      obtain ⟨t, ht⟩ : ∃ t : Nat, t0 = (t : Int) := ⟨t0.toNat, by omega⟩
      subst ht
      have V6 := Lib.hid (V5.out.grown gr6 (fun e => hb4 (Option.some.inj e)))
      have U6 := Lib.hid (U5.out.grown gr6 (fun e => hb5 (Option.some.inj e)))
      have B6 := bgrown B5 gr6 (fun j hj => by have := Option.some.inj hj; omega)
      have S6 := Lib.hid s6
      clear s6 gr6 V5 U5 S5 B5 f2
      have hdl : d.length = 96 := HD.out.2.1
      have hqd : q < d.length := by omega
      have HDL := Lib.hid hdl
      have hq0 : (0 : Int) ≤ (q : Int) := by omega
      have hq96 : (q : Int) < 96 := by omega
      have ht0 : (0 : Int) ≤ (t : Int) := by omega
      have ht32 : (t : Int) < 32 := by omega
      have hw9 : IntKind.i64.wrap ((m : Int) - 1) = ((m - 1 : Nat) : Int) := by rw [IntWalk.i64_in _ (by omega)]; omega
      have HPD := Lib.hid (show DrumIn (N : Int) l (putL d q t true) (11 - (m - 1)) from (HD.out.put (k := q) (t := t) (by omega) (by omega) (by omega) (by omega)).mono (by omega))
      have HND := Lib.hid (show DrumIn (N : Int) l d (11 - (m - 1)) from HD.out.mono (by omega))
      have HPL := Lib.hid (putL_on hqd t)
      have y1 := U6.out.cell (drumV_get hqd)
      have y2 := U6.out.frozen q
      have U7 := Lib.hid (U6.out.set q (.int .u32 (bits .or .u32 d[q] (2 ^ t % 4294967296))))
      have V7 := Lib.hid (V6.out.other (p := ⟨g5, q, none⟩) h45 (.int .u32 (bits .or .u32 d[q] (2 ^ t % 4294967296))))
      have S7 := Lib.hid (Var.setS S6.out (g := g5) (i := q) (fun e => hb5 e.symm) (fun h0 a ea e => by have := HAW.out h0 a ea; omega) (.int .u32 (bits .or .u32 d[q] (2 ^ t % 4294967296))))
      have B7 := bset B6 (p := ⟨g5, q, none⟩) hW5 (.int .u32 (bits .or .u32 d[q] (2 ^ t % 4294967296)))
      clear hdl
      cases wild with
      | true =>
        go_wp2
        go_roundw
        case rel => exact ⟨m - 1, putL d q t true, ka, sda, by first | rfl | rw [hw9], by omega, by omega, HPD, S7.out, V7.out, by have := U7.out; rw [drumV_set] at this; rw [HPL.out]; exact this, B7⟩
        case measure => simp [intOf]; omega
      | false =>
        clear y1 y2
        have hrd : 1 ≤ (l[t]'(by omega)).2 ∧ (l[t]'(by omega)).2 ≤ (N : Int) := by have := HFD.out.2.2 _ (List.getElem_mem (show t < l.length by omega)); omega
        go_wp2_with fail
        refine (c_l02Free bf g5 N Af cf l d q t _ (HAT.out.below B6) (HFR.out.below B6) ⟨U6.out.lt, HDL.out, fun i hi => U6.out.cell (drumV_get hi)⟩ HD.out.1 (by omega) (by omega) (by omega) (by omega) (by omega) hrd).mono ?_
        rintro e w' ⟨rfl, rfl⟩
        clear hrd
        have y1 := U6.out.cell (drumV_get hqd)
        have y2 := U6.out.frozen q
        obtain ⟨fr, hfr⟩ : ∃ x, frB d N l q t = x := ⟨_, rfl⟩
        rw [hfr]
        clear hfr
        cases fr with
        | true =>
          go_wp2
          go_roundw
          case rel => exact ⟨m - 1, putL d q t true, ka, sda, by first | rfl | rw [hw9], by omega, by omega, HPD, S7.out, V7.out, by have := U7.out; rw [drumV_set] at this; rw [HPL.out]; exact this, B7⟩
          case measure => simp [intOf]; omega
        | false =>
          go_wp2
          go_roundw
          case rel => exact ⟨m - 1, d, ka, sda, by first | rfl | rw [hw9], by omega, by omega, HND, S6.out, V6.out, U6.out, B6⟩
          case measure => simp [intOf]; omega
    · have hd : decide ((m : Int) > 0) = false := decide_eq_false (by omega)
      have hd' : (0 < m) = False := eq_false hlt
      have HDL := Lib.hid HD.out.2.1
      have HPD := Lib.hid (show DrumIn (N : Int) l d 11 from HD.out.mono (by omega))
      have RB := Lib.hid (brow hB2 hW4 (drumV d))
      go_wp2_with (first | (refine wpList_loadD (by rfl) rfl HU.out rfl Tryz.underlying31 size_Drum HDL.out ?_) | (refine wpList_storeD rfl rfl HV.out rfl rfl size_Drum HDL.out zD_len ?_))
      refine bodyPost_ret (results_cell_drum Tryz.results32 _ _ g4 31 d rfl (HV.out.row _) hu size_Drum HDL.out) rfl ⟨d, rfl, HPD.out, RB.out⟩
theorem c_A2Drum (A : Option Addr) (c : Nat) (code : List Int) (s : Int) (Af : Option Addr) (cf : Nat) (l : List (Int × Int)) (w : World) (h : At1 .u8 w A code) (hcd : ∀ x ∈ code, 0 ≤ x ∧ x ≤ 255) (hcl : code.length ≤ 1000000) (hat : At2 .i8 .i8 w Af l) (hF : DrawnF s l) :
    Calls Tryz.prog 6 #[.slice A code.length c, .agg #[.int .i16 s, .slice Af l.length cf]] w fun e w' => ∃ d, e = .returned (.agg (drumV d)) ∧ DrumIn s l d 11 ∧ Below w.heap.size w w' := by
  have hu := Tryz.underlying31
  have hu2 := Tryz.underlying27
  have hAW : code ≠ [] → ∀ a, A = some a → a.block < w.heap.size := fun h0 a ea => by
    obtain ⟨g, off, e, hlt, _⟩ := h (fun e => h0 (List.map_eq_nil_iff.1 e))
    rw [e] at ea
    have := Option.some.inj ea
    subst this
    exact hlt
  have f0 := FrameAt.box (w := w) (s := s) (A := Af) (c := cf) (hs := l) 27
  have v0 := Var.new (w.alloc (.cells #[.int .i16 s, .slice Af l.length cf] 27)) (drumV zD) 31
  have B0 : Below w.heap.size w ((w.alloc (.cells #[.int .i16 s, .slice Af l.length cf] 27)).alloc (.cells (drumV zD) 31)) := balloc (balloc (Below.refl _ w) _) _
  have hAT0 := h.below B0
  have hFT0 := hat.below B0
  have f1 := f0.alloc (.cells (drumV zD) 31)
  obtain ⟨gf, hgf⟩ : ∃ x, x = w.heap.size := ⟨_, rfl⟩
  obtain ⟨g2, hg2⟩ : ∃ x, x = w.heap.size + 1 := ⟨_, rfl⟩
  obtain ⟨W0, hW0⟩ : ∃ x, x = ((w.alloc (.cells #[.int .i16 s, .slice Af l.length cf] 27)).alloc (.cells (drumV zD) 31)) := ⟨_, rfl⟩
  have hsz : W0.heap.size = g2 + 1 := by rw [hW0, hg2]; simp
  have hv0 : Var W0 g2 (drumV zD) 31 := by rw [hW0, hg2]; simpa using v0
  have hAW2 : code ≠ [] → ∀ a, A = some a → a.block < W0.heap.size := fun h0 a ea => by have := hAW h0 a ea; omega
  have V0 := Lib.hid hv0
  have HFR := Lib.hid (show FrameAt W0 gf s Af cf l by rw [hW0, hgf]; exact f1)
  have HAT := Lib.hid (show At1 .u8 W0 A code by rw [hW0]; exact hAT0)
  have HFT := Lib.hid (show At2 .i8 .i8 W0 Af l by rw [hW0]; exact hFT0)
  have HB0 := Lib.hid (show Below w.heap.size w W0 by rw [hW0]; exact B0)
  have HCD := Lib.hid hcd
  have HAW := Lib.hid hAW2
  clear h hAW hcd hAW2 f0 v0 B0 hAT0 hFT0 f1 hat hv0
  have hsz1 : (w.alloc (.cells #[.int .i16 s, .slice Af l.length cf] 27)).heap.size = w.heap.size + 1 := by simp
  go_enter Tryz.func6, Tryz.ntmps6
  go_upto_region 1 with (refine wpList_alloc_row rfl 31 rfl (.agg (drumV zD)) zero_Drum ?_)
  rw [show (Value.agg (drumV zD)).cells = drumV zD from rfl]
  rw [hsz1]
  rw [← hW0, ← hg2, ← hgf]
  have HG2 := Lib.hid hg2
  have HSZ := Lib.hid hsz
  clear hW0 hg2 hsz hsz1 hgf
  go_wp2_with fail
  refine (c_l00From A c code _).mono ?_
  rintro e w1 ⟨rfl, hw1⟩
  have V1 : Var w1 W0.heap.size #[.slice A code.length c, .int .i64 0, .int .u64 0] 103 := by rw [hw1]; exact Var.new _ _ _
  have HB1 := Lib.hid (show Below W0.heap.size W0 w1 by rw [hw1]; exact balloc (Below.refl _ _) _)
  have HS1 := Lib.hid (show Src w1 W0.heap.size A c code 0 0 from ⟨V1, HAT.out.below HB1.out, HCD.out, hcl, by omega, by omega, by omega, by omega⟩)
  clear hw1 V1
  go_wp2_with fail
  refine (c_l02Drawn W0 W0.heap.size A c code 0 gf s Af cf l _ HS1.out (fun h0 a ea e => by have := HAW.out h0 a ea; omega) HB1.out (Nat.le_refl _) HAW.out hF HFT.out HFR.out).mono ?_
  rintro e w2 ⟨d, rfl, hD, hb2⟩
  have HD := Lib.hid hD
  have HDL := Lib.hid hD.2.1
  have HV := Lib.hid (V0.out.below hb2)
  have hle : w.heap.size ≤ g2 := by rw [HG2.out]; omega
  have RB := Lib.hid (brow (bstep HB0.out hb2) hle (drumV d))
  clear hb2 hD hle
  go_wp2_with (first | (refine wpList_storeD rfl rfl HV.out rfl rfl size_Drum HDL.out zD_len ?_))
  refine bodyPost_ret (results_cell_drum Tryz.results6 _ _ g2 31 d rfl (HV.out.row _) hu size_Drum HDL.out) rfl ⟨d, rfl, HD.out, RB.out⟩

/-! ### comparisons -/
theorem eqItems_self {P : Program} (w : World) {e : TypeId} (he : P.underlying e = some (.int .u32)) (dd : Nat) (d : List Int) : ∀ is : List Nat, (∀ i ∈ is, i < d.length) → (Op.eqItems (dd + 1) e 1 (drumV d) (drumV d) is).run P w = .ok true w
  | [], _ => rfl
  | i :: is, h => by
    have hp : P.plainKey e = true := by unfold Program.plainKey; rw [he]
    have hi := h i List.mem_cons_self
    have hx : (drumV d)[i * 1]? = some (.int .u32 d[i]) := by rw [Nat.mul_one]; exact drumV_get hi
    have ih := eqItems_self (P := P) w he dd d is (fun j hj => h j (List.mem_cons_of_mem _ hj))
    unfold Op.eqItems
    simp only [Sem.run_bind, run_part_plain w hp hx, Result.andThen_ok, run_equalIn_int w dd e .u32 .u32 d[i] d[i] he, beq_self_eq_true, Bool.not_true, Bool.false_eq_true, if_false]
    exact ih
theorem eq_drum (d : List Int) (hd : d.length = 96) : ∀ w, (Op.equalIn 10000 31 (.agg (drumV d)) (.agg (drumV d))).run Tryz.prog w = .ok true w := fun w => by
  obtain ⟨i, hi⟩ := info_of_underlying (P := Tryz.prog) Tryz.underlying29
  have hc : Tryz.prog.cellsOf 29 = 1 := by kernel_rfl
  rw [show (10000 : Nat) = 9999 + 1 from rfl, run_equalIn_array w 9999 _ _ Tryz.underlying31 hi, hc]
  exact eqItems_self w Tryz.underlying29 9998 d _ (fun j hj => by have := List.mem_range.1 hj; omega)
set_option maxHeartbeats 800000 in
theorem c_A2SameFrame (s : Int) (A B : Option Addr) (c d : Nat) (l : List (Int × Int)) (w : World) (h : At2 .i8 .i8 w A l) (h2 : At2 .i8 .i8 w B l) (hn : l.length ≤ 1073741824) :
    Calls Tryz.prog 19 #[.agg #[.int .i16 s, .slice A l.length c], .agg #[.int .i16 s, .slice B l.length d]] w fun e w' => e = .returned (.bool true) ∧ Below w.heap.size w w' := by
  have hu := Tryz.underlying27
  have hu2 := Tryz.underlying56
  have v0 : Var ((w.alloc (.cells #[.int .i16 s, .slice A l.length c] 27)).alloc (.cells #[.int .i16 s, .slice B l.length d] 27)) w.heap.size #[.int .i16 s, .slice A l.length c] 27 := (Var.new w _ _).old _
  have v1 : Var ((w.alloc (.cells #[.int .i16 s, .slice A l.length c] 27)).alloc (.cells #[.int .i16 s, .slice B l.length d] 27)) (w.heap.size + 1) #[.int .i16 s, .slice B l.length d] 27 := by simpa using Var.new (w.alloc (.cells #[.int .i16 s, .slice A l.length c] 27)) #[.int .i16 s, .slice B l.length d] 27
  have B0 : Below w.heap.size w ((w.alloc (.cells #[.int .i16 s, .slice A l.length c] 27)).alloc (.cells #[.int .i16 s, .slice B l.length d] 27)) := balloc (balloc (Below.refl _ w) _) _
  have V0 := Lib.hid v0
  have V1 := Lib.hid v1
  have a1 := v0.cell (i := 0) rfl
  have a2 := v0.cell (i := 1) rfl
  have a3 := v1.cell (i := 0) rfl
  have a4 := v1.cell (i := 1) rfl
  have HA := Lib.hid (h.below B0)
  have HB := Lib.hid (h2.below B0)
  clear v0 v1 h h2
  go_enter Tryz.func19, Tryz.ntmps19
  go_wp2
  obtain ⟨wb, hwb⟩ : ∃ u, u = (w.alloc (.cells #[.int .i16 s, .slice A l.length c] 27)).alloc (.cells #[.int .i16 s, .slice B l.length d] 27) := ⟨_, rfl⟩
  rw [← hwb] at V0 V1 B0 HA HB ⊢
  clear hwb a1 a2 a3 a4
  go_loopw [5] (fun i w' => ∃ k : Nat, i = .int .i64 k ∧ k ≤ l.length ∧ Below wb.heap.size wb w') (fun i _ => l.length - (intOf i).toNat)
  case atStart => exact ⟨0, rfl, by omega, Below.refl _ _⟩
  case round =>
    obtain ⟨k, rfl, hk, hb⟩ := hrel
    have b2 := (V0.out.below hb).cell (i := 1) rfl
    by_cases hlt : k < l.length
    · have i1 : (k : Int) < (l.length : Int) := by omega
      have i2 : (0 : Int) ≤ (k : Int) := by omega
      have b4 := (V1.out.below hb).cell (i := 1) rfl
      obtain ⟨g, off, hAe, hgl, hc⟩ := (HA.out.below hb).get (by omega)
      obtain ⟨g', off', hBe, hgl', hc'⟩ := (HB.out.below hb).get (by omega)
      subst hAe hBe
      have f1 : ∀ x : After wr, _ := fun x => ((V0.out.below hb).below x.below).cell (i := 1) rfl
      have f2 : ∀ x : After wr, _ := fun x => ((V1.out.below hb).below x.below).cell (i := 1) rfl
      have x1 : ∀ x : After wr, _ := fun x => (x.cell hgl).trans (hc k hlt).1
      have x2 : ∀ x : After wr, _ := fun x => (x.cell hgl).trans (hc k hlt).2
      have y1 : ∀ x : After wr, _ := fun x => (x.cell hgl').trans (hc' k hlt).1
      have y2 : ∀ x : After wr, _ := fun x => (x.cell hgl').trans (hc' k hlt).2
      clear hc hc' b4
      go_wp2
      refine region_after (by kernel_rfl) (by kernel_rfl) ?_
      repeat (go_big_quiet_step (fail))
      refine wpQuiet_nil ?_
      rintro _ ⟨x, rfl⟩
      go_wp2
      go_roundw
      case rel => exact ⟨k + 1, by go_num, by omega, bstep hb x.below⟩
      case measure => simp [intOf]; omega
    · obtain rfl : k = l.length := by omega
      go_wp2
      go_ret
      exact ⟨rfl, bstep B0 hb⟩
theorem c_l00Same (A B : Option Addr) (c d : Nat) (l : List Int) (w : World) (h : At1 .i64 w A l) (h2 : At1 .i64 w B l) (hn : l.length ≤ 1073741824) :
    Calls Tryz.prog 60 #[.slice A l.length c, .slice B l.length d] w fun e w' => e = .returned (.bool true) ∧ Below w.heap.size w w' := by
  go_enter Tryz.func60, Tryz.ntmps60
  go_wp2
  go_loopw [5] (fun i w' => ∃ k : Nat, i = .int .i64 k ∧ k ≤ l.length ∧ Below w.heap.size w w') (fun i _ => l.length - (intOf i).toNat)
  case atStart => exact ⟨0, rfl, by omega, Below.refl _ _⟩
  case round =>
    obtain ⟨k, rfl, hk, hb⟩ := hrel
    by_cases hlt : k < l.length
    · have i1 : (k : Int) < (l.length : Int) := by omega
      have i2 : (0 : Int) ≤ (k : Int) := by omega
      obtain ⟨g, off, rfl, hgl, hc⟩ := (h.below hb).get (by omega)
      obtain ⟨g', off', rfl, hgl', hc'⟩ := (h2.below hb).get (by omega)
      have x1 : ∀ x : After wr, _ := fun x => (x.cell hgl).trans (hc k hlt)
      have y1 : ∀ x : After wr, _ := fun x => (x.cell hgl').trans (hc' k hlt)
      clear hc hc'
      go_wp2
      refine region_after (by kernel_rfl) (by kernel_rfl) ?_
      repeat (go_big_quiet_step (fail))
      refine wpQuiet_nil ?_
      rintro _ ⟨x, rfl⟩
      go_wp2
      go_roundw
      case rel => exact ⟨k + 1, by go_num, by omega, bstep hb x.below⟩
      case measure => simp [intOf]; omega
    · obtain rfl : k = l.length := by omega
      go_wp2
      go_ret
      exact ⟨rfl, hb⟩
theorem c_A2Same (A B : Option Addr) (c d : Nat) (l : List Int) (w : World) (h : At1 .i64 w A l) (h2 : At1 .i64 w B l) (hn : l.length ≤ 1073741824) :
    Calls Tryz.prog 27 #[.slice A l.length c, .slice B l.length d] w fun e w' => e = .returned (.bool true) ∧ Below w.heap.size w w' := by
  go_enter Tryz.func27, Tryz.ntmps27
  go_wp2_with fail
  refine (c_l00Same A B c d l _ h h2 hn).mono ?_
  rintro e w1 ⟨rfl, b1⟩
  go_wp2
  go_ret
  exact ⟨rfl, b1⟩
theorem c_A2Has (A : Option Addr) (c : Nat) (l : List Int) (v : Int) (w : World) (h : At1 .i64 w A l) (hn : l.length ≤ 1073741824) :
    Calls Tryz.prog 28 #[.slice A l.length c, .int .i64 v] w fun e w' => e = .returned (.bool (decide (v ∈ l))) ∧ Below w.heap.size w w' := by
  obtain ⟨r, hr⟩ : ∃ r, decide (v ∈ l) = r := ⟨_, rfl⟩
  rw [hr]
  have HR := Lib.hid hr
  clear hr
  go_enter Tryz.func28, Tryz.ntmps28
  go_wp2
  go_loopw [5] (fun i w' => ∃ k : Nat, i = .int .i64 k ∧ k ≤ l.length ∧ RowKit.Hid (∀ j (hj : j < l.length), j < k → l[j] ≠ v) ∧ Below w.heap.size w w') (fun i _ => l.length - (intOf i).toNat)
  case atStart => exact ⟨0, rfl, by omega, Lib.hid (fun _ _ h => absurd h (by omega)), Below.refl _ _⟩
  case round =>
    obtain ⟨k, rfl, hk, HZ, hb⟩ := hrel
    by_cases hlt : k < l.length
    · have i1 : (k : Int) < (l.length : Int) := by omega
      have i2 : (0 : Int) ≤ (k : Int) := by omega
      obtain ⟨g, off, rfl, hgl, hc⟩ := (h.below hb).get (by omega)
      have x1 := hc k hlt
      obtain ⟨q, hq⟩ : ∃ q, l[k] = q := ⟨_, rfl⟩
      rw [hq] at x1
      have HQ := Lib.hid hq
      clear hc hq
      by_cases hv : q = v
      · subst hv
        have HT := Lib.hid (show r = true by rw [← HR.out]; exact decide_eq_true (by rw [← HQ.out]; exact List.getElem_mem hlt))
        go_wp2
        go_ret
        exact ⟨ret_bool HT.out.symm, hb⟩
      · have hv1 : (q == v) = false := by simpa using hv
        have hv2 : (q = v) = False := eq_false hv
        have HV := Lib.hid hv
        clear hv
        go_wp2
        go_roundw
        case rel => exact ⟨k + 1, by go_num, by omega, Lib.hid (fun j hj hjk => by
          by_cases e : j = k
          · subst e; rw [HQ.out]; exact HV.out
          · exact HZ.out j hj (by omega)), hb⟩
        case measure => simp [intOf]; omega
    · obtain rfl : k = l.length := by omega
      have HT := Lib.hid (show r = false by rw [← HR.out]; exact decide_eq_false (fun hm => by
        obtain ⟨j, hj, e⟩ := List.getElem_of_mem hm
        exact HZ.out j hj hj e))
      go_wp2
      go_ret
      exact ⟨ret_bool HT.out.symm, hb⟩

end Go.Proofs.YtnakdlfjjeligaaGreat
