/-
  The walks of PinsToMove.
-/
import Derived.Test.YtpfcbcmmofombaaWalkDL
namespace Go.Proofs.Ytpfcbcmmofombaa
open Go.RowKit
set_option linter.unusedVariables false
set_option linter.unusedSimpArgs false
set_option maxRecDepth 4000

theorem lessD_len {d e : List Int} (hd : d.length = 96) (he : e.length = 96) : (lessD d e).length = 96 := by simp [lessD, hd, he]
theorem lessD_get {d e : List Int} {k : Nat} (h : k < (lessD d e).length) (h1 : k < d.length) (h2 : k < e.length) : (lessD d e)[k] = bits .andNot .u32 d[k] e[k] := by simp [lessD]
theorem lessD_wd (d e : List Int) : Wd (lessD d e) := fun x hx => by
  simp only [lessD, List.mem_map] at hx
  obtain ⟨p, _, rfl⟩ := hx
  exact ⟨bits_lo_u32 _ _ _, bits_hi_u32 _ _ _⟩
theorem drumV_mix {a b : List Int} {k : Nat} (h1 : k < a.length) (h2 : k < b.length) : (drumV (mixD a b k))[k]? = some (.int .u32 b[k]) := by
  have hl : k < (mixD a b k).length := by simp [mixD]; omega
  rw [drumV_get hl]
  congr 2
  have : (mixD a b k)[k]? = some b[k] := by
    unfold mixD
    rw [List.getElem?_append_right (by simp; omega), List.getElem?_drop]
    simp [Nat.min_eq_left (Nat.le_of_lt h1), h2]
  rw [List.getElem?_eq_getElem hl] at this
  exact Option.some.inj this

theorem c_less (d e : List Int) (w : World) (hd : d.length = 96) (he : e.length = 96) :
    Calls Try.prog 69 #[.agg (drumV d), .agg (drumV e)] w fun z w' => z = .returned (.agg (drumV (lessD d e))) ∧ Below w.heap.size w w' := by
  have hu := Try.underlying40
  have hl := lessD_len hd he
  have v1 : Var (((w.alloc (.cells (drumV d) 40)).alloc (.cells (drumV e) 40)).alloc (.cells (drumV zD) 40)) (w.heap.size + 1) (drumV e) 40 := by simpa using (Var.new (w.alloc (.cells (drumV d) 40)) (drumV e) 40).old (.cells (drumV zD) 40)
  have V1 := Lib.hid v1
  clear v1
  go_enter Try.func69, Try.ntmps69
  clear hu
  go_wp2_with (first | (refine wpList_alloc_row rfl 40 rfl (.agg (drumV zD)) zero_Drum ?_) | (refine wpList_loadD (by rfl) rfl V1.out rfl Try.underlying40 size_Drum he ?_))
  go_loopw [8] (fun i w' => ∃ k : Nat, i = .int .i64 k ∧ k ≤ 96 ∧ Var w' w.heap.size (drumV (mixD (lessD d e) d k)) 40 ∧ Var w' (w.heap.size + 1 + 1) (drumV zD) 40 ∧ Below w.heap.size w w') (fun i _ => 96 - (intOf i).toNat)
  case atStart =>
    refine ⟨0, rfl, by omega, ?_, ?_, balloc (balloc (balloc (Below.refl _ w) _) _) _⟩
    · rw [mixD_zero]; exact ((Var.new w (drumV d) 40).old _).old _
    · simpa using Var.new ((w.alloc (.cells (drumV d) 40)).alloc (.cells (drumV e) 40)) (drumV zD) 40
  case round =>
    obtain ⟨k, rfl, hk, v0, v2, hb⟩ := hrel
    by_cases hlt : k < 96
    · have hlt1 : k < d.length := by omega
      have hlt2 : k < e.length := by omega
      have hlt3 : k < (lessD d e).length := by omega
      have x1 := run_index_drum Try.underlying40 Try.underlying37 size_u32 he hlt2
      have x2 := v0.cell (drumV_mix hlt3 hlt1)
      have x3 := v0.frozen k
      have h1 : (0 : Int) ≤ (k : Int) := by omega
      have h2 : (k : Int) < 96 := by omega
      have HV := Lib.hid (And.intro v0 v2)
      clear v0 v2
      go_wp2
      go_roundw
      case rel =>
        obtain ⟨v0, v2⟩ := HV.out
        exact ⟨k + 1, by go_num, by omega, by have := v0.set k (.int .u32 ((lessD d e)[k])); rw [drumV_set, mixD_set hlt3 hlt1, lessD_get hlt3 hlt1 hlt2] at this; exact this, v2.other (by simp <;> omega) _, bset hb (by simp <;> omega) _⟩
      case measure => simp [intOf]; omega
    · obtain rfl : k = 96 := by omega
      rw [mixD_end hl hd] at v0
      go_wp2_with (first | (refine wpList_loadD (by rfl) rfl v0 rfl Try.underlying40 size_Drum hl ?_) | (refine wpList_storeD rfl rfl v2 rfl rfl size_Drum hl zD_len ?_))
      refine bodyPost_ret (results_cell_drum Try.results69 _ _ (w.heap.size + 1 + 1) 40 (lessD d e) rfl (v2.row _) Try.underlying40 size_Drum hl) rfl ⟨rfl, brow hb (by omega) _⟩

theorem c_l02Moves (b1 b2 : Nat) (d e : List Int) (w : World) (hd : DrumAt w b1 d) (he : DrumAt w b2 e) :
    Calls Try.prog 68 #[.pointer (some ⟨b1, 0, none⟩), .pointer (some ⟨b2, 0, none⟩)] w fun z w' => z = .returned (.int .i64 (popL (lessD e d))) ∧ Below w.heap.size w w' := by
  have hd96 := hd.2.1
  have he96 := he.2.1
  have hl := lessD_len he96 hd96
  have HD := Lib.hid hd
  have HE := Lib.hid he
  clear hd he
  go_enter Try.func68, Try.ntmps68
  go_wp2
  go_loopw [5, 6] (fun q i w' => ∃ k : Nat, i = .int .i64 k ∧ k ≤ 96 ∧ q = .int .i64 (popL ((lessD e d).take k)) ∧ Below w.heap.size w w') (fun _ i _ => 96 - (intOf i).toNat)
  case atStart => exact ⟨0, rfl, by omega, by simp [popL], Below.refl _ _⟩
  case round =>
    obtain ⟨k, rfl, hk, rfl, hb⟩ := hrel
    by_cases hlt : k < 96
    · have hlt1 : k < d.length := by omega
      have hlt2 : k < e.length := by omega
      have hlt3 : k < (lessD e d).length := by omega
      have x1 : ∀ x : After wr, _ := fun x => ((HD.out.below hb).below x.below).2.2 k hlt1
      have x2 : ∀ x : After wr, _ := fun x => ((HE.out.below hb).below x.below).2.2 k hlt2
      have h1 : (0 : Int) ≤ (k : Int) := by omega
      have h2 : (k : Int) < 96 := by omega
      have hb1 := popL_bd (lessD e d) k (by omega)
      have hb2 := popI_bd (bits .andNot .u32 e[k] d[k])
      have hbd : 0 ≤ bits .andNot .u32 e[k] d[k] ∧ bits .andNot .u32 e[k] d[k] ≤ 4294967295 := ⟨bits_lo_u32 _ _ _, bits_hi_u32 _ _ _⟩
      have hw1 : IntKind.i64.wrap (popL ((lessD e d).take k) + popI (bits .andNot .u32 e[k] d[k])) = popL ((lessD e d).take k) + popI (bits .andNot .u32 e[k] d[k]) := IntWalk.i64_in _ (by omega)
      have HB := Lib.hid hbd
      have HS := Lib.hid ((popL_snoc (lessD e d) k hlt3).trans (by rw [lessD_get hlt3 hlt2 hlt1]))
      clear hb1 hb2 hbd
      go_wp2
      refine region_after (by kernel_rfl) (by kernel_rfl) ?_
      repeat (go_big_quiet_step (((go_at_call 62; exact After.call_same (c_l02Count _ _ HB.out)))))
      refine wpQuiet_nil ?_
      rintro _ ⟨x, rfl⟩
      go_wp2
      go_roundw
      case rel => exact ⟨k + 1, by go_num, by omega, by rw [HS.out], bstep hb x.below⟩
      case measure => simp [intOf]; omega
    · obtain rfl : k = 96 := by omega
      have HT := Lib.hid (show (lessD e d).take 96 = lessD e d from List.take_of_length_le (by omega))
      go_wp2
      go_ret
      exact ⟨ret_int (by rw [HT.out]), hb⟩

noncomputable def vDD (s : Int) (l : List (Int × Int)) (d e : List Int) : Bool := okF s l && (okD l.length s d && okD l.length s e)
noncomputable def cDD (s : Int) (l : List (Int × Int)) (d e : List Int) : Int := if vDD s l d e then 0 else 1
noncomputable def rMoves (s : Int) (l : List (Int × Int)) (d e x y : List Int) : Int := if vDD s l d e then popL (lessD x y) else 0
theorem cDD_eq (s : Int) (l : List (Int × Int)) (d e : List Int) : (if okF s l && !([d, e].any fun d => !okD l.length s d) then (0 : Int) else 1) = cDD s l d e := by
  unfold cDD vDD
  rw [show ([d, e].any fun d => !okD l.length s d) = (!okD l.length s d || !okD l.length s e) by simp only [List.any_cons, List.any_nil, Bool.or_false]]
  generalize okD l.length s d = x
  generalize okD l.length s e = y
  cases okF s l <;> cases x <;> cases y <;> rfl

theorem c_specPinsToMove (s : Int) (A : Option Addr) (c : Nat) (l : List (Int × Int)) (d e : List Int) (w : World) (h : At2 .i8 .i8 w A l) (hs : W16 s) (hl : Whs l) (hn : l.length ≤ 1073741824) (hd : d.length = 96) (hr : ∀ x ∈ d, 0 ≤ x ∧ x ≤ 4294967295) (he : e.length = 96) (hr2 : ∀ x ∈ e, 0 ≤ x ∧ x ≤ 4294967295) :
    Calls Try.prog 34 #[.agg #[.int .i16 s, .slice A l.length c], .agg (drumV d), .agg (drumV e)] w fun z w' => z = .returned (.tuple #[.int .i64 (rMoves s l d e e d), .int .i64 (rMoves s l d e d e), .int .i64 (cDD s l d e)]) ∧ Below w.heap.size w w' := by
  have v0 : FrameAt (((w.alloc (.cells #[.int .i16 s, .slice A l.length c] 30)).alloc (.cells (drumV d) 40)).alloc (.cells (drumV e) 40)) w.heap.size s A c l := ((FrameAt.box _).alloc _).alloc _
  have v1 : DrumAt (((w.alloc (.cells #[.int .i16 s, .slice A l.length c] 30)).alloc (.cells (drumV d) 40)).alloc (.cells (drumV e) 40)) (w.heap.size + 1) d := by simpa using (DrumAt.box (w := w.alloc (.cells #[.int .i16 s, .slice A l.length c] 30)) 40 hd).alloc (.cells (drumV e) 40)
  have v2 : DrumAt (((w.alloc (.cells #[.int .i16 s, .slice A l.length c] 30)).alloc (.cells (drumV d) 40)).alloc (.cells (drumV e) 40)) (w.heap.size + 1 + 1) e := by simpa using DrumAt.box (w := (w.alloc (.cells #[.int .i16 s, .slice A l.length c] 30)).alloc (.cells (drumV d) 40)) 40 he
  have B : Below w.heap.size w (((w.alloc (.cells #[.int .i16 s, .slice A l.length c] 30)).alloc (.cells (drumV d) 40)).alloc (.cells (drumV e) 40)) := balloc (balloc (balloc (Below.refl _ w) _) _) _
  have V0 := Lib.hid v0
  have V1 := Lib.hid v1
  have V2 := Lib.hid v2
  clear v0 v1 v2
  unfold rMoves cDD vDD
  rcases hx : okF s l with _ | _
  · go_enter Try.func34, Try.ntmps34
    go_wp2_with fail
    refine (c_l02Frame w.heap.size s A c l _ V0.out (h.below B) hs hl hn).mono ?_
    rintro z w1 ⟨rfl, b1⟩
    rw [hx]
    go_wp2
    go_ret3
    exact ⟨rfl, bstep B b1⟩
  rcases hy : okD l.length s d with _ | _
  · go_enter Try.func34, Try.ntmps34
    go_wp2_with fail
    refine (c_l02Frame w.heap.size s A c l _ V0.out (h.below B) hs hl hn).mono ?_
    rintro z w1 ⟨rfl, b1⟩
    rw [hx]
    go_wp2_with fail
    refine (c_l02Drum w.heap.size (w.heap.size + 1) s A c l d _ (V0.out.below b1) (V1.out.below b1) hs hn).mono ?_
    rintro z w2 ⟨rfl, b2⟩
    rw [hy]
    go_wp2
    go_ret3
    exact ⟨rfl, bstep (bstep B b1) b2⟩
  rcases hz : okD l.length s e with _ | _
  all_goals
    go_enter Try.func34, Try.ntmps34
    go_wp2_with fail
    refine (c_l02Frame w.heap.size s A c l _ V0.out (h.below B) hs hl hn).mono ?_
    rintro z w1 ⟨rfl, b1⟩
    rw [hx]
    go_wp2_with fail
    refine (c_l02Drum w.heap.size (w.heap.size + 1) s A c l d _ (V0.out.below b1) (V1.out.below b1) hs hn).mono ?_
    rintro z w2 ⟨rfl, b2⟩
    rw [hy]
    go_wp2_with fail
    refine (c_l02Drum w.heap.size (w.heap.size + 1 + 1) s A c l e _ ((V0.out.below b1).below b2) ((V2.out.below b1).below b2) hs hn).mono ?_
    rintro z w3 ⟨rfl, b3⟩
    rw [hz]
    first
    | (go_wp2
       go_ret3
       exact ⟨rfl, bstep (bstep (bstep B b1) b2) b3⟩)
    | (go_wp2_with fail
       refine (c_l02Moves (w.heap.size + 1) (w.heap.size + 1 + 1) d e _ (((V1.out.below b1).below b2).below b3) (((V2.out.below b1).below b2).below b3)).mono ?_
       rintro z w4 ⟨rfl, b4⟩
       go_wp2_with fail
       refine (c_l02Moves (w.heap.size + 1 + 1) (w.heap.size + 1) e d _ ((((V2.out.below b1).below b2).below b3).below b4) ((((V1.out.below b1).below b2).below b3).below b4)).mono ?_
       rintro z w5 ⟨rfl, b5⟩
       go_wp2
       go_ret3
       exact ⟨rfl, bstep (bstep (bstep (bstep (bstep B b1) b2) b3) b4) b5⟩)

set_option maxHeartbeats 800000 in
theorem c_implPinsToMove (s : Int) (A : Option Addr) (c : Nat) (l : List (Int × Int)) (d e : List Int) (w : World) (h : At2 .i8 .i8 w A l) (hs : W16 s) (hl : Whs l) (hn : l.length ≤ 1073741824) (hd : d.length = 96) (hr : ∀ x ∈ d, 0 ≤ x ∧ x ≤ 4294967295) (he : e.length = 96) (hr2 : ∀ x ∈ e, 0 ≤ x ∧ x ≤ 4294967295) :
    Calls Try.prog 35 #[.agg #[.int .i16 s, .slice A l.length c], .agg (drumV d), .agg (drumV e)] w fun z w' => z = .returned (.tuple #[.int .i64 (rMoves s l d e e d), .int .i64 (rMoves s l d e d e), .int .i64 (cDD s l d e)]) ∧ Below w.heap.size w w' := by
  have hu2 := Try.underlying30
  have hud := Try.underlying40
  have HUD := Lib.hid hud
  clear hud
  have v1 : Var (((w.alloc (.cells #[.int .i16 s, .slice A l.length c] 30)).alloc (.cells (drumV d) 40)).alloc (.cells (drumV e) 40)) (w.heap.size + 1) (drumV d) 40 := by simpa using (Var.new (w.alloc (.cells #[.int .i16 s, .slice A l.length c] 30)) (drumV d) 40).old (.cells (drumV e) 40)
  have v2 : Var (((w.alloc (.cells #[.int .i16 s, .slice A l.length c] 30)).alloc (.cells (drumV d) 40)).alloc (.cells (drumV e) 40)) (w.heap.size + 1 + 1) (drumV e) 40 := by simpa using Var.new ((w.alloc (.cells #[.int .i16 s, .slice A l.length c] 30)).alloc (.cells (drumV d) 40)) (drumV e) 40
  have v3 : Var ((((w.alloc (.cells #[.int .i16 s, .slice A l.length c] 30)).alloc (.cells (drumV d) 40)).alloc (.cells (drumV e) 40)).alloc (.cells (drumV (d ++ e)) 40)) (w.heap.size + 1 + 1 + 1) (drumV (d ++ e)) 40 := by simpa using Var.new (((w.alloc (.cells #[.int .i16 s, .slice A l.length c] 30)).alloc (.cells (drumV d) 40)).alloc (.cells (drumV e) 40)) (drumV (d ++ e)) 40
  have B2 : Below w.heap.size w ((((w.alloc (.cells #[.int .i16 s, .slice A l.length c] 30)).alloc (.cells (drumV d) 40)).alloc (.cells (drumV e) 40)).alloc (.cells (drumV (d ++ e)) 40)) := balloc (balloc (balloc (balloc (Below.refl _ w) _) _) _) _
  have V1 := Lib.hid v1
  have V2 := Lib.hid v2
  have V3 := Lib.hid v3
  have V4 := Lib.hid (v1.old (.cells (drumV (d ++ e)) 40))
  have V5 := Lib.hid (v2.old (.cells (drumV (d ++ e)) 40))
  clear v1 v2 v3
  have HL := Lib.hid (And.intro (lessD_len he hd) (lessD_len hd he))
  unfold rMoves
  have HE := Lib.hid (cDD_eq s l d e)
  unfold cDD at HE ⊢
  rcases hx : vDD s l d e with _ | _
  · rw [hx] at HE
    go_enter Try.func35, Try.ntmps35
    go_wp2_with (first | (refine wpList_loadD (by rfl) rfl V1.out rfl Try.underlying40 size_Drum hd ?_) | (refine wpList_loadD (by rfl) rfl V2.out rfl Try.underlying40 size_Drum he ?_) | (refine wpList_bd2 (by rfl) rfl (by simp [Act.eval, Act.put]) Try.underlying102 zero_Drum size_Drum hd he ?_))
    refine (c_drumCode _ s A c 2 l [d, e] _ (h.below B2) (DrumsAt.two V3.out hd he) hs hl hn (by simp)).mono ?_
    rintro z w1 ⟨rfl, b1⟩
    rw [HE.out]
    have B1 := bstep B2 b1
    go_wp2
    go_ret3
    exact ⟨rfl, B1⟩
  · rw [hx] at HE
    go_enter Try.func35, Try.ntmps35
    go_wp2_with (first | (refine wpList_loadD (by rfl) rfl V1.out rfl Try.underlying40 size_Drum hd ?_) | (refine wpList_loadD (by rfl) rfl V2.out rfl Try.underlying40 size_Drum he ?_) | (refine wpList_bd2 (by rfl) rfl (by simp [Act.eval, Act.put]) Try.underlying102 zero_Drum size_Drum hd he ?_))
    refine (c_drumCode _ s A c 2 l [d, e] _ (h.below B2) (DrumsAt.two V3.out hd he) hs hl hn (by simp)).mono ?_
    rintro z w1 ⟨rfl, b1⟩
    rw [HE.out]
    have B1 := bstep B2 b1
    have W1 := Lib.hid (V4.out.below b1)
    have W2 := Lib.hid (V5.out.below b1)
    clear b1 B2
    go_wp2_with fail
    have hud := HUD.out
    have hln1 : (Try.prog.info? 40).map (·.size) = some (drumV d).toList.length := by rw [drumV_len, hd]; exact size_Drum
    have hln2 : (Try.prog.info? 40).map (·.size) = some (drumV e).toList.length := by rw [drumV_len, he]; exact size_Drum
    have hk0 := Lib.hid (show w1.drew.rangeAt (w.heap.size + 1) 0 (drumV d).toList ∧ w1.drew.rangeAt (w.heap.size + 1 + 1) 0 (drumV e).toList ∧ Below w1.heap.size w1 w1.drew from ⟨W1.out.drew.range, W2.out.drew.range, bdrew (Below.refl _ _)⟩)
    refine wp_region_held_drew (S := (fun w' => w'.rangeAt (w.heap.size + 1) 0 (drumV d).toList ∧ w'.rangeAt (w.heap.size + 1 + 1) 0 (drumV e).toList ∧ Below w1.heap.size w1 w')) (by kernel_rfl) hk0.out (fun hHeld => ?_)
    refine wpAnyH_take (i := 0) (v := .agg (drumV e)) rfl (by kernel_rfl) (by kernel_rfl) (by kernel_rfl) (fun _ _ _ h => h) (by simpa using yieldsIf_load_mid (S := (fun w' => w'.rangeAt (w.heap.size + 1) 0 (drumV d).toList ∧ w'.rangeAt (w.heap.size + 1 + 1) 0 (drumV e).toList ∧ Below w1.heap.size w1 w')) (by rfl) _ _ rfl _ _ rfl (drumV e).toList _ (fun w' hS => hS.2.1) hud rfl hln2) hHeld ?_
    simp only [Act.put, List.setIfInBounds_toArray, List.set_cons_zero, List.set_cons_succ]
    refine wpAnyH_take (i := 1) (v := .agg (drumV d)) rfl (by kernel_rfl) (by kernel_rfl) (by kernel_rfl) (fun _ _ _ h => h) (by simpa using yieldsIf_load_mid (S := (fun w' => w'.rangeAt (w.heap.size + 1) 0 (drumV d).toList ∧ w'.rangeAt (w.heap.size + 1 + 1) 0 (drumV e).toList ∧ Below w1.heap.size w1 w')) (by rfl) _ _ rfl _ _ rfl (drumV d).toList _ (fun w' hS => hS.1) hud rfl hln1) hHeld ?_
    simp only [Act.put, List.setIfInBounds_toArray, List.set_cons_zero, List.set_cons_succ]
    refine wpAnyH_take (i := 4) (v := .agg (drumV d)) rfl (by kernel_rfl) (by kernel_rfl) (by kernel_rfl) (fun _ _ _ h => h) (by simpa using yieldsIf_load_mid (S := (fun w' => w'.rangeAt (w.heap.size + 1) 0 (drumV d).toList ∧ w'.rangeAt (w.heap.size + 1 + 1) 0 (drumV e).toList ∧ Below w1.heap.size w1 w')) (by rfl) _ _ rfl _ _ rfl (drumV d).toList _ (fun w' hS => hS.1) hud rfl hln1) hHeld ?_
    simp only [Act.put, List.setIfInBounds_toArray, List.set_cons_zero, List.set_cons_succ]
    refine wpAnyH_take (i := 5) (v := .agg (drumV e)) rfl (by kernel_rfl) (by kernel_rfl) (by kernel_rfl) (fun _ _ _ h => h) (by simpa using yieldsIf_load_mid (S := (fun w' => w'.rangeAt (w.heap.size + 1) 0 (drumV d).toList ∧ w'.rangeAt (w.heap.size + 1 + 1) 0 (drumV e).toList ∧ Below w1.heap.size w1 w')) (by rfl) _ _ rfl _ _ rfl (drumV e).toList _ (fun w' hS => hS.2.1) hud rfl hln2) hHeld ?_
    simp only [Act.put, List.setIfInBounds_toArray, List.set_cons_zero, List.set_cons_succ]
    refine wpAnyH_ready (rs := [2]) (by kernel_rfl) (by simp) ?_
    refine AllReadyH.cons rfl (fun K hK => ?_) AllReadyH.nil
    go_simp
    refine (c_less e d _ he hd).mono ?_
    rintro z w2 ⟨rfl, hbk⟩
    go_wp2_with fail
    refine hK.out _ _ ⟨keepr hHeld.1 hbk, keepr hHeld.2.1 hbk, bstep hHeld.2.2 hbk⟩ (fun hHeld => ?_)
    clear hK K
    try simp only [Act.put, List.setIfInBounds_toArray, List.set_cons_zero, List.set_cons_succ]
    refine wpAnyH_ready (rs := [3]) (by kernel_rfl) (by simp) ?_
    refine AllReadyH.cons rfl (fun K hK => ?_) AllReadyH.nil
    go_simp
    refine (c_count (lessD e d) _ HL.out.1 (lessD_wd e d)).mono ?_
    rintro z w3 ⟨rfl, hbk⟩
    go_wp2_with fail
    refine hK.out _ _ ⟨keepr hHeld.1 hbk, keepr hHeld.2.1 hbk, bstep hHeld.2.2 hbk⟩ (fun hHeld => ?_)
    clear hK K
    try simp only [Act.put, List.setIfInBounds_toArray, List.set_cons_zero, List.set_cons_succ]
    refine wpAnyH_ready (rs := [6]) (by kernel_rfl) (by simp) ?_
    refine AllReadyH.cons rfl (fun K hK => ?_) AllReadyH.nil
    go_simp
    refine (c_less d e _ hd he).mono ?_
    rintro z w4 ⟨rfl, hbk⟩
    go_wp2_with fail
    refine hK.out _ _ ⟨keepr hHeld.1 hbk, keepr hHeld.2.1 hbk, bstep hHeld.2.2 hbk⟩ (fun hHeld => ?_)
    clear hK K
    try simp only [Act.put, List.setIfInBounds_toArray, List.set_cons_zero, List.set_cons_succ]
    refine wpAnyH_ready (rs := [7]) (by kernel_rfl) (by simp) ?_
    refine AllReadyH.cons rfl (fun K hK => ?_) AllReadyH.nil
    go_simp
    refine (c_count (lessD d e) _ HL.out.2 (lessD_wd d e)).mono ?_
    rintro z w5 ⟨rfl, hbk⟩
    go_wp2_with fail
    refine hK.out _ _ ⟨keepr hHeld.1 hbk, keepr hHeld.2.1 hbk, bstep hHeld.2.2 hbk⟩ (fun hHeld => ?_)
    clear hK K
    try simp only [Act.put, List.setIfInBounds_toArray, List.set_cons_zero, List.set_cons_succ]
    refine wpAnyH_ready (rs := [8]) (by kernel_rfl) (by simp) ?_
    refine AllReadyH.cons rfl (fun K hK => ?_) AllReadyH.nil
    go_simp
    refine hK.out _ _ hHeld (fun hHeld => ?_)
    clear hK K
    try simp only [Act.put, List.setIfInBounds_toArray, List.set_cons_zero, List.set_cons_succ]
    refine wpAnyH_ready (rs := [9]) (by kernel_rfl) (by simp) ?_
    refine AllReadyH.cons rfl (fun K hK => ?_) AllReadyH.nil
    go_simp
    refine hK.out _ _ hHeld (fun hHeld => ?_)
    clear hK K
    try simp only [Act.put, List.setIfInBounds_toArray, List.set_cons_zero, List.set_cons_succ]
    refine wpAnyH_ready (rs := [10]) (by kernel_rfl) (by simp) ?_
    refine AllReadyH.cons rfl (fun K hK => ?_) AllReadyH.nil
    go_simp
    refine hK.out _ _ hHeld (fun hHeld => ?_)
    clear hK K
    try simp only [Act.put, List.setIfInBounds_toArray, List.set_cons_zero, List.set_cons_succ]
    refine wpAnyH_done (by kernel_rfl) ?_ _
    go_wp2
    go_ret3
    exact ⟨rfl, bstep B1 hHeld.2.2⟩

end Go.Proofs.Ytpfcbcmmofombaa
