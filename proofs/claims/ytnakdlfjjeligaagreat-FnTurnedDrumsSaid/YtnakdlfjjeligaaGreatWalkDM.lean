/-
  The walks of PinsToMove.
-/
import Derived.Test.YtnakdlfjjeligaaGreatWalkDL
namespace Go.Proofs.YtnakdlfjjeligaaGreat
open Go.RowKit
set_option linter.unusedVariables false
set_option linter.unusedSimpArgs false
set_option maxRecDepth 4000

theorem lessD_len {d e : List Int} (hd : d.length = 96) (he : e.length = 96) : (lessD d e).length = 96 := by simp [lessD, hd, he]
theorem lessD_get {d e : List Int} {k : Nat} (h : k < (lessD d e).length) (h1 : k < d.length) (h2 : k < e.length) : (lessD d e)[k] = bits .andNot .u32 d[k] e[k] := by simp [lessD]
theorem lessD_wd (d e : List Int) : Wd (lessD d e) := fun x hx => by
  simp only [lessD, List.mem_map] at hx
  obtain ⟨p, _, rfl⟩ := hx
  exact ⟨bits_lo_u32 _ _ _, bits_hi_u32 _ _ _⟩
theorem drumV_mix {a b : List Int} {k : Nat} (h1 : k < a.length) (h2 : k < b.length) : (drumV (mixD a b k))[k]? = some (.int .u32 b[k]) := by
  have hl : k < (mixD a b k).length := by simp [mixD]; omega
  rw [drumV_get hl]
  congr 2
  have : (mixD a b k)[k]? = some b[k] := by
    unfold mixD
    rw [List.getElem?_append_right (by simp; omega), List.getElem?_drop]
    simp [Nat.min_eq_left (Nat.le_of_lt h1), h2]
  rw [List.getElem?_eq_getElem hl] at this
  exact Option.some.inj this

theorem c_less (d e : List Int) (w : World) (hd : d.length = 96) (he : e.length = 96) :
    Calls Tryz.prog 61 #[.agg (drumV d), .agg (drumV e)] w fun z w' => z = .returned (.agg (drumV (lessD d e))) ∧ Below w.heap.size w w' := by
  have hu := Tryz.underlying31
  have hl := lessD_len hd he
  have v1 : Var (((w.alloc (.cells (drumV d) 31)).alloc (.cells (drumV e) 31)).alloc (.cells (drumV zD) 31)) (w.heap.size + 1) (drumV e) 31 := by simpa using (Var.new (w.alloc (.cells (drumV d) 31)) (drumV e) 31).old (.cells (drumV zD) 31)
  have V1 := Lib.hid v1
  clear v1
  go_enter Tryz.func61, Tryz.ntmps61
  clear hu
  go_wp2_with (first | (refine wpList_alloc_row rfl 31 rfl (.agg (drumV zD)) zero_Drum ?_) | (refine wpList_loadD (by rfl) rfl V1.out rfl Tryz.underlying31 size_Drum he ?_))
  go_loopw [8] (fun i w' => ∃ k : Nat, i = .int .i64 k ∧ k ≤ 96 ∧ Var w' w.heap.size (drumV (mixD (lessD d e) d k)) 31 ∧ Var w' (w.heap.size + 1 + 1) (drumV zD) 31 ∧ Below w.heap.size w w') (fun i _ => 96 - (intOf i).toNat)
  case atStart =>
    refine ⟨0, rfl, by omega, ?_, ?_, balloc (balloc (balloc (Below.refl _ w) _) _) _⟩
    · rw [mixD_zero]; exact ((Var.new w (drumV d) 31).old _).old _
    · simpa using Var.new ((w.alloc (.cells (drumV d) 31)).alloc (.cells (drumV e) 31)) (drumV zD) 31
  case round =>
    obtain ⟨k, rfl, hk, v0, v2, hb⟩ := hrel
    by_cases hlt : k < 96
    · have hlt1 : k < d.length := by omega
      have hlt2 : k < e.length := by omega
      have hlt3 : k < (lessD d e).length := by omega
      have x1 := run_index_drum Tryz.underlying31 Tryz.underlying29 size_u32 he hlt2
      have x2 := v0.cell (drumV_mix hlt3 hlt1)
      have x3 := v0.frozen k
      have h1 : (0 : Int) ≤ (k : Int) := by omega
      have h2 : (k : Int) < 96 := by omega
      have HV := Lib.hid (And.intro v0 v2)
      clear v0 v2
      go_wp2
      go_roundw
      case rel =>
        obtain ⟨v0, v2⟩ := HV.out
        exact ⟨k + 1, by go_num, by omega, by have := v0.set k (.int .u32 ((lessD d e)[k])); rw [drumV_set, mixD_set hlt3 hlt1, lessD_get hlt3 hlt1 hlt2] at this; exact this, v2.other (by simp <;> omega) _, bset hb (by simp <;> omega) _⟩
      case measure => simp [intOf]; omega
    · obtain rfl : k = 96 := by omega
      rw [mixD_end hl hd] at v0
      go_wp2_with (first | (refine wpList_loadD (by rfl) rfl v0 rfl Tryz.underlying31 size_Drum hl ?_) | (refine wpList_storeD rfl rfl v2 rfl rfl size_Drum hl zD_len ?_))
      refine bodyPost_ret (results_cell_drum Tryz.results61 _ _ (w.heap.size + 1 + 1) 31 (lessD d e) rfl (v2.row _) Tryz.underlying31 size_Drum hl) rfl ⟨rfl, brow hb (by omega) _⟩


noncomputable def vDD (s : Int) (l : List (Int × Int)) (d e : List Int) : Bool := okF s l && (okD l.length s d && okD l.length s e)
noncomputable def cDD (s : Int) (l : List (Int × Int)) (d e : List Int) : Int := if vDD s l d e then 0 else 1
noncomputable def rMoves (s : Int) (l : List (Int × Int)) (d e x y : List Int) : Int := if vDD s l d e then popL (lessD x y) else 0
theorem cDD_eq (s : Int) (l : List (Int × Int)) (d e : List Int) : (if okF s l && !([d, e].any fun d => !okD l.length s d) then (0 : Int) else 1) = cDD s l d e := by
  unfold cDD vDD
  rw [show ([d, e].any fun d => !okD l.length s d) = (!okD l.length s d || !okD l.length s e) by simp only [List.any_cons, List.any_nil, Bool.or_false]]
  generalize okD l.length s d = x
  generalize okD l.length s e = y
  cases okF s l <;> cases x <;> cases y <;> rfl


set_option maxHeartbeats 800000 in
theorem c_implPinsToMove (s : Int) (A : Option Addr) (c : Nat) (l : List (Int × Int)) (d e : List Int) (w : World) (h : At2 .i8 .i8 w A l) (hs : W16 s) (hl : Whs l) (hn : l.length ≤ 1073741824) (hd : d.length = 96) (hr : ∀ x ∈ d, 0 ≤ x ∧ x ≤ 4294967295) (he : e.length = 96) (hr2 : ∀ x ∈ e, 0 ≤ x ∧ x ≤ 4294967295) :
    Calls Tryz.prog 29 #[.agg #[.int .i16 s, .slice A l.length c], .agg (drumV d), .agg (drumV e)] w fun z w' => z = .returned (.tuple #[.int .i64 (rMoves s l d e e d), .int .i64 (rMoves s l d e d e), .int .i64 (cDD s l d e)]) ∧ Below w.heap.size w w' := by
  have hu2 := Tryz.underlying27
  have hud := Tryz.underlying31
  have HUD := Lib.hid hud
  clear hud
  have v1 : Var (((w.alloc (.cells #[.int .i16 s, .slice A l.length c] 27)).alloc (.cells (drumV d) 31)).alloc (.cells (drumV e) 31)) (w.heap.size + 1) (drumV d) 31 := by simpa using (Var.new (w.alloc (.cells #[.int .i16 s, .slice A l.length c] 27)) (drumV d) 31).old (.cells (drumV e) 31)
  have v2 : Var (((w.alloc (.cells #[.int .i16 s, .slice A l.length c] 27)).alloc (.cells (drumV d) 31)).alloc (.cells (drumV e) 31)) (w.heap.size + 1 + 1) (drumV e) 31 := by simpa using Var.new ((w.alloc (.cells #[.int .i16 s, .slice A l.length c] 27)).alloc (.cells (drumV d) 31)) (drumV e) 31
  have v3 : Var ((((w.alloc (.cells #[.int .i16 s, .slice A l.length c] 27)).alloc (.cells (drumV d) 31)).alloc (.cells (drumV e) 31)).alloc (.cells (drumV (d ++ e)) 31)) (w.heap.size + 1 + 1 + 1) (drumV (d ++ e)) 31 := by simpa using Var.new (((w.alloc (.cells #[.int .i16 s, .slice A l.length c] 27)).alloc (.cells (drumV d) 31)).alloc (.cells (drumV e) 31)) (drumV (d ++ e)) 31
  have B2 : Below w.heap.size w ((((w.alloc (.cells #[.int .i16 s, .slice A l.length c] 27)).alloc (.cells (drumV d) 31)).alloc (.cells (drumV e) 31)).alloc (.cells (drumV (d ++ e)) 31)) := balloc (balloc (balloc (balloc (Below.refl _ w) _) _) _) _
  have V1 := Lib.hid v1
  have V2 := Lib.hid v2
  have V3 := Lib.hid v3
  have V4 := Lib.hid (v1.old (.cells (drumV (d ++ e)) 31))
  have V5 := Lib.hid (v2.old (.cells (drumV (d ++ e)) 31))
  clear v1 v2 v3
  have HL := Lib.hid (And.intro (lessD_len he hd) (lessD_len hd he))
  unfold rMoves
  have HE := Lib.hid (cDD_eq s l d e)
  unfold cDD at HE ⊢
  rcases hx : vDD s l d e with _ | _
  · rw [hx] at HE
    go_enter Tryz.func29, Tryz.ntmps29
    go_wp2_with (first | (refine wpList_loadD (by rfl) rfl V1.out rfl Tryz.underlying31 size_Drum hd ?_) | (refine wpList_loadD (by rfl) rfl V2.out rfl Tryz.underlying31 size_Drum he ?_) | (refine wpList_bd2 (by rfl) rfl (by simp [Act.eval, Act.put]) Tryz.underlying104 zero_Drum size_Drum hd he ?_))
    refine (c_drumCode _ s A c 2 l [d, e] _ (h.below B2) (DrumsAt.two V3.out hd he) hs hl hn (by simp)).mono ?_
    rintro z w1 ⟨rfl, b1⟩
    rw [HE.out]
    have B1 := bstep B2 b1
    go_wp2
    go_ret3
    exact ⟨rfl, B1⟩
  · rw [hx] at HE
    go_enter Tryz.func29, Tryz.ntmps29
    go_wp2_with (first | (refine wpList_loadD (by rfl) rfl V1.out rfl Tryz.underlying31 size_Drum hd ?_) | (refine wpList_loadD (by rfl) rfl V2.out rfl Tryz.underlying31 size_Drum he ?_) | (refine wpList_bd2 (by rfl) rfl (by simp [Act.eval, Act.put]) Tryz.underlying104 zero_Drum size_Drum hd he ?_))
    refine (c_drumCode _ s A c 2 l [d, e] _ (h.below B2) (DrumsAt.two V3.out hd he) hs hl hn (by simp)).mono ?_
    rintro z w1 ⟨rfl, b1⟩
    rw [HE.out]
    have B1 := bstep B2 b1
    have W1 := Lib.hid (V4.out.below b1)
    have W2 := Lib.hid (V5.out.below b1)
    clear b1 B2
    go_wp2_with fail
    have hud := HUD.out
    have hln1 : (Tryz.prog.info? 31).map (·.size) = some (drumV d).toList.length := by rw [drumV_len, hd]; exact size_Drum
    have hln2 : (Tryz.prog.info? 31).map (·.size) = some (drumV e).toList.length := by rw [drumV_len, he]; exact size_Drum
    have hk0 := Lib.hid (show w1.drew.rangeAt (w.heap.size + 1) 0 (drumV d).toList ∧ w1.drew.rangeAt (w.heap.size + 1 + 1) 0 (drumV e).toList ∧ Below w1.heap.size w1 w1.drew from ⟨W1.out.drew.range, W2.out.drew.range, bdrew (Below.refl _ _)⟩)
    refine wp_region_held_drew (S := (fun w' => w'.rangeAt (w.heap.size + 1) 0 (drumV d).toList ∧ w'.rangeAt (w.heap.size + 1 + 1) 0 (drumV e).toList ∧ Below w1.heap.size w1 w')) (by kernel_rfl) hk0.out (fun hHeld => ?_)
    refine wpAnyH_take (i := 0) (v := .agg (drumV e)) rfl (by kernel_rfl) (by kernel_rfl) (by kernel_rfl) (fun _ _ _ h => h) (by simpa using yieldsIf_load_mid (S := (fun w' => w'.rangeAt (w.heap.size + 1) 0 (drumV d).toList ∧ w'.rangeAt (w.heap.size + 1 + 1) 0 (drumV e).toList ∧ Below w1.heap.size w1 w')) (by rfl) _ _ rfl _ _ rfl (drumV e).toList _ (fun w' hS => hS.2.1) hud rfl hln2) hHeld ?_
    simp only [Act.put, List.setIfInBounds_toArray, List.set_cons_zero, List.set_cons_succ]
    refine wpAnyH_take (i := 1) (v := .agg (drumV d)) rfl (by kernel_rfl) (by kernel_rfl) (by kernel_rfl) (fun _ _ _ h => h) (by simpa using yieldsIf_load_mid (S := (fun w' => w'.rangeAt (w.heap.size + 1) 0 (drumV d).toList ∧ w'.rangeAt (w.heap.size + 1 + 1) 0 (drumV e).toList ∧ Below w1.heap.size w1 w')) (by rfl) _ _ rfl _ _ rfl (drumV d).toList _ (fun w' hS => hS.1) hud rfl hln1) hHeld ?_
    simp only [Act.put, List.setIfInBounds_toArray, List.set_cons_zero, List.set_cons_succ]
    refine wpAnyH_take (i := 4) (v := .agg (drumV d)) rfl (by kernel_rfl) (by kernel_rfl) (by kernel_rfl) (fun _ _ _ h => h) (by simpa using yieldsIf_load_mid (S := (fun w' => w'.rangeAt (w.heap.size + 1) 0 (drumV d).toList ∧ w'.rangeAt (w.heap.size + 1 + 1) 0 (drumV e).toList ∧ Below w1.heap.size w1 w')) (by rfl) _ _ rfl _ _ rfl (drumV d).toList _ (fun w' hS => hS.1) hud rfl hln1) hHeld ?_
    simp only [Act.put, List.setIfInBounds_toArray, List.set_cons_zero, List.set_cons_succ]
    refine wpAnyH_take (i := 5) (v := .agg (drumV e)) rfl (by kernel_rfl) (by kernel_rfl) (by kernel_rfl) (fun _ _ _ h => h) (by simpa using yieldsIf_load_mid (S := (fun w' => w'.rangeAt (w.heap.size + 1) 0 (drumV d).toList ∧ w'.rangeAt (w.heap.size + 1 + 1) 0 (drumV e).toList ∧ Below w1.heap.size w1 w')) (by rfl) _ _ rfl _ _ rfl (drumV e).toList _ (fun w' hS => hS.2.1) hud rfl hln2) hHeld ?_
    simp only [Act.put, List.setIfInBounds_toArray, List.set_cons_zero, List.set_cons_succ]
    refine wpAnyH_ready (rs := [2]) (by kernel_rfl) (by simp) ?_
    refine AllReadyH.cons rfl (fun K hK => ?_) AllReadyH.nil
    go_simp
    refine (c_less e d _ he hd).mono ?_
    rintro z w2 ⟨rfl, hbk⟩
    go_wp2_with fail
    refine hK.out _ _ ⟨keepr hHeld.1 hbk, keepr hHeld.2.1 hbk, bstep hHeld.2.2 hbk⟩ (fun hHeld => ?_)
    clear hK K
    try simp only [Act.put, List.setIfInBounds_toArray, List.set_cons_zero, List.set_cons_succ]
    refine wpAnyH_ready (rs := [3]) (by kernel_rfl) (by simp) ?_
    refine AllReadyH.cons rfl (fun K hK => ?_) AllReadyH.nil
    go_simp
    refine (c_count (lessD e d) _ HL.out.1 (lessD_wd e d)).mono ?_
    rintro z w3 ⟨rfl, hbk⟩
    go_wp2_with fail
    refine hK.out _ _ ⟨keepr hHeld.1 hbk, keepr hHeld.2.1 hbk, bstep hHeld.2.2 hbk⟩ (fun hHeld => ?_)
    clear hK K
    try simp only [Act.put, List.setIfInBounds_toArray, List.set_cons_zero, List.set_cons_succ]
    refine wpAnyH_ready (rs := [6]) (by kernel_rfl) (by simp) ?_
    refine AllReadyH.cons rfl (fun K hK => ?_) AllReadyH.nil
    go_simp
    refine (c_less d e _ hd he).mono ?_
    rintro z w4 ⟨rfl, hbk⟩
    go_wp2_with fail
    refine hK.out _ _ ⟨keepr hHeld.1 hbk, keepr hHeld.2.1 hbk, bstep hHeld.2.2 hbk⟩ (fun hHeld => ?_)
    clear hK K
    try simp only [Act.put, List.setIfInBounds_toArray, List.set_cons_zero, List.set_cons_succ]
    refine wpAnyH_ready (rs := [7]) (by kernel_rfl) (by simp) ?_
    refine AllReadyH.cons rfl (fun K hK => ?_) AllReadyH.nil
    go_simp
    refine (c_count (lessD d e) _ HL.out.2 (lessD_wd d e)).mono ?_
    rintro z w5 ⟨rfl, hbk⟩
    go_wp2_with fail
    refine hK.out _ _ ⟨keepr hHeld.1 hbk, keepr hHeld.2.1 hbk, bstep hHeld.2.2 hbk⟩ (fun hHeld => ?_)
    clear hK K
    try simp only [Act.put, List.setIfInBounds_toArray, List.set_cons_zero, List.set_cons_succ]
    refine wpAnyH_ready (rs := [8]) (by kernel_rfl) (by simp) ?_
    refine AllReadyH.cons rfl (fun K hK => ?_) AllReadyH.nil
    go_simp
    refine hK.out _ _ hHeld (fun hHeld => ?_)
    clear hK K
    try simp only [Act.put, List.setIfInBounds_toArray, List.set_cons_zero, List.set_cons_succ]
    refine wpAnyH_ready (rs := [9]) (by kernel_rfl) (by simp) ?_
    refine AllReadyH.cons rfl (fun K hK => ?_) AllReadyH.nil
    go_simp
    refine hK.out _ _ hHeld (fun hHeld => ?_)
    clear hK K
    try simp only [Act.put, List.setIfInBounds_toArray, List.set_cons_zero, List.set_cons_succ]
    refine wpAnyH_ready (rs := [10]) (by kernel_rfl) (by simp) ?_
    refine AllReadyH.cons rfl (fun K hK => ?_) AllReadyH.nil
    go_simp
    refine hK.out _ _ hHeld (fun hHeld => ?_)
    clear hK K
    try simp only [Act.put, List.setIfInBounds_toArray, List.set_cons_zero, List.set_cons_succ]
    refine wpAnyH_done (by kernel_rfl) ?_ _
    go_wp2
    go_ret3
    exact ⟨rfl, bstep B1 hHeld.2.2⟩

end Go.Proofs.YtnakdlfjjeligaaGreat
