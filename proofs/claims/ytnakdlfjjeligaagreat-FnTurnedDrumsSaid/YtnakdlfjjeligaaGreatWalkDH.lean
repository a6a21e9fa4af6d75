/-
  The walks of the codes of drums: whether a frame and drums are valid, in the reference and in the program.
-/
import Derived.Test.YtnakdlfjjeligaaGreatWalkDG
namespace Go.Proofs.YtnakdlfjjeligaaGreat
open Go.RowKit
set_option linter.unusedVariables false
set_option linter.unusedSimpArgs false
set_option maxRecDepth 4000

theorem c_unlessD (b : Bool) (n : Int) (w : World) :
    Calls Tryz.prog 55 #[.bool b, .int .i64 n] w fun e w' => e = .returned (.int .i64 (if b then 0 else n)) ∧ w = w' := by
  rcases b with _ | _
  all_goals
    go_enter Tryz.func55, Tryz.ntmps55
    go_wp2
    go_ret
    exact ⟨by simp, rfl⟩

theorem c_badDrum (b : Nat) (s : Int) (A : Option Addr) (c : Nat) (l : List (Int × Int)) (d : List Int) (w : World) (hf : FrameAt w b s A c l) (hd : d.length = 96) (hs : W16 s) (hn : l.length ≤ 1073741824) :
    Calls Tryz.prog 67 #[.agg (drumV d), .pointer (some ⟨b, 0, none⟩)] w fun e w' => e = .returned (.bool (!okD l.length s d)) ∧ Below w.heap.size w w' := by
  have hu2 := Tryz.underlying27
  obtain ⟨f0, f1, f2⟩ := hf.alloc (.cells (drumV d) 31)
  have V1 := Lib.hid (Var.new w (drumV d) 31)
  go_enter Tryz.func67, Tryz.ntmps67
  go_wp2_with (refine wpList_loadD (by rfl) rfl V1.out rfl Tryz.underlying31 size_Drum hd ?_)
  refine (c_isDrum s A c l d _ hd hs hn).mono ?_
  rintro e w1 ⟨rfl, b1⟩
  go_wp2
  go_ret
  exact ⟨rfl, bstep (balloc (Below.refl _ _) _) b1⟩

theorem c_IndexDrum (b g : Nat) (s : Int) (A : Option Addr) (c k0 : Nat) (l : List (Int × Int)) (ds : List (List Int)) (w : World) (hf : FrameAt w b s A c l) (hds : DrumsAt w g ds) (hs : W16 s) (hn : l.length ≤ 1073741824) (hnd : ds.length ≤ 1048576) :
    Calls Tryz.prog 89 #[.slice (some ⟨g, 0, none⟩) ds.length k0, .func (.func 67) #[] #[.pointer (some ⟨b, 0, none⟩)]] w fun e w' => e = .returned (.int .i64 (idxF (fun d => !okD l.length s d) ds)) ∧ Below w.heap.size w w' := by
  go_enter Tryz.func89, Tryz.ntmps89
  go_wp2
  go_loopw [8] (fun i w' => ∃ k : Nat, i = .int .i64 k ∧ k ≤ ds.length ∧ (∀ i (hi : i < ds.length), i < k → okD l.length s ds[i] = true) ∧ Below w.heap.size w w') (fun i _ => ds.length - (intOf i).toNat)
  case atStart => exact ⟨0, rfl, by omega, fun _ _ h => absurd h (by omega), Below.refl _ _⟩
  case round =>
    obtain ⟨k, rfl, hk, hz, hb⟩ := hrel
    have HZ := Lib.hid hz; clear hz
    by_cases hlt : k < ds.length
    · have X1 := Lib.hid (hds.below hb)
      have HF := Lib.hid (hf.below hb)
      have hd96 := (hds.2 k hlt).2
      have HD := Lib.hid hd96
      clear hd96
      rcases hx : okD l.length s ds[k] with _ | _
      · have HX := Lib.hid hx
        go_wp2_with (refine wpList_loadDs (by rfl) rfl X1.out hlt rfl Tryz.underlying31 size_Drum ?_)
        refine (c_badDrum b s A c l ds[k] _ HF.out HD.out hs hn).mono ?_
        rintro e w1 ⟨rfl, hb1⟩
        rw [hx]
        go_wp2
        go_ret
        exact ⟨ret_int (idxF_some hlt (by rw [HX.out]; rfl) (fun i hi hik => by rw [HZ.out i hi hik]; rfl)).symm, bstep hb hb1⟩
      · have HX := Lib.hid hx
        go_wp2_with (refine wpList_loadDs (by rfl) rfl X1.out hlt rfl Tryz.underlying31 size_Drum ?_)
        refine (c_badDrum b s A c l ds[k] _ HF.out HD.out hs hn).mono ?_
        rintro e w1 ⟨rfl, hb1⟩
        rw [hx]
        go_wp2
        go_roundw
        case rel => exact ⟨k + 1, by go_num, by omega, fun i hi hik => by
          by_cases e : i = k
          · subst e; exact HX.out
          · exact HZ.out i hi (by omega), bstep hb hb1⟩
        case measure => simp [intOf]; omega
    · obtain rfl : k = ds.length := by omega
      go_wp2
      go_ret
      exact ⟨ret_int (idxF_none (fun i hi => by rw [HZ.out i hi hi]; rfl)).symm, hb⟩

theorem c_ContainsDrum (b g : Nat) (s : Int) (A : Option Addr) (c k0 : Nat) (l : List (Int × Int)) (ds : List (List Int)) (w : World) (hf : FrameAt w b s A c l) (hds : DrumsAt w g ds) (hs : W16 s) (hn : l.length ≤ 1073741824) (hnd : ds.length ≤ 1048576) :
    Calls Tryz.prog 66 #[.slice (some ⟨g, 0, none⟩) ds.length k0, .func (.func 67) #[] #[.pointer (some ⟨b, 0, none⟩)]] w fun e w' => e = .returned (.bool (ds.any fun d => !okD l.length s d)) ∧ Below w.heap.size w w' := by
  have he := idxF_any (fun d => !okD l.length s d) ds
  have HE := Lib.hid he
  clear he
  go_enter Tryz.func66, Tryz.ntmps66
  go_wp2_with (go_at_call 89; refine (c_IndexDrum b g s A c k0 l ds w hf hds hs hn hnd).mono ?_; rintro e w1 ⟨rfl, hb1⟩)
  go_ret
  exact ⟨ret_bool HE.out, hb1⟩

/-- The code of drums in a frame. -/
theorem c_drumCode (g : Nat) (s : Int) (A : Option Addr) (c k0 : Nat) (l : List (Int × Int)) (ds : List (List Int)) (w : World) (h : At2 .i8 .i8 w A l) (hds : DrumsAt w g ds) (hs : W16 s) (hl : Whs l) (hn : l.length ≤ 1073741824) (hnd : ds.length ≤ 1048576) :
    Calls Tryz.prog 36 #[.agg #[.int .i16 s, .slice A l.length c], .slice (some ⟨g, 0, none⟩) ds.length k0] w fun e w' => e = .returned (.int .i64 (if okF s l && !(ds.any fun d => !okD l.length s d) then 0 else 1)) ∧ Below w.heap.size w w' := by
  have hu2 := Tryz.underlying27
  obtain ⟨z, hz⟩ : ∃ z, (ds.any fun d => !okD l.length s d) = z := ⟨_, rfl⟩
  rw [hz]
  have HZ := Lib.hid hz
  clear hz
  rcases hx : okF s l with _ | _
  · go_enter Tryz.func36, Tryz.ntmps36
    go_wp2_with fail
    refine (c_ValidFrame s A c l _ (h.alloc _) hs hl hn).mono ?_
    rintro e w1 ⟨rfl, b1⟩
    rw [hx]
    go_wp2_with (go_at_call 55; refine (c_unlessD _ _ _).mono ?_; rintro e w' ⟨rfl, rfl⟩)
    go_ret
    exact ⟨rfl, bstep (balloc (Below.refl _ _) _) b1⟩
  · rcases z with _ | _
    all_goals
      go_enter Tryz.func36, Tryz.ntmps36
      go_wp2_with fail
      refine (c_ValidFrame s A c l _ (h.alloc _) hs hl hn).mono ?_
      rintro e w1 ⟨rfl, b1⟩
      rw [hx]
      have B1 := bstep (balloc (Below.refl _ w) (.cells #[.int .i16 s, .slice A l.length c] 27)) b1
      have HF := Lib.hid (show FrameAt w1 w.heap.size s A c l from (FrameAt.box _).below b1)
      have HD1 := Lib.hid (hds.below B1)
      clear hds
      go_wp2_with fail
      refine (c_ContainsDrum w.heap.size g s A c k0 l ds _ HF.out HD1.out hs hn hnd).mono ?_
      rintro e w2 ⟨rfl, b2⟩
      rw [HZ.out]
      go_wp2_with (go_at_call 55; refine (c_unlessD _ _ _).mono ?_; rintro e w' ⟨rfl, rfl⟩)
      go_ret
      exact ⟨rfl, bstep B1 b2⟩

theorem any_one (f : List Int → Bool) (d : List Int) : ([d].any f) = f d := by simp
theorem cD_eq (s : Int) (l : List (Int × Int)) (d : List Int) : (if okF s l && !([d].any fun d => !okD l.length s d) then (0 : Int) else 1) = cD s l d := by
  unfold cD; rw [any_one]; simp

theorem c_l02Asked (bf bd : Nat) (s : Int) (A : Option Addr) (c : Nat) (l : List (Int × Int)) (d : List Int) (w : World) (hf : FrameAt w bf s A c l) (h : At2 .i8 .i8 w A l) (hd : DrumAt w bd d) (hs : W16 s) (hl : Whs l) (hn : l.length ≤ 1073741824) :
    Calls Tryz.prog 38 #[.pointer (some ⟨bf, 0, none⟩), .pointer (some ⟨bd, 0, none⟩)] w fun e w' => e = .returned (.int .i64 (cD s l d)) ∧ Below w.heap.size w w' := by
  unfold cD
  rcases hx : okF s l with _ | _
  · go_enter Tryz.func38, Tryz.ntmps38
    go_wp2_with fail
    refine (c_l02Frame bf s A c l _ hf h hs hl hn).mono ?_
    rintro e w1 ⟨rfl, b1⟩
    rw [hx]
    go_wp2
    go_ret
    exact ⟨rfl, b1⟩
  · rcases hy : okD l.length s d with _ | _
    all_goals
      go_enter Tryz.func38, Tryz.ntmps38
      go_wp2_with fail
      refine (c_l02Frame bf s A c l _ hf h hs hl hn).mono ?_
      rintro e w1 ⟨rfl, b1⟩
      rw [hx]
      go_wp2_with fail
      refine (c_l02Drum bf bd s A c l d _ (hf.below b1) (hd.below b1) hs hn).mono ?_
      rintro e w2 ⟨rfl, b2⟩
      rw [hy]
      go_wp2
      go_ret
      exact ⟨rfl, bstep b1 b2⟩



end Go.Proofs.YtnakdlfjjeligaaGreat
