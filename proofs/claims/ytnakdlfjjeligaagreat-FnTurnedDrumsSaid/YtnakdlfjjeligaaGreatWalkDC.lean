/-
  The walk of the program's test whether a frame is valid.
-/
import Derived.Test.YtnakdlfjjeligaaGreatWalkDB
namespace Go.Proofs.YtnakdlfjjeligaaGreat
open Go.RowKit
set_option linter.unusedVariables false
set_option linter.unusedSimpArgs false
set_option maxRecDepth 4000

theorem c_size (A : Option Addr) (c n : Nat) (w : World) :
    Calls Tryz.prog 80 #[.slice A n c] w fun e w' => e = .returned (.int .i64 n) ∧ w = w' := by
  go_enter Tryz.func80, Tryz.ntmps80
  go_wp2
  go_ret
  exact ⟨rfl, rfl⟩

theorem c_badHammer (b : Nat) (s : Int) (p : Int × Int) (w : World) (f0 : b < w.heap.size) (f1 : w.cell? ⟨b, 0, none⟩ = some (.int .i16 s)) (hs : W16 s) (hp : Wh p) :
    Calls Tryz.prog 82 #[.agg #[.int .i8 p.1, .int .i8 p.2], .pointer (some ⟨b, 0, none⟩)] w fun e w' => e = .returned (.bool (!okH s p)) ∧ Below w.heap.size w w' := by
  have hu := Tryz.underlying56
  have hu2 := Tryz.underlying27
  have ws := wrap16 hs
  obtain ⟨k1, k2, k3, k4⟩ := hp
  have w1 := wrap8 ⟨k1, k2⟩
  have w2 := wrap8 ⟨k3, k4⟩
  have g1 : (w.alloc (.cells #[.int .i8 p.1, .int .i8 p.2] 56)).cell? ⟨b, 0, none⟩ = some (.int .i16 s) := (World.cell?_alloc_lt _ _ ⟨b, 0, none⟩ f0).trans f1
  unfold okH
  rcases e1 : inB p.1 0 47 with _ | _
  · go_enter Tryz.func82, Tryz.ntmps82
    go_wp2_with (first | (go_at_call 74; refine (c_within _ _ _ _).mono ?_; rintro e w' ⟨rfl, rfl⟩) | (go_at_call 53; refine (c_isPitch _ _).mono ?_; rintro e w' ⟨rfl, rfl⟩))
    go_ret
    exact ⟨rfl, balloc (Below.refl _ _) _⟩
  · go_enter Tryz.func82, Tryz.ntmps82
    go_wp2_with (first | (go_at_call 74; refine (c_within _ _ _ _).mono ?_; rintro e w' ⟨rfl, rfl⟩) | (go_at_call 53; refine (c_isPitch _ _).mono ?_; rintro e w' ⟨rfl, rfl⟩))
    all_goals
      go_ret
      exact ⟨ret_bool (by first | rfl | (congr 2; omega)), balloc (Below.refl _ _) _⟩

theorem c_IndexHammer (b : Nat) (s : Int) (A : Option Addr) (c : Nat) (l : List (Int × Int)) (w : World) (f0 : b < w.heap.size) (f1 : w.cell? ⟨b, 0, none⟩ = some (.int .i16 s)) (h : At2 .i8 .i8 w A l) (hs : W16 s) (hl : Whs l) (hn : l.length ≤ 1073741824) :
    Calls Tryz.prog 98 #[.slice A l.length c, .func (.func 82) #[] #[.pointer (some ⟨b, 0, none⟩)]] w fun e w' => e = .returned (.int .i64 (idxF (fun p => !okH s p) l)) ∧ Below w.heap.size w w' := by
  have hu := Tryz.underlying56
  go_enter Tryz.func98, Tryz.ntmps98
  go_wp2
  go_loopw [8] (fun i w' => ∃ k : Nat, i = .int .i64 k ∧ k ≤ l.length ∧ (∀ i (hi : i < l.length), i < k → okH s l[i] = true) ∧ Below w.heap.size w w') (fun i _ => l.length - (intOf i).toNat)
  case atStart => exact ⟨0, rfl, by omega, fun _ _ h => absurd h (by omega), Below.refl _ _⟩
  case round =>
    obtain ⟨k, rfl, hk, hz, hb⟩ := hrel
    have HZ := Lib.hid hz; clear hz
    by_cases hlt : k < l.length
    · obtain ⟨bb, off, rfl, hbl, hc⟩ := (h.below hb).get (by omega)
      have x1 := (hc k hlt).1
      have x2 := (hc k hlt).2
      have g1 := (hb.cell (p := ⟨b, 0, none⟩) f0).trans f1
      have hp := hl.get hlt
      have hsz : b < wr.heap.size := by have := hb.size; omega
      clear hc f1
      rcases hx : okH s l[k] with _ | _
      · have HX := Lib.hid hx
        go_wp2_with fail
        refine (c_badHammer b s l[k] _ hsz g1 hs hp).mono ?_
        rintro e w1 ⟨rfl, hb1⟩
        clear hsz hp
        rw [hx]
        go_wp2
        go_ret
        exact ⟨ret_int (idxF_some hlt (by rw [HX.out]; rfl) (fun i hi hik => by rw [HZ.out i hi hik]; rfl)).symm, bstep hb hb1⟩
      · have HX := Lib.hid hx
        go_wp2_with fail
        refine (c_badHammer b s l[k] _ hsz g1 hs hp).mono ?_
        rintro e w1 ⟨rfl, hb1⟩
        clear hsz hp
        rw [hx]
        go_wp2
        go_roundw
        case rel => exact ⟨k + 1, by go_num, by omega, fun i hi hik => by
          by_cases e : i = k
          · subst e; exact HX.out
          · exact HZ.out i hi (by omega), bstep hb hb1⟩
        case measure => simp [intOf]; omega
    · obtain rfl : k = l.length := by omega
      go_wp2
      go_ret
      exact ⟨ret_int (idxF_none (fun i hi => by rw [HZ.out i hi hi]; rfl)).symm, hb⟩

theorem c_ContainsHammer (b : Nat) (s : Int) (A : Option Addr) (c : Nat) (l : List (Int × Int)) (w : World) (f0 : b < w.heap.size) (f1 : w.cell? ⟨b, 0, none⟩ = some (.int .i16 s)) (h : At2 .i8 .i8 w A l) (hs : W16 s) (hl : Whs l) (hn : l.length ≤ 1073741824) :
    Calls Tryz.prog 81 #[.slice A l.length c, .func (.func 82) #[] #[.pointer (some ⟨b, 0, none⟩)]] w fun e w' => e = .returned (.bool (!l.all (okH s))) ∧ Below w.heap.size w w' := by
  have he : decide (0 ≤ idxF (fun p => !okH s p) l) = !l.all (okH s) := by rw [idxF_any, any_not]
  have HE := Lib.hid he
  clear he
  go_enter Tryz.func81, Tryz.ntmps81
  go_wp2_with (go_at_call 98; refine (c_IndexHammer b s A c l w f0 f1 h hs hl hn).mono ?_; rintro e w1 ⟨rfl, hb1⟩)
  go_ret
  exact ⟨ret_bool HE.out, hb1⟩

theorem c_ValidFrame (s : Int) (A : Option Addr) (c : Nat) (l : List (Int × Int)) (w : World) (h : At2 .i8 .i8 w A l) (hs : W16 s) (hl : Whs l) (hn : l.length ≤ 1073741824) :
    Calls Tryz.prog 50 #[.agg #[.int .i16 s, .slice A l.length c]] w fun e w' => e = .returned (.bool (okF s l)) ∧ Below w.heap.size w w' := by
  have hu2 := Tryz.underlying27
  have ws := wrap16 hs
  have f1 : (w.alloc (.cells #[.int .i16 s, .slice A l.length c] 27)).cell? ⟨w.heap.size, 0, none⟩ = some (.int .i16 s) := cell_new _ _ _ rfl
  have H1 := Lib.hid f1
  clear f1
  unfold okF
  rcases e1 : inB s 2 96 with _ | _ <;> rcases e2 : inB (l.length : Int) 1 24 with _ | _
  all_goals
    go_enter Tryz.func50, Tryz.ntmps50
    go_wp2_with (first | (go_at_call 74; refine (c_within _ _ _ _).mono ?_; rintro e w' ⟨rfl, rfl⟩) | (go_at_call 80; refine (c_size _ _ _ _).mono ?_; rintro e w' ⟨rfl, rfl⟩))
    first
    | (go_ret
       exact ⟨rfl, balloc (Below.refl _ _) _⟩)
    | (refine (c_ContainsHammer w.heap.size s A c l _ (by simp) H1.out (h.alloc _) hs hl hn).mono ?_
       rintro e w' ⟨rfl, hb⟩
       go_wp2
       go_ret
       exact ⟨by simp, bstep (balloc (Below.refl _ _) _) hb⟩)


end Go.Proofs.YtnakdlfjjeligaaGreat
