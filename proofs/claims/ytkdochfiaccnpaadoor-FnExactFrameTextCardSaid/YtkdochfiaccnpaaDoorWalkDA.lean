/-
  The walks of the law's own helpers on hammers and frames, and of the test whether a frame is valid.
-/
import Derived.Test.YtkdochfiaccnpaaDoorWalkA
import Derived.Test.YtkdochfiaccnpaaDoorDataD
import Derived.Test.YtkdochfiaccnpaaDoorPureD
namespace Go.Proofs.YtkdochfiaccnpaaDoor
open Go.RowKit
set_option linter.unusedVariables false
set_option linter.unusedSimpArgs false
set_option maxRecDepth 4000

theorem info_Hammer : (Tryd.prog.info? 61).map (fun i => (i.zero, i.size, i.bytes)) = some (some (.agg #[.int .i8 0, .int .i8 0]), 2, 2) := by kernel_rfl

theorem c_szHammerS (A : Option Addr) (c n : Nat) (left : Int) (w : World) (h0 : -1 ≤ left) (h1 : left ≤ 1048576) (hn : n ≤ 9223372036854775807) :
    Calls Tryd.prog 28 #[.slice A n c, .int .i64 left] w fun e w' => e = .returned (.int .i64 (szI left n)) ∧ w = w' := by
  by_cases hx : left < (n : Int)
  · have hw1 : IntKind.i64.wrap (left - (n:Int)) = left - (n:Int) := IntWalk.i64_in _ (by omega)
    have hx2 : left - (n : Int) < 0 := by omega
    go_enter Tryd.func28, Tryd.ntmps28
    go_wp2
    go_ret
    exact ⟨ret_int (by unfold szI; split <;> omega), rfl⟩
  · have hw1 : IntKind.i64.wrap (left - (n:Int)) = left - (n:Int) := IntWalk.i64_in _ (by omega)
    have hx2 : ¬ left - (n : Int) < 0 := by omega
    go_enter Tryd.func28, Tryd.ntmps28
    go_wp2
    go_ret
    exact ⟨ret_int (by unfold szI; split <;> omega), rfl⟩

theorem c_szFrame (s : Int) (A : Option Addr) (c n : Nat) (left : Int) (w : World) (h0 : -1 ≤ left) (h1 : left ≤ 1048576) (hn : n ≤ 9223372036854775807) :
    Calls Tryd.prog 13 #[.agg #[.int .i16 s, .slice A n c], .int .i64 left] w fun e w' => e = .returned (.int .i64 (szI left n)) ∧ Below w.heap.size w w' := by
  have hu := Tryd.underlying35
  by_cases hx : left < (n : Int)
  · have hs : szI left n = -1 := by unfold szI; split <;> omega
    rw [hs]
    go_enter Tryd.func13, Tryd.ntmps13
    go_wp2_with fail
    refine (c_szHammerS A c n left _ h0 h1 hn).mono ?_
    rintro e w' ⟨rfl, rfl⟩
    rw [hs]
    clear hs hx h0 h1
    go_wp2
    go_ret
    exact ⟨rfl, balloc (Below.refl _ _) _⟩
  · have hs : szI left n = left - n := by unfold szI; split <;> omega
    obtain ⟨z, hz⟩ : ∃ z, z = left - (n : Int) := ⟨_, rfl⟩
    have hx2 : decide (z < 0) = false := decide_eq_false (by omega)
    rw [← hz] at hs
    rw [hs]
    go_enter Tryd.func13, Tryd.ntmps13
    go_wp2_with fail
    refine (c_szHammerS A c n left _ h0 h1 hn).mono ?_
    rintro e w' ⟨rfl, rfl⟩
    rw [hs]
    clear hs hx h0 h1 hz hn
    go_wp2
    go_ret
    exact ⟨rfl, balloc (Below.refl _ _) _⟩

theorem c_toHammer (p : Int × Int) (w : World) :
    Calls Tryd.prog 45 #[.agg #[.int .i8 p.1, .int .i8 p.2]] w fun e w' => e = .returned (.agg #[.int .i8 p.1, .int .i8 p.2]) ∧ Below w.heap.size w w' := by
  have hu := Tryd.underlying61
  have hu2 := Tryd.underlying78
  go_enter Tryd.func45, Tryd.ntmps45
  go_wp2
  refine bodyPost_ret (v := .agg #[.int .i8 p.1, .int .i8 p.2]) (by simp [results, Tryd.results45, go_sem]) rfl ⟨rfl, ?_⟩
  repeat (first | exact Below.refl _ _ | apply balloc | refine bset ?_ (by simp) _)

theorem c_eqHammer (a b : Int × Int) (w : World) :
    Calls Tryd.prog 49 #[.agg #[.int .i8 a.1, .int .i8 a.2], .agg #[.int .i8 b.1, .int .i8 b.2]] w fun e w' => e = .returned (.bool (eqN a b)) ∧ Below w.heap.size w w' := by
  by_cases h1 : a.1 = b.1 <;> by_cases h2 : a.2 = b.2
  all_goals
    go_enter Tryd.func49, Tryd.ntmps49
    go_wp2
    go_ret
    exact ⟨ret_bool (by simp [eqN]; omega), balloc (balloc (Below.refl _ _) _) _⟩

theorem c_toHammerS (A : Option Addr) (c : Nat) (l : List (Int × Int)) (w : World) (h : At2 .i8 .i8 w A l) (hn : l.length ≤ 1073741824) :
    Calls Tryd.prog 31 #[.slice A l.length c] w fun e w' => ∃ v, e = .returned v ∧ Own2 .i8 .i8 61 w' w.heap.size v l ∧ Below w.heap.size w w' := by
  have hu := Tryd.underlying61
  have hu2 := Tryd.underlying78
  have hmk := run_make2 (P := Tryd.prog) 38 61 .i8 .i8 2 Tryd.underlying38 info_Hammer l.length (by omega) hn
  go_enter Tryd.func31, Tryd.ntmps31
  go_wp2
  clear hmk
  go_loopw [4] (fun i w' => ∃ k : Nat, i = .int .i64 k ∧ k ≤ l.length ∧ Own2 .i8 .i8 61 w' w.heap.size (.slice (some ⟨w.heap.size, 0, none⟩) l.length l.length) (fillL l k) ∧ Below w.heap.size w w') (fun i _ => l.length - (intOf i).toNat)
  case atStart => exact ⟨0, rfl, by omega, by rw [fillL_zero]; exact Own2.made (Nat.le_refl _) hn, balloc (Below.refl _ _) _⟩
  case round =>
    obtain ⟨k, rfl, hk, hown, hb⟩ := hrel
    by_cases hlt : k < l.length
    · obtain ⟨b, off, rfl, hbl, hc⟩ := (h.below hb).get (by omega)
      have x1 := (hc k hlt).1
      have x2 := (hc k hlt).2
      clear hc
      have hlt2 : k < (fillL l k).length := by rw [fillL_len]; exact hlt
      go_wp2_with fail
      refine (c_toHammer _ _).mono ?_
      rintro e w1 ⟨rfl, hb1⟩
      have hown1 := hown.below hb1
      obtain ⟨y1, y2, y3, y4⟩ := hown1.cells k hlt2
      go_wp2
      go_roundw
      case rel => exact ⟨k + 1, by go_num, by omega, by rw [← fillL_set l k hlt]; exact hown1.store (fillL_len l k) k l[k], bset (bset (bstep hb hb1) (Nat.le_refl _) _) (Nat.le_refl _) _⟩
      case measure => simp [intOf]; omega
    · obtain rfl : k = l.length := by omega
      go_wp2
      go_ret
      exact ⟨_, rfl, by rw [fillL_end] at hown; exact hown, hb⟩

theorem c_toFrame (s : Int) (A : Option Addr) (c : Nat) (l : List (Int × Int)) (w : World) (h : At2 .i8 .i8 w A l) (hn : l.length ≤ 1073741824) :
    Calls Tryd.prog 15 #[.agg #[.int .i16 s, .slice A l.length c]] w fun e w' => ∃ A' c', e = .returned (.agg #[.int .i16 s, .slice A' l.length c']) ∧ Own2 .i8 .i8 61 w' w.heap.size (.slice A' l.length c') l ∧ Below w.heap.size w w' := by
  have hu := Tryd.underlying40
  have hu2 := Tryd.underlying35
  go_enter Tryd.func15, Tryd.ntmps15
  go_wp2_with fail
  refine (c_toHammerS A c l _ (h.below ?_) hn).mono ?_
  · repeat (first | exact Below.refl _ _ | apply balloc | refine bset ?_ (by simp) _)
  rintro e w' ⟨v, rfl, own, hb⟩
  obtain ⟨A', c', rfl, hlc, hat⟩ := own.reads
  clear h hat hlc
  have v1 : Var w' (w.heap.size + 1) #[.int .i16 0, .slice none 0 0] 40 := Var.below (by simpa using ((Var.new (w.alloc (.cells #[.int .i16 s, .slice A l.length c] 35)) #[.int .i16 0, .slice none 0 0] 40)).old (.cells #[.int .i16 s, .slice none 0 0] 40)) hb
  have v2 : Var w' (w.heap.size + 1 + 1) #[.int .i16 s, .slice none 0 0] 40 := Var.below (by simpa using Var.new ((w.alloc (.cells #[.int .i16 s, .slice A l.length c] 35)).alloc (.cells #[.int .i16 0, .slice none 0 0] 40)) #[.int .i16 s, .slice none 0 0] 40) hb
  have a1 : w'.cell? ⟨w.heap.size + 1, 0, none⟩ = some (.int .i16 0) := v1.cell rfl
  have a2 : w'.cell? ⟨w.heap.size + 1, 1, none⟩ = some (.slice none 0 0) := v1.cell rfl
  have a3 : w'.cell? ⟨w.heap.size + 1 + 1, 0, none⟩ = some (.int .i16 s) := v2.cell rfl
  have a4 : w'.cell? ⟨w.heap.size + 1 + 1, 1, none⟩ = some (.slice none 0 0) := v2.cell rfl
  have b1 := v1.frozen 0
  have b2 := v1.frozen 1
  have b3 := v2.frozen 0
  have b4 := v2.frozen 1
  clear v2
  go_wp2
  have v3 := ((v1.other (p := ⟨w.heap.size + 1 + 1, 1, none⟩) (by simp) (.slice A' l.length c')).set 0 (.int .i16 s)).set 1 (.slice A' l.length c')
  refine bodyPost_ret (results_cell_row Tryd.results15 _ _ (w.heap.size + 1) 40 _ (0, 0) _ rfl v3 hu rfl (by kernel_rfl)) rfl ⟨A', c', rfl, ?_, ?_⟩
  · refine ((own.stay (by simp <;> omega) _).stay (by simp <;> omega) _).stay (by simp <;> omega) _ |>.base_le (by simp <;> omega)
  · refine bset (bset (bset (bstep ?_ hb) (by simp <;> omega) _) (by simp <;> omega) _) (by simp <;> omega) _
    repeat (first | exact Below.refl _ _ | apply balloc)

theorem c_eqHammerS (A B : Option Addr) (c d : Nat) (l m : List (Int × Int)) (w : World) (h : At2 .i8 .i8 w A l) (h2 : At2 .i8 .i8 w B m) (hn : l.length ≤ 1073741824) (hn2 : m.length ≤ 1073741824) :
    Calls Tryd.prog 33 #[.slice A l.length c, .slice B m.length d] w fun e w' => e = .returned (.bool (eqL l m)) ∧ Below w.heap.size w w' := by
  have hu := Tryd.underlying61
  by_cases hlen : l.length = m.length
  · have HL := Lib.hid hlen
    have hlen1 : ((l.length : Int) == (m.length : Int)) = true := by simp [hlen]
    clear hlen
    go_enter Tryd.func33, Tryd.ntmps33
    go_wp2
    clear hlen1
    go_loopw [5] (fun i w' => ∃ k : Nat, i = .int .i64 k ∧ k ≤ l.length ∧ (∀ i (h1 : i < l.length) (h2 : i < m.length), i < k → eqN l[i] m[i] = true) ∧ Below w.heap.size w w') (fun i _ => l.length - (intOf i).toNat)
    case atStart => exact ⟨0, rfl, by omega, fun _ _ _ h => absurd h (by omega), Below.refl _ _⟩
    case round =>
      obtain ⟨k, rfl, hk, hz, hb⟩ := hrel
      have HZ := Lib.hid hz; clear hz
      by_cases hlt : k < l.length
      · have hlt2 : k < m.length := by have := HL.out; omega
        obtain ⟨b, off, rfl, hbl, hc⟩ := (h.below hb).get (by omega)
        obtain ⟨b2, off2, rfl, hbl2, hc2⟩ := (h2.below hb).get (by omega)
        have x1 : ∀ x : After wr, _ := fun x => (x.cell hbl).trans (hc k hlt).1
        have x2 : ∀ x : After wr, _ := fun x => (x.cell hbl).trans (hc k hlt).2
        have y1 : ∀ x : After wr, _ := fun x => (x.cell hbl2).trans (hc2 k hlt2).1
        have y2 : ∀ x : After wr, _ := fun x => (x.cell hbl2).trans (hc2 k hlt2).2
        have hi1 : (k : Int) < (m.length : Int) := by omega
        rcases hx : eqN l[k] m[k] with _ | _
        · go_wp2
          refine region_after (by kernel_rfl) (by kernel_rfl) ?_
          repeat (go_big_quiet_step (((go_at_call 49; exact After.call (c_eqHammer _ _ _)))))
          refine wpQuiet_nil ?_
          rintro _ ⟨x, rfl⟩
          go_wp2
          go_ret
          exact ⟨ret_bool (eqL_at hlt hlt2 hx).symm, bstep hb x.below⟩
        · have HX := Lib.hid hx
          go_wp2
          refine region_after (by kernel_rfl) (by kernel_rfl) ?_
          repeat (go_big_quiet_step (((go_at_call 49; exact After.call (c_eqHammer _ _ _)))))
          refine wpQuiet_nil ?_
          rintro _ ⟨x, rfl⟩
          go_wp2
          go_roundw
          case rel => exact ⟨k + 1, by go_num, by omega, fun i h1 h2 hik => by
            by_cases e : i = k
            · subst e; exact HX.out
            · exact HZ.out i h1 h2 (by omega), bstep hb x.below⟩
          case measure => simp [intOf]; omega
      · obtain rfl : k = l.length := by omega
        go_wp2
        go_ret
        exact ⟨ret_bool (eqL_all HL.out (fun i h1 h2 => HZ.out i h1 h2 h1)).symm, hb⟩
  · have HL := Lib.hid hlen
    have hlen1 : ((l.length : Int) == (m.length : Int)) = false := by simp; omega
    clear hlen
    go_enter Tryd.func33, Tryd.ntmps33
    go_wp2
    go_ret
    exact ⟨ret_bool (eqL_len HL.out).symm, Below.refl _ _⟩

/-- Are two frames the same? -/
theorem c_eqFrame (s u : Int) (A B : Option Addr) (c d : Nat) (l m : List (Int × Int)) (w : World) (h : At2 .i8 .i8 w A l) (h2 : At2 .i8 .i8 w B m) (hn : l.length ≤ 1073741824) (hn2 : m.length ≤ 1073741824) :
    Calls Tryd.prog 17 #[.agg #[.int .i16 s, .slice A l.length c], .agg #[.int .i16 u, .slice B m.length d]] w fun e w' => e = .returned (.bool (decide (s = u) && eqL l m)) ∧ Below w.heap.size w w' := by
  have hu := Tryd.underlying40
  by_cases hx : s = u
  · rcases hy : eqL l m with _ | _
    all_goals
      have hx1 : (s == u) = true := by simp [hx]
      have HX := Lib.hid hx
      clear hx
      go_enter Tryd.func17, Tryd.ntmps17
      go_wp2_with fail
      refine (c_eqHammerS A B c d l m _ ((h.alloc _).alloc _) ((h2.alloc _).alloc _) hn hn2).mono ?_
      rintro e w' ⟨rfl, hb⟩
      rw [hy]
      clear hy h h2 hn hn2
      go_wp2
      go_ret
      exact ⟨ret_bool (by simp [HX.out]), bstep (balloc (balloc (Below.refl _ _) _) _) hb⟩
  · have hx1 : (s == u) = false := by simp [hx]
    have HX := Lib.hid hx
    clear hx
    go_enter Tryd.func17, Tryd.ntmps17
    go_wp2
    go_ret
    exact ⟨ret_bool (by simp [HX.out]), balloc (balloc (Below.refl _ _) _) _⟩

end Go.Proofs.YtkdochfiaccnpaaDoor
