/-
  The walks of the law's own functions on slices of pairs of numbers: equality, marking.
-/
import Derived.Test.YtehmadgmhknfhaaWalkDX
import Derived.Test.YtehmadgmhknfhaaWalkDR
import Derived.Test.YtehmadgmhknfhaaPureI
import Derived.Test.YtehmadgmhknfhaaDataF
namespace Go.Proofs.Ytehmadgmhknfhaa
open Go.RowKit
set_option linter.unusedVariables false
set_option linter.unusedSimpArgs false
set_option maxRecDepth 4000

def setJ (l : List (Int × Int)) (k j : Nat) (x : Int) : List (Int × Int) := if j = 0 then l.set k (x, (l.getD k (0, 0)).2) else l.set k ((l.getD k (0, 0)).1, x)
theorem setJ_len (l : List (Int × Int)) (k j : Nat) (x : Int) : (setJ l k j x).length = l.length := by unfold setJ; split <;> simp
theorem Own2.storeJ {k1 : IntKind} {E : TypeId} {w : World} {base g n c : Nat} {l : List (Int × Int)} (h : Own2 k1 k1 E w base (.slice (some ⟨g, 0, none⟩) n c) l) (hl : l.length = n) {k j : Nat} (hk : k < l.length) (hj : j < 2) (x : Int) :
    Own2 k1 k1 E (w.setCell ⟨g, k * 2 + j, none⟩ (.int k1 x)) base (.slice (some ⟨g, 0, none⟩) n c) (setJ l k j x) := by
  subst hl
  have h1 := (World.ownsRow.stored h (k * 2 + j) (.int k1 x)).1
  rcases (show j = 0 ∨ j = 1 by omega) with rfl | rfl
  · rw [Nat.add_zero, flat2_set1 _ _ _ _ hk] at h1
    unfold Own2 setJ
    rw [if_pos rfl, List.length_set, List.getD_eq_getElem?_getD, List.getElem?_eq_getElem hk]
    exact h1
  · rw [flat2_set2 _ _ _ _ hk] at h1
    unfold Own2 setJ
    rw [if_neg (by omega), List.length_set, List.getD_eq_getElem?_getD, List.getElem?_eq_getElem hk]
    exact h1
theorem Own2.cellJ {k1 : IntKind} {E : TypeId} {w : World} {base g n c : Nat} {l : List (Int × Int)} (h : Own2 k1 k1 E w base (.slice (some ⟨g, 0, none⟩) n c) l) {k j : Nat} (hk : k < l.length) (hj : j < 2) :
    w.cell? ⟨g, k * 2 + j, none⟩ = some (.int k1 (if j = 0 then l[k].1 else l[k].2)) ∧ w.frozen? ⟨g, k * 2 + j, none⟩ = false := by
  obtain ⟨y1, y2, y3, y4⟩ := h.cells k hk
  rcases (show j = 0 ∨ j = 1 by omega) with rfl | rfl
  · exact ⟨y1, y3⟩
  · exact ⟨y2, y4⟩
/-- The pairs (m, m + 1), (m + 2, m + 3), .. -/
def markJ (n m : Nat) : List (Int × Int) := (List.range n).map fun i => (((m + 2 * i : Nat) : Int), ((m + 2 * i + 1 : Nat) : Int))
theorem markJ_len (n m : Nat) : (markJ n m).length = n := by simp [markJ]
theorem markJ_get {n m i : Nat} (h : i < (markJ n m).length) : (markJ n m)[i] = (((m + 2 * i : Nat) : Int), ((m + 2 * i + 1 : Nat) : Int)) := by simp [markJ]
def markR (l : List (Int × Int)) (k m : Nat) : List (Int × Int) := markJ k m ++ l.drop k
theorem markR_len {l : List (Int × Int)} {k : Nat} (m : Nat) (h : k ≤ l.length) : (markR l k m).length = l.length := by simp [markR, markJ_len]; omega
theorem markR_zero (l : List (Int × Int)) (m : Nat) : markR l 0 m = l := by simp [markR, markJ]
theorem markR_end (l : List (Int × Int)) (m : Nat) : markR l l.length m = markJ l.length m := by simp [markR]
theorem markR_set {l : List (Int × Int)} {k : Nat} (m : Nat) (h : k < l.length) : (markR l k m).set k (((m + 2 * k : Nat) : Int), ((m + 2 * k + 1 : Nat) : Int)) = markR l (k + 1) m := by
  unfold markR
  rw [List.set_append_right _ _ (by rw [markJ_len]; exact Nat.le_refl _), markJ_len, Nat.sub_self, List.drop_eq_getElem_cons h, List.set_cons_zero]
  have : markJ (k + 1) m = markJ k m ++ [(((m + 2 * k : Nat) : Int), ((m + 2 * k + 1 : Nat) : Int))] := by unfold markJ; rw [List.range_succ, List.map_append]; rfl
  rw [this, List.append_assoc]; rfl
/-- .. when j of its two numbers are marked. -/
def markS (l : List (Int × Int)) (k m : Nat) : Nat → List (Int × Int)
  | 0 => markR l k m
  | 1 => setJ (markR l k m) k 0 ((m + 2 * k : Nat) : Int)
  | _ => markR l (k + 1) m
theorem markS_step {l : List (Int × Int)} {k j : Nat} (m : Nat) (h : k < l.length) (hj : j < 2) : setJ (markS l k m j) k j ((m + 2 * k + j : Nat) : Int) = markS l k m (j + 1) := by
  rcases (show j = 0 ∨ j = 1 by omega) with rfl | rfl
  · rfl
  · have hk : k < (markR l k m).length := by rw [markR_len _ (by omega)]; exact h
    show setJ (setJ (markR l k m) k 0 _) k 1 _ = markR l (k + 1) m
    rw [← markR_set m h]
    unfold setJ
    rw [if_pos rfl, if_neg (by omega), List.set_set]
    congr 1
    simp [hk]
theorem markS_len {l : List (Int × Int)} {k : Nat} (m : Nat) (h : k < l.length) : ∀ j, (markS l k m j).length = l.length
  | 0 => markR_len _ (by omega)
  | 1 => by show (setJ _ _ _ _).length = _; rw [setJ_len, markR_len _ (by omega)]
  | _ + 2 => markR_len _ (by omega)

theorem c_eqInt64A2 (p q : Int × Int) (w : World) :
    Calls Try.prog 66 #[.agg #[.int .i64 p.1, .int .i64 p.2], .agg #[.int .i64 q.1, .int .i64 q.2]] w fun e w' => e = .returned (.bool (decide (p = q))) ∧ Below w.heap.size w w' := by
  have hu := Try.underlying75
  have V0 := Lib.hid ((Var.new w #[.int .i64 p.1, .int .i64 p.2] 75).old (.cells #[.int .i64 q.1, .int .i64 q.2] 75))
  have v1 : Var ((w.alloc (.cells #[.int .i64 p.1, .int .i64 p.2] 75)).alloc (.cells #[.int .i64 q.1, .int .i64 q.2] 75)) (w.heap.size + 1) #[.int .i64 q.1, .int .i64 q.2] 75 := by simpa using Var.new (w.alloc (.cells #[.int .i64 p.1, .int .i64 p.2] 75)) #[.int .i64 q.1, .int .i64 q.2] 75
  have V1 := Lib.hid v1
  clear v1
  go_enter Try.func66, Try.ntmps66
  go_wp2
  go_loopw [5] (fun i w' => ∃ j : Nat, i = .int .i64 (j : Int) ∧ j ≤ 2 ∧ (0 < j → p.1 = q.1) ∧ (1 < j → p.2 = q.2) ∧ Below ((w.alloc (.cells #[.int .i64 p.1, .int .i64 p.2] 75)).alloc (.cells #[.int .i64 q.1, .int .i64 q.2] 75)).heap.size ((w.alloc (.cells #[.int .i64 p.1, .int .i64 p.2] 75)).alloc (.cells #[.int .i64 q.1, .int .i64 q.2] 75)) w') (fun i _ => 2 - (intOf i).toNat)
  case atStart => exact ⟨0, rfl, by omega, fun h => absurd h (by omega), fun h => absurd h (by omega), Below.refl _ _⟩
  case round =>
    obtain ⟨j, rfl, hj, h1, h2, hb⟩ := hrel
    have H1 := Lib.hid h1
    have H2 := Lib.hid h2
    clear h1 h2
    by_cases hlt : j < 2
    · obtain ⟨x, hx⟩ : ∃ x, (if j = 0 then p.1 else p.2) = x := ⟨_, rfl⟩
      obtain ⟨y, hy⟩ : ∃ y, (if j = 0 then q.1 else q.2) = y := ⟨_, rfl⟩
      have c1 : #[Value.int .i64 p.1, .int .i64 p.2][j]? = some (.int .i64 x) := by
        rcases (show j = 0 ∨ j = 1 by omega) with rfl | rfl <;> (rw [← hx]; simp)
      have c2 : #[Value.int .i64 q.1, .int .i64 q.2][j]? = some (.int .i64 y) := by
        rcases (show j = 0 ∨ j = 1 by omega) with rfl | rfl <;> (rw [← hy]; simp)
      have C := Lib.hid (And.intro c1 c2)
      have x1 : ∀ x : After wr, _ := fun x => ((V0.out.below hb).below x.below).cell C.out.1
      have x2 : ∀ x : After wr, _ := fun x => ((V1.out.below hb).below x.below).cell C.out.2
      have i1 : (0 : Int) ≤ (j : Int) := by omega
      have i2 : (j : Int) < 2 := by omega
      have HX := Lib.hid (And.intro hx hy)
      clear c1 c2 hx hy
      rcases he : (x != y) with _ | _
      · have HE := Lib.hid (show x = y by simpa using he)
        go_wp2
        refine region_after (by kernel_rfl) (by kernel_rfl) ?_
        repeat (go_big_quiet_step (fail))
        refine wpQuiet_nil ?_
        rintro _ ⟨x, rfl⟩
        go_wp2
        go_roundw
        case rel =>
          refine ⟨j + 1, by go_num, by omega, fun _ => ?_, fun _ => ?_, bstep hb x.below⟩
          · rcases (show j = 0 ∨ 0 < j by omega) with rfl | h0
            · have := HE.out; rw [← HX.out.1, ← HX.out.2] at this; simpa using this
            · exact H1.out h0
          · obtain rfl : j = 1 := by omega
            have := HE.out; rw [← HX.out.1, ← HX.out.2] at this; simpa using this
        case measure => simp [intOf]; omega
      · have HE := Lib.hid (show ¬ x = y by simpa using he)
        go_wp2
        refine region_after (by kernel_rfl) (by kernel_rfl) ?_
        repeat (go_big_quiet_step (fail))
        refine wpQuiet_nil ?_
        rintro _ ⟨x, rfl⟩
        go_wp2
        go_ret
        refine ⟨ret_bool (decide_eq_false fun e => HE.out ?_).symm, bstep (balloc (balloc (Below.refl _ _) _) _) (bstep hb x.below)⟩
        rw [← HX.out.1, ← HX.out.2, e]
    · obtain rfl : j = 2 := by omega
      go_wp2
      go_ret
      exact ⟨ret_bool (decide_eq_true (Prod.ext (H1.out (by omega)) (H2.out (by omega)))).symm, bstep (balloc (balloc (Below.refl _ _) _) _) hb⟩

theorem c_eqInt64A2S (A B : Option Addr) (c d : Nat) (l m : List (Int × Int)) (w : World) (h : At2 .i64 .i64 w A l) (h2 : At2 .i64 .i64 w B m) (hn : l.length ≤ 1073741824) (hn2 : m.length ≤ 1073741824) :
    Calls Try.prog 38 #[.slice A l.length c, .slice B m.length d] w fun e w' => e = .returned (.bool (decide (l = m))) ∧ Below w.heap.size w w' := by
  have hu := Try.underlying75
  by_cases hlen : l.length = m.length
  · have HL := Lib.hid hlen
    have hlen1 : ((l.length : Int) == (m.length : Int)) = true := by simp [hlen]
    have hlen2 : ((l.length : Int) != (m.length : Int)) = false := by simp [hlen]
    clear hlen
    go_enter Try.func38, Try.ntmps38
    go_wp2
    clear hlen1 hlen2
    go_loopw [5] (fun i w' => ∃ k : Nat, i = .int .i64 (k : Int) ∧ k ≤ l.length ∧ (∀ i (h1 : i < l.length) (h2 : i < m.length), i < k → l[i] = m[i]) ∧ Below w.heap.size w w') (fun i _ => l.length - (intOf i).toNat)
    case atStart => exact ⟨0, rfl, by omega, fun _ _ _ h => absurd h (by omega), Below.refl _ _⟩
    case round =>
      obtain ⟨k, rfl, hk, hz, hb⟩ := hrel
      have HZ := Lib.hid hz; clear hz
      by_cases hlt : k < l.length
      · have hlt2 : k < m.length := by have := HL.out; omega
        obtain ⟨b, off, rfl, hbl, hc⟩ := (h.below hb).get (by omega)
        obtain ⟨b2, off2, rfl, hbl2, hc2⟩ := (h2.below hb).get (by omega)
        have x1 : ∀ x : After wr, _ := fun x => (x.cell hbl).trans (hc k hlt).1
        have x2 : ∀ x : After wr, _ := fun x => (x.cell hbl).trans (hc k hlt).2
        have y1 : ∀ x : After wr, _ := fun x => (x.cell hbl2).trans (hc2 k hlt2).1
        have y2 : ∀ x : After wr, _ := fun x => (x.cell hbl2).trans (hc2 k hlt2).2
        clear hc hc2
        have hi1 : (k : Int) < (m.length : Int) := by omega
        have hi2 : (k : Int) < (l.length : Int) := by omega
        have hi3 : (0 : Int) ≤ (k : Int) := by omega
        rcases hx : decide (l[k] = m[k]) with _ | _
        · have HX := Lib.hid (of_decide_eq_false hx)
          go_wp2
          refine region_after (by kernel_rfl) (by kernel_rfl) ?_
          repeat (go_big_quiet_step ((go_at_call 66; exact After.callF (fun x => hx ▸ c_eqInt64A2 l[k] m[k] _) _)))
          refine wpQuiet_nil ?_
          rintro _ ⟨x, rfl⟩
          go_wp2
          go_ret
          refine ⟨ret_bool (decide_eq_false fun e => HX.out ?_).symm, bstep hb x.below⟩
          subst e; rfl
        · have HX := Lib.hid (of_decide_eq_true hx)
          go_wp2
          refine region_after (by kernel_rfl) (by kernel_rfl) ?_
          repeat (go_big_quiet_step ((go_at_call 66; exact After.callF (fun x => hx ▸ c_eqInt64A2 l[k] m[k] _) _)))
          refine wpQuiet_nil ?_
          rintro _ ⟨x, rfl⟩
          go_wp2
          go_roundw
          case rel => exact ⟨k + 1, by go_num, by omega, fun i h1 h2 hik => by
            by_cases e : i = k
            · subst e; exact HX.out
            · exact HZ.out i h1 h2 (by omega), bstep hb x.below⟩
          case measure => simp [intOf]; omega
      · obtain rfl : k = l.length := by omega
        go_wp2
        go_ret
        exact ⟨ret_bool (decide_eq_true (List.ext_getElem HL.out fun i h1 h2 => HZ.out i h1 h2 h1)).symm, hb⟩
  · have HL := Lib.hid hlen
    have hlen1 : ((l.length : Int) == (m.length : Int)) = false := by simp; omega
    have hlen2 : ((l.length : Int) != (m.length : Int)) = true := by simp; omega
    clear hlen
    go_enter Try.func38, Try.ntmps38
    go_wp2
    go_ret
    exact ⟨ret_bool (decide_eq_false fun e => HL.out (by rw [e])).symm, Below.refl _ _⟩

theorem c_markInt64A2S (A : Option Addr) (c : Nat) (l : List (Int × Int)) (m : Nat) (base : Nat) (w : World) (h : Own2 .i64 .i64 75 w base (.slice A l.length c) l) (hn : l.length ≤ 1073741824) (hm : m ≤ 1073741824) :
    Calls Try.prog 39 #[.slice A l.length c, .int .i64 (m : Int)] w fun e w' => e = .returned (.int .i64 ((m + 2 * l.length : Nat) : Int)) ∧ Own2 .i64 .i64 75 w' base (.slice A l.length c) (markJ l.length m) ∧ w.grownBy w' (Value.slice A l.length c).ownBlock := by
  have hu := Try.underlying75
  go_enter Try.func39, Try.ntmps39
  go_wp2
  go_loopw [1, 5] (fun q i w' => ∃ k : Nat, i = .int .i64 (k : Int) ∧ q = .int .i64 ((m + 2 * k : Nat) : Int) ∧ k ≤ l.length ∧ Own2 .i64 .i64 75 w' base (.slice A l.length c) (markR l k m) ∧ w.grownBy w' (Value.slice A l.length c).ownBlock) (fun _ i _ => l.length - (intOf i).toNat)
  case atStart => exact ⟨0, rfl, rfl, by omega, by rw [markR_zero]; exact h, World.grownBy.refl _ _⟩
  case round =>
    obtain ⟨k, rfl, rfl, hk, hown, hg⟩ := hrel
    by_cases hlt : k < l.length
    · obtain ⟨g, rfl⟩ : ∃ g, A = some ⟨g, 0, none⟩ := hown.form (by omega)
      have HO := Lib.hid hown
      have HG := Lib.hid (show w.grownBy wr (some g) from hg)
      have hle : decide ((k : Int) < (l.length : Int)) = true := decide_eq_true (by omega)
      have hle2 : decide (k < l.length) = true := decide_eq_true hlt
      clear hown hg
      go_wp2
      go_loopw [1, 6] (fun q i w' => ∃ j : Nat, i = .int .i64 (j : Int) ∧ q = .int .i64 ((m + 2 * k + j : Nat) : Int) ∧ j ≤ 2 ∧ Own2 .i64 .i64 75 w' base (.slice (some ⟨g, 0, none⟩) l.length c) (markS l k m j) ∧ w.grownBy w' (some g)) (fun _ i _ => 2 - (intOf i).toNat)
      case atStart => exact ⟨0, rfl, rfl, by omega, HO.out, HG.out⟩
      case round =>
        obtain ⟨j, rfl, rfl, hj, hown, hg⟩ := hrel
        by_cases hlt2 : j < 2
        · have hkl : k < (markS l k m j).length := by rw [markS_len m hlt]; exact hlt
          obtain ⟨y1, y2⟩ := hown.cellJ hkl hlt2
          have hw1 : IntKind.i64.wrap (((m + 2 * k + j : Nat) : Int) + 1) = ((m + 2 * k + j : Nat) : Int) + 1 := IntWalk.i64_in _ (by omega)
          have i1 : (0 : Int) ≤ (j : Int) := by omega
          have i2 : (j : Int) < 2 := by omega
          have i3 : (0 : Int) ≤ (k : Int) := by omega
          have i4 : (k : Int) < (l.length : Int) := by omega
          have HS := Lib.hid (markS_step m hlt hlt2)
          have HO2 := Lib.hid (hown.storeJ (markS_len m hlt j) hkl hlt2 ((m + 2 * k + j : Nat) : Int))
          have HG2 := Lib.hid hg
          obtain ⟨z, hz⟩ : ∃ z, (if j = 0 then (markS l k m j)[k].1 else (markS l k m j)[k].2) = z := ⟨_, rfl⟩
          rw [hz] at y1
          clear hown hg hz
          go_wp2
          go_roundw
          case rel =>
            refine ⟨j + 1, by go_num, by congr 1, by omega, ?_, gset (g := g) (p := ⟨g, k * 2 + j, none⟩) HG2.out (.inl rfl) _⟩
            rw [← HS.out]; exact HO2.out
          case measure => simp [intOf]; omega
        · obtain rfl : j = 2 := by omega
          have HO2 := Lib.hid (show Own2 .i64 .i64 75 wr base (.slice (some ⟨g, 0, none⟩) l.length c) (markR l (k + 1) m) from hown)
          have HG2 := Lib.hid hg
          clear hown hg
          go_wp2
          go_roundw
          case rel => exact ⟨k + 1, by go_num, by congr 1, by omega, HO2.out, HG2.out⟩
          case measure => simp [intOf]; omega
    · obtain rfl : k = l.length := by omega
      go_wp2
      go_ret
      exact ⟨rfl, by rw [markR_end] at hown; exact hown, hg⟩

theorem c_heldInt64A2S (A : Option Addr) (c : Nat) (n m : Nat) (w : World) (h : At2 .i64 .i64 w A (markJ n m)) (hn : n ≤ 1073741824) (hm : m ≤ 1073741824) :
    Calls Try.prog 40 #[.slice A n c, .int .i64 (m : Int)] w fun e w' => e = .returned (.int .i64 ((m + 2 * n : Nat) : Int)) ∧ Below w.heap.size w w' := by
  have hu := Try.underlying75
  go_enter Try.func40, Try.ntmps40
  go_wp2
  go_loopw [1, 5] (fun q i w' => ∃ k : Nat, i = .int .i64 (k : Int) ∧ q = .int .i64 ((m + 2 * k : Nat) : Int) ∧ k ≤ n ∧ Below w.heap.size w w') (fun _ i _ => n - (intOf i).toNat)
  case atStart => exact ⟨0, rfl, rfl, by omega, Below.refl _ _⟩
  case round =>
    obtain ⟨k, rfl, rfl, hk, hb⟩ := hrel
    by_cases hlt : k < n
    · have hle : decide ((k : Int) < (n : Int)) = true := decide_eq_true (by omega)
      have hle2 : decide (k < n) = true := decide_eq_true hlt
      go_wp2
      go_loopw [1, 6] (fun q i w' => ∃ j : Nat, i = .int .i64 (j : Int) ∧ q = .int .i64 ((m + 2 * k + j : Nat) : Int) ∧ j ≤ 2 ∧ Below w.heap.size w w') (fun _ i _ => 2 - (intOf i).toNat)
      case atStart => exact ⟨0, rfl, rfl, by omega, hb⟩
      case round =>
        obtain ⟨j, rfl, rfl, hj, hb2⟩ := hrel
        by_cases hlt2 : j < 2
        · have hkl : k < (markJ n m).length := by rw [markJ_len]; exact hlt
          obtain ⟨b, off, hAe, hbl, hc⟩ := (h.below hb2).get (by omega)
          subst hAe
          have y : wr.cell? ⟨b, off + k * 2 + j, none⟩ = some (.int .i64 ((m + 2 * k + j : Nat) : Int)) := by
            have y1 := (hc k hkl).1
            have y2 := (hc k hkl).2
            rw [markJ_get] at y1 y2
            rcases (show j = 0 ∨ j = 1 by omega) with rfl | rfl
            · exact y1
            · exact y2
          have hw1 : IntKind.i64.wrap (((m + 2 * k + j : Nat) : Int) + 1) = ((m + 2 * k + j : Nat) : Int) + 1 := IntWalk.i64_in _ (by omega)
          have i1 : (0 : Int) ≤ (j : Int) := by omega
          have i2 : (j : Int) < 2 := by omega
          have i3 : (0 : Int) ≤ (k : Int) := by omega
          have i4 : (k : Int) < (n : Int) := by omega
          clear hc
          go_wp2
          go_roundw
          case rel => exact ⟨j + 1, by go_num, by congr 1, by omega, hb2⟩
          case measure => simp [intOf]; omega
        · obtain rfl : j = 2 := by omega
          go_wp2
          go_roundw
          case rel => exact ⟨k + 1, by go_num, by congr 1, by omega, hb2⟩
          case measure => simp [intOf]; omega
    · obtain rfl : k = n := by omega
      go_wp2
      go_ret
      exact ⟨rfl, hb⟩

end Go.Proofs.Ytehmadgmhknfhaa
