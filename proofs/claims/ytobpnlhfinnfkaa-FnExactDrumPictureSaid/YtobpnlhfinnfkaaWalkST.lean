/-
  The walks of the law's own functions on slices of texts: equality, marks.
-/
import Derived.Test.YtobpnlhfinnfkaaWalkDA
import Derived.Test.YtobpnlhfinnfkaaDataS
namespace Go.Proofs.Ytobpnlhfinnfkaa
open Go.RowKit
set_option linter.unusedVariables false
set_option linter.unusedSimpArgs false
set_option maxRecDepth 4000

theorem After.callG {P : Program} {w : World} {f : FuncId} {args : Array Value} {v : Value} (h : ∀ x : After w, Calls P f args x.w fun e w' => e = .returned v ∧ Below x.w.heap.size x.w w') (x : After w) :
    Calls P f args x.w fun e w'' => e = .returned v ∧ ∃ y : After w, w'' = y.w := After.call (h x)
theorem After.callS {P : Program} {w : World} {f : FuncId} {args : Array Value} {v : Value} (h : ∀ x : After w, Calls P f args x.w fun e w' => e = .returned v ∧ x.w = w') (x : After w) :
    Calls P f args x.w fun e w'' => e = .returned v ∧ ∃ y : After w, w'' = y.w := After.call_same (h x)
theorem info_str : (Try.prog.info? 9).map (fun i => (i.zero, i.size, i.bytes)) = some (some (txt []), 1, 16) := by kernel_rfl
/-- The digits of a number ahead of a text. -/
def digF : Nat → Nat → List UInt8 → List UInt8
  | 0, _, s => s
  | f + 1, q, s => if q = 0 then s else digF f (q / 10) (UInt8.ofNat (48 + q % 10) :: s)
theorem digF_zero (f : Nat) (s : List UInt8) : digF f 0 s = s := by cases f <;> simp [digF]
theorem digF_pos (f q : Nat) (s : List UInt8) (h : 0 < q) : digF (f + 1) q s = digF f (q / 10) (UInt8.ofNat (48 + q % 10) :: s) := by
  rw [digF, if_neg (by omega)]
/-- The text that marks a place with the number m. -/
def mkT (m : Nat) : List UInt8 := 109 :: digF m m []
def mkTs (n m : Nat) : List (List UInt8) := (List.range n).map fun i => mkT (m + i)
theorem mkTs_len (n m : Nat) : (mkTs n m).length = n := by simp [mkTs]
theorem mkTs_get {n m i : Nat} (h : i < (mkTs n m).length) : (mkTs n m)[i] = mkT (m + i) := by simp [mkTs]
def mkTq (l : List (List UInt8)) (k m : Nat) : List (List UInt8) := mkTs k m ++ l.drop k
theorem mkTq_len {l : List (List UInt8)} {k : Nat} (m : Nat) (h : k ≤ l.length) : (mkTq l k m).length = l.length := by simp [mkTq, mkTs_len]; omega
theorem mkTq_zero (l : List (List UInt8)) (m : Nat) : mkTq l 0 m = l := by simp [mkTq, mkTs]
theorem mkTq_end (l : List (List UInt8)) (m : Nat) : mkTq l l.length m = mkTs l.length m := by simp [mkTq]
theorem mkTq_set {l : List (List UInt8)} {k : Nat} (m : Nat) (h : k < l.length) : (mkTq l k m).set k (mkT (m + k)) = mkTq l (k + 1) m := by
  unfold mkTq
  rw [List.set_append_right _ _ (by rw [mkTs_len]; exact Nat.le_refl _), mkTs_len, Nat.sub_self, List.drop_eq_getElem_cons h, List.set_cons_zero]
  have : mkTs (k + 1) m = mkTs k m ++ [mkT (m + k)] := by unfold mkTs; rw [List.range_succ, List.map_append]; rfl
  rw [this, List.append_assoc]; rfl

theorem c_markText (m : Nat) (w : World) (h1 : 1 ≤ m) (hm : m ≤ 8388600) :
    Calls Try.prog 57 #[.int .i64 (m : Int)] w fun e w' => e = .returned (txt (mkT m)) ∧ Below w.heap.size w w' := by
  have hst := Try.underlying9
  have g0 : (m = 0) = False := eq_false (by omega)
  go_enter Try.func57, Try.ntmps57
  go_wp2
  go_loopw [0, 3] (fun i v w' => ∃ (q f : Nat) (s : List UInt8), i = .int .i64 (q : Int) ∧ v = txt s ∧ digF f q s = digF m m [] ∧ q ≤ f ∧ s.length + q ≤ m ∧ Below w.heap.size w w') (fun i _ _ => (intOf i).toNat)
  case atStart => exact ⟨m, m, [], rfl, rfl, rfl, Nat.le_refl _, by simp, Below.refl _ _⟩
  case round =>
    obtain ⟨q, f, s, rfl, rfl, hd, hqf, hsl, hb⟩ := hrel
    have HD := Lib.hid hd
    clear hd
    by_cases hq : 0 < q
    · have g1 : decide ((q : Int) > 0) = true := decide_eq_true (by omega)
      have g2 : decide ((0 : Int) < (q : Int)) = true := decide_eq_true (by omega)
      have hq10 : q % 10 < 10 := Nat.mod_lt _ (by omega)
      have hqp : q / 10 < q := Nat.div_lt_self hq (by omega)
      obtain ⟨r, hr⟩ : ∃ r, q % 10 = r := ⟨_, rfl⟩
      obtain ⟨p, hp⟩ : ∃ p, q / 10 = p := ⟨_, rfl⟩
      have r1 : ((q : Int)).tmod 10 = (r : Int) := by rw [Int.tmod_eq_emod_of_nonneg (by omega), ← hr]; rfl
      have r2 : ((q : Int)).tdiv 10 = (p : Int) := by rw [Int.tdiv_eq_ediv_of_nonneg (by omega), ← hp]; rfl
      rw [hr] at hq10
      rw [hp] at hqp
      obtain ⟨z, hz⟩ : ∃ z, 48 + r = z := ⟨_, rfl⟩
      have s1 : IntKind.i64.wrap (48 + (r : Int)) = (z : Int) := by rw [IntWalk.i64_in _ (by omega), ← hz]; push_cast; rfl
      have s2 : IntKind.u8.wrap (z : Int) = (z : Int) := IntWalk.u8_in _ (by omega)
      have s3 : IntKind.i64.wrap (r : Int) = (r : Int) := IntWalk.i64_in _ (by omega)
      have s4 : IntKind.i64.wrap (p : Int) = (p : Int) := IntWalk.i64_in _ (by omega)
      have hbt : ((UInt8.ofNat z).toNat : Int) = (z : Int) := by
        rw [UInt8.toNat_ofNat', Nat.mod_eq_of_lt (by omega)]
      have HZ := Lib.hid (show 48 + q % 10 = z by rw [hr]; exact hz)
      have HP := Lib.hid hp
      clear hz hr hp
      have hcell : ∀ j (hj : j < [UInt8.ofNat z].length), (wr.alloc (.cells #[.int .u8 (z : Int)] 5)).cell? ⟨wr.heap.size, j, none⟩ = some (.int .u8 ([UInt8.ofNat z][j].toNat : Int)) := fun j hj => by
        obtain rfl : j = 0 := by simp at hj; omega
        rw [List.getElem_cons_zero, hbt]
        exact cell_new wr #[.int .u8 (z : Int)] 5 (i := 0) rfl
      have B1 := balloc hb (.cells #[.int .u8 (z : Int)] 5)
      go_wp2_with (first | refine wpList_convB [UInt8.ofNat z] wr.heap.size 1 rfl rfl Try.underlying94 Try.underlying5 Try.underlying9 rfl hcell ?_ | refine wpList_addS [UInt8.ofNat z] s rfl rfl rfl rfl (by simp) (by omega) ?_)
      go_roundw
      case rel =>
        obtain ⟨f, rfl⟩ : ∃ f', f = f' + 1 := ⟨f - 1, by omega⟩
        refine ⟨p, f, UInt8.ofNat z :: s, rfl, rfl, ?_, by omega, by simp; omega, B1⟩
        rw [← HD.out, digF_pos _ _ _ hq, HZ.out, HP.out]
      case measure => simp [intOf]; omega
    · obtain rfl : q = 0 := by omega
      rw [digF_zero] at HD
      go_wp2_with (refine wpList_addS [109] s rfl rfl rfl rfl (by simp) (by omega) ?_)
      go_ret
      refine ⟨?_, hb⟩
      rw [HD.out]; rfl

theorem c_eqStringS (A B : Option Addr) (c d : Nat) (l : List (List UInt8)) (w : World) (h : AtS w A l) (h2 : AtS w B l) (hn : l.length ≤ 1073741824) :
    Calls Try.prog 27 #[.slice A l.length c, .slice B l.length d] w fun e w' => e = .returned (.bool true) ∧ Below w.heap.size w w' := by
  have hst := Try.underlying9
  go_enter Try.func27, Try.ntmps27
  go_wp2
  go_loopw [5] (fun i w' => ∃ k : Nat, i = .int .i64 (k : Int) ∧ k ≤ l.length ∧ Below w.heap.size w w') (fun i _ => l.length - (intOf i).toNat)
  case atStart => exact ⟨0, rfl, by omega, Below.refl _ _⟩
  case round =>
    obtain ⟨k, rfl, hk, hb⟩ := hrel
    by_cases hlt : k < l.length
    · obtain ⟨b, off, rfl, hbl, hc⟩ := (h.below hb).get (by omega)
      obtain ⟨b2, off2, rfl, hbl2, hc2⟩ := (h2.below hb).get (by omega)
      have x1 : ∀ x : After wr, _ := fun x => (x.cell hbl).trans (hc k hlt)
      have x2 : ∀ x : After wr, _ := fun x => (x.cell hbl2).trans (hc2 k hlt)
      clear hc hc2
      have hi2 : (k : Int) < (l.length : Int) := by omega
      have hi3 : (0 : Int) ≤ (k : Int) := by omega
      go_wp2
      refine region_after (by kernel_rfl) (by kernel_rfl) ?_
      repeat (go_big_quiet_step (fail))
      refine wpQuiet_nil ?_
      rintro _ ⟨x, rfl⟩
      go_wp2
      go_roundw
      case rel => exact ⟨k + 1, by go_num, by omega, bstep hb x.below⟩
      case measure => simp [intOf]; omega
    · obtain rfl : k = l.length := by omega
      go_wp2
      go_ret
      exact ⟨rfl, hb⟩

theorem c_markStringS (A : Option Addr) (c : Nat) (l : List (List UInt8)) (m : Nat) (base : Nat) (w : World) (h : OwnS 9 w base (.slice A l.length c) l) (hn : m + l.length ≤ 8388600) (hm : 1 ≤ m) :
    Calls Try.prog 28 #[.slice A l.length c, .int .i64 (m : Int)] w fun e w' => e = .returned (.int .i64 ((m + l.length : Nat) : Int)) ∧ OwnS 9 w' base (.slice A l.length c) (mkTs l.length m) ∧ w.grownBy w' (Value.slice A l.length c).ownBlock := by
  have hst := Try.underlying9
  go_enter Try.func28, Try.ntmps28
  go_wp2
  go_loopw [1, 5] (fun q i w' => ∃ k : Nat, i = .int .i64 (k : Int) ∧ q = .int .i64 ((m + k : Nat) : Int) ∧ k ≤ l.length ∧ OwnS 9 w' base (.slice A l.length c) (mkTq l k m) ∧ w.grownBy w' (Value.slice A l.length c).ownBlock) (fun _ i _ => l.length - (intOf i).toNat)
  case atStart => exact ⟨0, rfl, rfl, by omega, by rw [mkTq_zero]; exact h, World.grownBy.refl _ _⟩
  case round =>
    obtain ⟨k, rfl, rfl, hk, hown, hg⟩ := hrel
    by_cases hlt : k < l.length
    · have hlt2 : k < (mkTq l k m).length := by rw [mkTq_len _ hk]; exact hlt
      obtain ⟨g, rfl⟩ : ∃ g, A = some ⟨g, 0, none⟩ := hown.form (by omega)
      have hw1 : IntKind.i64.wrap (((m + k : Nat) : Int) + 1) = ((m + k : Nat) : Int) + 1 := IntWalk.i64_in _ (by omega)
      have HS := Lib.hid (mkTq_set m hlt)
      have HO := Lib.hid hown
      have HG := Lib.hid (show w.grownBy wr (some g) from hg)
      clear hown hg
      go_wp2_with fail
      refine (c_markText (m + k) _ (by omega) (by omega)).mono ?_
      rintro e w1 ⟨rfl, b1⟩
      have HO1 := Lib.hid (HO.out.below b1)
      have HG1 := Lib.hid (HG.out.trans ⟨b1.os, b1.tape, b1.output, b1.size, fun k hk _ => b1.block k hk⟩)
      obtain ⟨y1, y2⟩ := HO1.out.cell k hlt2
      clear b1 HO HG
      go_wp2
      go_roundw
      case rel =>
        refine ⟨k + 1, by go_num, by congr 1, by omega, ?_, ?_⟩
        · rw [← HS.out]; exact HO1.out.store (mkTq_len _ hk) k _
        · exact gset (g := g) (p := ⟨g, k, none⟩) HG1.out (.inl rfl) _
      case measure => simp [intOf]; omega
    · obtain rfl : k = l.length := by omega
      go_wp2
      go_ret
      exact ⟨rfl, by rw [mkTq_end] at hown; exact hown, hg⟩

theorem c_heldStringS (A : Option Addr) (c : Nat) (n m : Nat) (w : World) (h : AtS w A (mkTs n m)) (hn : m + n ≤ 8388600) (hm : 1 ≤ m) :
    Calls Try.prog 29 #[.slice A n c, .int .i64 (m : Int)] w fun e w' => e = .returned (.int .i64 ((m + n : Nat) : Int)) ∧ Below w.heap.size w w' := by
  have hst := Try.underlying9
  go_enter Try.func29, Try.ntmps29
  go_wp2
  go_loopw [1, 5] (fun q i w' => ∃ k : Nat, i = .int .i64 (k : Int) ∧ q = .int .i64 ((m + k : Nat) : Int) ∧ k ≤ n ∧ Below w.heap.size w w') (fun _ i _ => n - (intOf i).toNat)
  case atStart => exact ⟨0, rfl, rfl, by omega, Below.refl _ _⟩
  case round =>
    obtain ⟨k, rfl, rfl, hk, hb⟩ := hrel
    by_cases hlt : k < n
    · have hlt2 : k < (mkTs n m).length := by rw [mkTs_len]; exact hlt
      obtain ⟨b, off, rfl, hbl, hc⟩ := (h.below hb).get (by omega)
      have hck := hc k hlt2
      rw [mkTs_get] at hck
      have x1 : ∀ x : After wr, _ := fun x => (x.cell hbl).trans hck
      clear hc hck
      have hi2 : (k : Int) < (n : Int) := by omega
      have hi3 : (0 : Int) ≤ (k : Int) := by omega
      have hw1 : IntKind.i64.wrap (((m + k : Nat) : Int) + 1) = ((m + k : Nat) : Int) + 1 := IntWalk.i64_in _ (by omega)
      go_wp2
      refine region_after (by kernel_rfl) (by kernel_rfl) ?_
      repeat (go_big_quiet_step ((go_at_call 57; exact After.callG (fun x => c_markText (m + k) _ (by omega) (by omega)) _)))
      refine wpQuiet_nil ?_
      rintro _ ⟨x, rfl⟩
      go_wp2
      go_roundw
      case rel => exact ⟨k + 1, by go_num, by congr 1, by omega, bstep hb x.below⟩
      case measure => simp [intOf]; omega
    · obtain rfl : k = n := by omega
      go_wp2
      go_ret
      exact ⟨rfl, hb⟩

end Go.Proofs.Ytobpnlhfinnfkaa
