/-
  The statement FnExactHammersNeededSaid: whatever is given, the law's call returns true, and what is given reads as it did: the program's HammersNeeded returns what the reference's returns. Conditions: none beyond the statement's own.
-/
import Derived.Test.YtobpnlhfinnfkaaRows
import Derived.Test.YtobpnlhfinnfkaaOpen
import Derived.Test.YtobpnlhfinnfkaaWalkHO
import Derived.ChangeSlices
namespace Go.Proofs.Ytobpnlhfinnfkaa
open Go.RowKit Go.ChangeShapes Go.WideShapes Go.Deep
set_option linter.unusedVariables false
set_option linter.unusedSimpArgs false
set_option maxRecDepth 4000

section
variable {H : Type} {enc : TypeId × Value → H} {P : Program} {w : World} {base : Nat} {spare : Nat → Bool} {held : Bool}
/-- A slice of whole numbers. -/
theorem open_ints1 {t e : TypeId} {k : IntKind} {r : Reach} {b0 : Nat} {v : Value} {d : DataW H} {p : List MemPlace} (ht : P.underlying t = some (.slice e)) (he : P.underlying e = some (.int k)) (hC : P.cellsOf e = 1)
    (hv : Value.okWide P w r b0 t v) (h : DataW.Trod enc P w base spare held t v d p) :
    ∃ (A : Option Addr) (c : Nat) (l : List Int), v = .slice A l.length c ∧ l.length ≤ maxLen ∧ At1 k w A l := by
  obtain ⟨a0, len0, cap0, rfl⟩ := okWide_slice ht hv
  obtain ⟨fuel, hf⟩ := h
  rcases open_ints ht he hC hf with ⟨hcs, _⟩ | ⟨a, len, cap, zs, hcs, hb, hl, hm, hzs, hx, hi, hw⟩
  · have hcs' : a0 = none ∧ len0 = 0 ∧ cap0 = 0 := by simpa [Value.cells] using hcs
    obtain ⟨rfl, rfl, rfl⟩ := hcs'
    exact ⟨none, 0, [], rfl, by simp, At1.nil _ _ _⟩
  · have hcs' : a0 = some a ∧ len0 = len ∧ cap0 = cap := by simpa [Value.cells] using hcs
    obtain ⟨rfl, rfl, rfl⟩ := hcs'
    have hlm : len0 ≤ zs.length := by rw [hzs]; split <;> omega
    have hlen : (zs.take len0).length = len0 := by rw [List.length_take]; omega
    refine ⟨some a, cap0, zs.take len0, by rw [hlen], by rw [hlen]; omega, fun hne => ?_⟩
    have hpos : 0 < len0 := by
      rcases Nat.eq_zero_or_pos len0 with h0 | h0
      · subst h0; simp at hne
      · exact h0
    have h0 := hi 0 (by omega)
    have ha := addr_of_cell h0
    have ha0 : a = ⟨a.block, a.off, none⟩ := by simpa [Addr.add] using ha
    have hlt := World.block_lt_of_cell? w _ h0
    rw [ha0] at hi hlt ⊢
    refine ⟨a.block, a.off, rfl, by simpa [Addr.add] using hlt, fun j hj => ?_⟩
    rw [List.length_map, hlen] at hj
    have := hi j (by omega)
    rw [add_plain] at this
    rw [this, List.getElem_map, List.getElem_take]
    simp [List.getD, show j < zs.length by omega]
end
theorem run_make1 {P : Program} (t e : TypeId) (k : IntKind) (b : Nat) (ht : P.underlying t = some (.slice e)) (hi : (P.info? e).map (fun i => (i.zero, i.size, i.bytes)) = some (some (.int k 0), 1, b))
    (n : Nat) (hb : b ≤ 16) (hn : n ≤ 1073741824) (w : World) :
    (Instr.makeSlice t (.int .i64 (n : Int)) (.int .i64 (n : Int))).run P w = .ok (.slice (some ⟨w.heap.size, 0, none⟩) n n) (w.alloc (.cells (madeCells #[.int k 0] n) e)) := by
  obtain ⟨i, h1, h2, h3, h4⟩ := info_parts1 hi
  have hx : i.bytes * n ≤ 16 * 1073741824 := Nat.mul_le_mul (by omega) hn
  have := run_make_rowN (P := P) t e i _ ht h1 h2 .i64 .i64 n n (Nat.le_refl _) (by omega) (by omega) w
  rw [h3, Nat.mul_one] at this
  exact this
theorem madeCells1 (k : IntKind) (n : Nat) : (madeCells #[.int k 0] n).toList = (List.replicate n (0 : Int)).map (Value.int k) := by
  unfold madeCells
  apply List.ext_getElem
  · simp
  · intro i h1 h2
    simp [Nat.mod_one]
theorem Own1.made {k : IntKind} {E : TypeId} {w : World} {base : Nat} (hb : base ≤ w.heap.size) {n : Nat} (hn : n ≤ 1073741824) :
    Own1 k E (w.alloc (.cells (madeCells #[.int k 0] n) E)) base (.slice (some ⟨w.heap.size, 0, none⟩) n n) (List.replicate n 0) := by
  have := World.ownsRow_lit (base := base) (e := E) (size := 1) w (madeCells #[.int k 0] n) n hb (by unfold maxLen; omega) (by simp [madeCells])
  rw [madeCells1] at this
  unfold Own1
  rw [List.length_replicate]
  exact this
def fillI (l : List Int) (k : Nat) : List Int := l.take k ++ List.replicate (l.length - k) 0
theorem fillI_len {l : List Int} {k : Nat} (hk : k ≤ l.length) : (fillI l k).length = l.length := by unfold fillI; rw [List.length_append, List.length_take, List.length_replicate]; omega
theorem fillI_zero (l : List Int) : fillI l 0 = List.replicate l.length 0 := by unfold fillI; simp
theorem fillI_end (l : List Int) : fillI l l.length = l := by unfold fillI; simp
theorem fillI_set {l : List Int} {k : Nat} (hk : k < l.length) : (fillI l k).set k l[k] = fillI l (k + 1) := by
  unfold fillI
  obtain ⟨m, hm⟩ : ∃ m, l.length - k = m + 1 := ⟨l.length - k - 1, by omega⟩
  rw [hm, show l.length - (k + 1) = m by omega, List.replicate_succ, List.take_succ_eq_append_getElem hk, List.set_append_right _ _ (by rw [List.length_take]; omega), List.length_take, show k - min k l.length = 0 by omega, List.set_cons_zero, List.append_assoc]
  rfl

theorem c_toInt64S (A : Option Addr) (c : Nat) (l : List Int) (w : World) (h : At1 .i64 w A l) (hn : l.length ≤ 1073741824) :
    Calls Try.prog 8 #[.slice A l.length c] w fun e w' => ∃ A' c', e = .returned (.slice A' l.length c') ∧ Own1 .i64 2 w' w.heap.size (.slice A' l.length c') l ∧ Below w.heap.size w w' := by
  have hmk := run_make1 (P := Try.prog) 22 2 .i64 8 Try.underlying22 info_i64N l.length (by omega) hn
  go_enter Try.func8, Try.ntmps8
  go_wp2
  clear hmk
  go_loopw [4] (fun i w' => ∃ k : Nat, i = .int .i64 (k : Int) ∧ k ≤ l.length ∧ Own1 .i64 2 w' w.heap.size (.slice (some ⟨w.heap.size, 0, none⟩) l.length l.length) (fillI l k) ∧ Below w.heap.size w w') (fun i _ => l.length - (intOf i).toNat)
  case atStart => exact ⟨0, rfl, by omega, by rw [fillI_zero]; exact Own1.made (Nat.le_refl _) hn, balloc (Below.refl _ _) _⟩
  case round =>
    obtain ⟨k, rfl, hk, hown, hb⟩ := hrel
    by_cases hlt : k < l.length
    · obtain ⟨b, off, rfl, hbl, hc⟩ := (h.below hb).get (by omega)
      have x1 := hc k hlt
      clear hc
      have hfl := fillI_len hk
      obtain ⟨y1, y2⟩ := hown.cell k (by omega)
      have hst := hown.store hfl k l[k]
      rw [fillI_set hlt] at hst
      have HST := Lib.hid hst
      have hi1 : (k : Int) < (l.length : Int) := by omega
      clear hst hown
      go_wp2
      go_roundw
      case rel => exact ⟨k + 1, by go_num, by omega, HST.out, bset hb (Nat.le_refl _) _⟩
      case measure => simp [intOf]; omega
    · obtain rfl : k = l.length := by omega
      rw [fillI_end] at hown
      have HO := Lib.hid hown
      clear hown
      go_wp2
      go_ret
      exact ⟨_, _, rfl, HO.out, hb⟩

set_option maxHeartbeats 1000000 in
theorem law_HammersNeeded (s r : Int) (At : Option Addr) (kt : Nat) (l : List Int) (w : World) (ht : At1 .i64 w At l) (hnt : l.length ≤ 9223372036854775807) (hbs : -9223372036854775808 ≤ s ∧ s ≤ 9223372036854775807) (hbr : -9223372036854775808 ≤ r ∧ r ≤ 9223372036854775807) :
    Calls Try.prog 3 #[.int .i64 s, .int .i64 r, .slice At l.length kt] w fun e w' => e = .returned (.bool true) ∧ Below w.heap.size w w' := by
  by_cases hbig : 1048576 < l.length
  · have hd : decide (1048576 < (l.length : Int)) = true := decide_eq_true (by omega)
    go_enter Try.func3, Try.ntmps3
    go_wp2
    go_ret
    exact ⟨rfl, Below.refl _ _⟩
  · have hd : decide (1048576 < (l.length : Int)) = false := decide_eq_false (by omega)
    have hn : l.length ≤ 1073741824 := by omega
    go_enter Try.func3, Try.ntmps3
    go_wp2_with fail
    refine (c_toInt64S At kt l _ ht hn).mono ?_
    rintro e w1 ⟨A1, c1, rfl, o1, b1⟩
    go_wp2_with fail
    refine (c_specHammersNeeded s r A1 c1 l _ o1.at_ hn hbs hbr).mono ?_
    rintro e w2 ⟨rfl, b2⟩
    have B2 := bstep b1 b2
    go_wp2_with fail
    refine (c_toInt64S At kt l _ (ht.below B2) hn).mono ?_
    rintro e w3 ⟨A3, c3, rfl, o3, b3⟩
    have B3 := bstep B2 b3
    go_wp2_with fail
    refine (c_implHammersNeeded s r A3 c3 l _ o3.at_ hn hbs hbr).mono ?_
    rintro e w4 ⟨rfl, b4⟩
    have B4 := bstep B3 b4
    have o4 := o3.below b4
    go_wp2_with fail
    refine (c_toInt64S At kt l _ (ht.below B4) hn).mono ?_
    rintro e w5 ⟨A5, c5, rfl, o5, b5⟩
    have B5 := bstep B4 b5
    go_wp2_with fail
    refine (c_eqInt64S A3 A5 c3 c5 l l _ (o4.below b5).at_ o5.at_ hn hn).mono ?_
    rintro e w6 ⟨rfl, b6⟩
    rw [decide_self]
    go_wp2
    go_ret
    exact ⟨rfl, bstep B5 b6⟩
end Go.Proofs.Ytobpnlhfinnfkaa
namespace Go.Proofs.Ytobpnlhfinnfkaa.ofHammersNeeded
open Go.ChangeShapes Go.WideShapes Go.ChangeAt Go.RowKit
theorem own : ownKnob Try.prog.godebug = none := by kernel_rfl
theorem laidOut : laidOutB Try.prog = true := by kernel_rfl
set_option maxRecDepth 100000 in
theorem lifted (os : Os) (started : os.Started) (H : Type) (enc : TypeId × Value → H) :
    ReturnsInHanded {} Try.checked os 3 .any (Rows.fnExactHammersNeededSpec.pre6 enc Try.prog Try.f3 Rows.fnExactHammersNeededRow.domain false) (Rows.fnExactHammersNeededSpec.post enc Try.prog Try.f3 false true false false) := by
  refine returnsInHanded_of_change (C := Try.checked) own started (by kernel_rfl) Try.func3
    (ChangeSpec.witness6 (enc := enc) (C := Try.checked) false ⟨#[], #[.int .i64 0, .int .i64 0, .slice none 0 0], []⟩ 8 (by kernel_rfl) (by kernel_rfl) (by kernel_rfl) (by kernel_rfl)) ?_
  intro W base args ds gs before hval0 hW hcnd _
  have hval : ∀ (j : Nat) t v, Try.f3.params[j]? = some t → args[j]? = some v → Value.okWide Try.prog W .any base t v := hval0
  have hW' := hW
  have hlt := fun p (hp : p ∈ before) => hW.lt p hp
  obtain ⟨p, q, hA0, hV, rfl, hfz, hnd⟩ := hW
  have hA : DataW.TrodAll enc Try.prog W 0 (fun _ => true) true Try.f3.params.toList args.toList ds p := hA0
  obtain ⟨rfl, rfl⟩ := trodVars_none hV
  simp only [List.append_nil] at hlt hW'
  have hback := fun W' hb => trodAll_below (W' := W') laidOut hb (by rw [Try.params3]; decide +kernel) hlt hA
  rw [Try.params3] at hA hval
  obtain ⟨v0, vs0, d0, ds0, p0, q0, hargs, rfl, rfl, h0, r0⟩ := trodAll_cons hA
  obtain ⟨v1, vs1, d1, ds1, p1, q1, rfl, rfl, rfl, h1, r1⟩ := trodAll_cons r0
  obtain ⟨v2, vs2, d2, ds2, p2, q2, rfl, rfl, rfl, h2, r2⟩ := trodAll_cons r1
  obtain ⟨rfl, rfl, rfl⟩ := trodAll_nil r2
  obtain rfl : args = #[v0, v1, v2] := by cases args; simp_all
  obtain ⟨s, rfl, rfl, rfl, wfs⟩ := open_int Try.underlying2 (hval 0 _ _ rfl rfl) h0
  obtain ⟨r, rfl, rfl, rfl, wfr⟩ := open_int Try.underlying2 (hval 1 _ _ rfl rfl) h1
  obtain ⟨At, kt, l, rfl, hnl, hrl⟩ := open_ints1 Try.underlying22 Try.underlying2 (by kernel_rfl) (hval 2 _ _ rfl rfl) h2
  refine (law_HammersNeeded s r At kt l W hrl (by unfold maxLen at hnl; omega) (by simpa [Lit.wf, IntKind.min, IntKind.max, IntKind.signed, IntKind.bits] using wfs) (by simpa [Lit.wf, IntKind.min, IntKind.max, IntKind.signed, IntKind.bits] using wfr)).mono fun e W' ⟨he, bel⟩ => ?_
  subst he
  exact ⟨_, rfl, _, _, _, [], _, [], hW', trodAll_mk1 (shut_bool Try.underlying4 _), hback W' bel, rfl, bel.frame _, fun h => by cases h⟩
theorem over : Rows.fnExactHammersNeededRow.holds Try.pinned (OpenSpec.ofChange Rows.fnExactHammersNeededSpec) :=
  OpenClaim.holds_of_wide 3 Try.f3 rfl rfl rfl rfl rfl rfl rfl ⟨rfl, rfl, rfl, rfl, rfl⟩ rfl rfl rfl rfl rfl (by kernel_rfl) Try.func3 (by kernel_rfl)
    (of_decide_eq_true (by kernel_rfl)) (by unfold Func.isWrapper; first | (rw [if_pos (by decide +kernel)]; kernel_rfl) | (rw [if_neg (by decide +kernel)]; exact ⟨rfl, rfl⟩))
    (fun os started H enc _ => lifted os started H enc)
end Go.Proofs.Ytobpnlhfinnfkaa.ofHammersNeeded
namespace Go.Proofs.Ytobpnlhfinnfkaa
theorem fnExactHammersNeeded_holds : Rows.FnExactHammersNeededSaid := ofHammersNeeded.over
#print axioms fnExactHammersNeeded_holds
end Go.Proofs.Ytobpnlhfinnfkaa
