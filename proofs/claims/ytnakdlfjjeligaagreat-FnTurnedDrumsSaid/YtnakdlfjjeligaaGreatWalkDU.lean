/-
  The walks of the program's clashes of a drum.
-/
import Derived.Test.YtnakdlfjjeligaaGreatWalkDT
import Derived.Test.YtnakdlfjjeligaaGreatData
namespace Go.Proofs.YtnakdlfjjeligaaGreat
open Go.RowKit
set_option linter.unusedVariables false
set_option linter.unusedSimpArgs false
set_option maxRecDepth 4000

/-- What is known while the program looks at pin after pin. -/
def ClS (w0 : World) (pb n : Nat) (A : Option Addr) (c : Nat) (l : List (Int × Int)) (d : List Int) (k t : Nat) (w' : World) : Prop :=
  Var w' w0.heap.size #[.int .i16 (n : Int), .slice A l.length c] 27 ∧ Var w' (w0.heap.size + 1) (drumV d) 31 ∧
  Var w' pb #[.int .i16 (n : Int), .slice A l.length c] 27 ∧ Var w' (pb + 1) (drumV d) 31 ∧
  (∃ A' c', Var w' (w0.heap.size + 1 + 1 + 1) #[.slice A' (clU d n l k t).length c'] 42 ∧ Own2 .i64 .i64 114 w' w0.heap.size (.slice A' (clU d n l k t).length c') (clU d n l k t)) ∧ Below w0.heap.size w0 w'
theorem ClS.below {w0 : World} {pb n : Nat} {A : Option Addr} {c : Nat} {l : List (Int × Int)} {d : List Int} {k t : Nat} {u v : World} (h : ClS w0 pb n A c l d k t u) (hb : Below u.heap.size u v) : ClS w0 pb n A c l d k t v := by
  obtain ⟨h1, h2, h3, h4, ⟨A', c', h5, h6⟩, h7⟩ := h
  exact ⟨h1.below hb, h2.below hb, h3.below hb, h4.below hb, ⟨A', c', h5.below hb, h6.below hb⟩, bstep h7 hb⟩

set_option maxHeartbeats 800000 in
theorem c_clash1 (w0 : World) (pb n : Nat) (A : Option Addr) (c : Nat) (l : List (Int × Int)) (d : List Int) (k t : Nat) (w : World) (h : At2 .i8 .i8 w0 A l) (hd : d.length = 96) (hr : Wd d) (hn2 : 2 ≤ n) (hn96 : n ≤ 96) (hk : k < n) (ht : t < l.length) (hl : l.length ≤ 32) (hw : Whs l) (hp : pinB d k t = true) (hpb : w0.heap.size + 1 + 1 + 1 < pb) (hS : ClS w0 pb n A c l d k t w) :
    Calls Tryz.prog 78 #[.int .i64 (k : Int), .int .i64 (t : Int), .pointer (some ⟨w0.heap.size, 0, none⟩), .pointer (some ⟨w0.heap.size + 1, 0, none⟩), .pointer (some ⟨w0.heap.size + 1 + 1 + 1, 0, none⟩)] w fun z w' => z = .returned (.tuple #[]) ∧ ClS w0 pb n A c l d k (t + 1) w' := by
  have hu2 := Tryz.underlying27
  have hs := clU_succ d n l k t
  rw [hp, Bool.true_and] at hs
  have f1 := hS.1.cell (i := 0) rfl
  have f2 := hS.1.cell (i := 1) rfl
  have HS := Lib.hid hS
  clear hS hp
  rcases hq : clB d n l k t with _ | _
  · rw [hq] at hs
    simp only [Bool.false_eq_true, if_false, List.append_nil] at hs
    have HE := Lib.hid hs
    have HQ := Lib.hid hq
    clear hs hq
    go_enter Tryz.func78, Tryz.ntmps78
    go_wp2_with fail
    refine (c_clashes (w0.heap.size + 1) n A c l d k t _ (h.below HS.out.2.2.2.2.2) (HS.out.2.1.drum hd) hr hn2 hn96 hk ht hl hw).mono ?_
    rintro z w1 ⟨rfl, b1⟩
    rw [HQ.out]
    go_wp2
    go_end0
    refine ⟨rfl, ?_⟩
    have := HS.out.below b1
    unfold ClS at this ⊢
    rw [HE.out]
    exact this
  · rw [hq] at hs
    simp only [if_true] at hs
    have HE := Lib.hid hs
    have HQ := Lib.hid hq
    clear hs hq
    have hlen2 := clU_len d n l (k := k) (t := t) (by omega) (by omega) hl
    go_enter Tryz.func78, Tryz.ntmps78
    go_wp2_with fail
    refine (c_clashes (w0.heap.size + 1) n A c l d k t _ (h.below HS.out.2.2.2.2.2) (HS.out.2.1.drum hd) hr hn2 hn96 hk ht hl hw).mono ?_
    rintro z w1 ⟨rfl, b1⟩
    rw [HQ.out]
    clear f1 f2
    obtain ⟨h1, h2, h3, h4, ⟨A2, c2, h5, h6⟩, h7⟩ := HS.out.below b1
    have hown2 := h6.alloc (.cells #[.int .i64 (k : Int), .int .i64 (t : Int)] 114)
    have B3 := balloc h7 (.cells #[.int .i64 (k : Int), .int .i64 (t : Int)] 114)
    have V1 := Lib.hid (h1.old (.cells #[.int .i64 (k : Int), .int .i64 (t : Int)] 114))
    have V2 := Lib.hid (h2.old (.cells #[.int .i64 (k : Int), .int .i64 (t : Int)] 114))
    have V3 := Lib.hid (h3.old (.cells #[.int .i64 (k : Int), .int .i64 (t : Int)] 114))
    have V4 := Lib.hid (h4.old (.cells #[.int .i64 (k : Int), .int .i64 (t : Int)] 114))
    have V5 := Lib.hid (h5.old (.cells #[.int .i64 (k : Int), .int .i64 (t : Int)] 114))
    have g1 := h5.cell (i := 0) rfl
    have hbs := B3.size
    have z1 := cell_new w1 #[.int .i64 (k : Int), .int .i64 (t : Int)] 114 (i := 0) rfl
    have z2 := cell_new w1 #[.int .i64 (k : Int), .int .i64 (t : Int)] 114 (i := 1) rfl
    clear h1 h2 h3 h4 h5 h6 h7
    go_wp2_with (at_builtin; refine append_pair rfl (.tmp 11) (.tmp 15) 42 rfl 114 .i64 .i64 16 Tryz.underlying42 info_A2 (by decide) w0.heap.size _ _ rfl hown2 _ _ ((k : Int), (t : Int)) rfl z1 z2 hlen2 hbs ?_; intro A3 c3 w3 ho3 hg3; have g2 := (V5.out.grown hg3 (hown2.ne_var V5.out (by decide))).cell (i := 0) rfl; have g3 := (V5.out.grown hg3 (hown2.ne_var V5.out (by decide))).frozen 0)
    go_end0
    have q5 := V5.out.grown hg3 (hown2.ne_var V5.out (by decide))
    refine ⟨rfl, ?_⟩
    unfold ClS
    rw [HE.out]
    have hsl : (clU d n l k t ++ [((k : Int), (t : Int))]).length = (clU d n l k t).length + 1 := by simp
    have q6 := q5.set 0 (.slice A3 ((clU d n l k t).length + 1) c3)
    refine ⟨(V1.out.grown hg3 (hown2.ne_var V1.out (by decide))).other (by simp <;> omega) _, (V2.out.grown hg3 (hown2.ne_var V2.out (by decide))).other (by simp <;> omega) _, (V3.out.grown hg3 (hown2.ne_var V3.out (by decide))).other (by simp <;> omega) _, (V4.out.grown hg3 (hown2.ne_var V4.out (by decide))).other (by simp <;> omega) _, ⟨A3, c3, ?_, ?_⟩, bset (bgrown B3 hg3 (fun j hj => hown2.low hj)) (by simp <;> omega) _⟩
    · rw [hsl]; simpa using q6
    · exact ho3.beside q5 (by decide) 0 _

/-- The program's clashes. -/
theorem c_allClashes (n : Nat) (A : Option Addr) (c : Nat) (l : List (Int × Int)) (d : List Int) (w : World) (h : At2 .i8 .i8 w A l) (hd : d.length = 96) (hr : Wd d) (hn2 : 2 ≤ n) (hn96 : n ≤ 96) (hl : l.length ≤ 32) (hw : Whs l) :
    Calls Tryz.prog 44 #[.agg #[.int .i16 (n : Int), .slice A l.length c], .agg (drumV d)] w fun z w' => ∃ A' c', z = .returned (.slice A' (clL d n l n).length c') ∧ Own2 .i64 .i64 114 w' w.heap.size (.slice A' (clL d n l n).length c') (clL d n l n) ∧ Below w.heap.size w w' := by
  have hu2 := Tryz.underlying27
  have s2 : ((w.alloc (.cells #[.int .i16 (n : Int), .slice A l.length c] 27)).alloc (.cells (drumV d) 31)).heap.size = w.heap.size + 1 + 1 := by simp
  have s3 : (((w.alloc (.cells #[.int .i16 (n : Int), .slice A l.length c] 27)).alloc (.cells (drumV d) 31)).alloc (.cells #[] 114)).heap.size = w.heap.size + 1 + 1 + 1 := by simp
  have v0 : Var ((((w.alloc (.cells #[.int .i16 (n : Int), .slice A l.length c] 27)).alloc (.cells (drumV d) 31)).alloc (.cells #[] 114)).alloc (.cells #[.slice (some ⟨w.heap.size + 1 + 1, 0, none⟩) 0 0] 42)) w.heap.size #[.int .i16 (n : Int), .slice A l.length c] 27 := (((Var.new w _ _).old _).old _).old _
  have v1 : Var ((((w.alloc (.cells #[.int .i16 (n : Int), .slice A l.length c] 27)).alloc (.cells (drumV d) 31)).alloc (.cells #[] 114)).alloc (.cells #[.slice (some ⟨w.heap.size + 1 + 1, 0, none⟩) 0 0] 42)) (w.heap.size + 1) (drumV d) 31 := by
    have : Var ((w.alloc (.cells #[.int .i16 (n : Int), .slice A l.length c] 27)).alloc (.cells (drumV d) 31)) (w.heap.size + 1) (drumV d) 31 := by simpa using Var.new (w.alloc (.cells #[.int .i16 (n : Int), .slice A l.length c] 27)) (drumV d) 31
    exact (this.old _).old _
  have v5 : Var ((((w.alloc (.cells #[.int .i16 (n : Int), .slice A l.length c] 27)).alloc (.cells (drumV d) 31)).alloc (.cells #[] 114)).alloc (.cells #[.slice (some ⟨w.heap.size + 1 + 1, 0, none⟩) 0 0] 42)) (w.heap.size + 1 + 1 + 1) #[.slice (some ⟨w.heap.size + 1 + 1, 0, none⟩) 0 0] 42 := by have := Var.new (((w.alloc (.cells #[.int .i16 (n : Int), .slice A l.length c] 27)).alloc (.cells (drumV d) 31)).alloc (.cells #[] 114)) #[.slice (some ⟨w.heap.size + 1 + 1, 0, none⟩) 0 0] 42; rw [s3] at this; exact this
  have o3 : Own2 .i64 .i64 114 (((w.alloc (.cells #[.int .i16 (n : Int), .slice A l.length c] 27)).alloc (.cells (drumV d) 31)).alloc (.cells #[] 114)) w.heap.size (.slice (some ⟨w.heap.size + 1 + 1, 0, none⟩) 0 0) [] := by
    have := Own2.lit0 (k1 := .i64) (k2 := .i64) (E := 114) (w := ((w.alloc (.cells #[.int .i16 (n : Int), .slice A l.length c] 27)).alloc (.cells (drumV d) 31))) (base := w.heap.size) (by simp <;> omega)
    rw [s2] at this; exact this
  have o5 := o3.alloc (.cells #[.slice (some ⟨w.heap.size + 1 + 1, 0, none⟩) 0 0] 42)
  have B5 : Below w.heap.size w ((((w.alloc (.cells #[.int .i16 (n : Int), .slice A l.length c] 27)).alloc (.cells (drumV d) 31)).alloc (.cells #[] 114)).alloc (.cells #[.slice (some ⟨w.heap.size + 1 + 1, 0, none⟩) 0 0] 42)) := balloc (balloc (balloc (balloc (Below.refl _ w) _) _) _) _
  have s5 : ((((w.alloc (.cells #[.int .i16 (n : Int), .slice A l.length c] 27)).alloc (.cells (drumV d) 31)).alloc (.cells #[] 114)).alloc (.cells #[.slice (some ⟨w.heap.size + 1 + 1, 0, none⟩) 0 0] 42)).heap.size = w.heap.size + 1 + 1 + 1 + 1 := by simp
  have V0 := Lib.hid v0
  have V1 := Lib.hid v1
  have V5 := Lib.hid v5
  have O5 := Lib.hid o5
  have HB5 := Lib.hid B5
  obtain ⟨wa, hwa⟩ : ∃ x, x = ((((w.alloc (.cells #[.int .i16 (n : Int), .slice A l.length c] 27)).alloc (.cells (drumV d) 31)).alloc (.cells #[] 114)).alloc (.cells #[.slice (some ⟨w.heap.size + 1 + 1, 0, none⟩) 0 0] 42)) := ⟨_, rfl⟩
  have HW := Lib.hid hwa
  have key : Calls Tryz.prog 72 #[.agg #[.int .i16 (n : Int), .slice A l.length c], .agg (drumV d), .func (.func 78) #[] #[.pointer (some ⟨w.heap.size, 0, none⟩), .pointer (some ⟨w.heap.size + 1, 0, none⟩), .pointer (some ⟨w.heap.size + 1 + 1 + 1, 0, none⟩)]] wa fun z w' => z = .returned (.tuple #[]) ∧ ClS w wa.heap.size n A c l d n 0 w' := by
    rw [← hwa] at v0 v1 v5 o5 B5 s5
    refine c_pins_clashes w.heap.size (w.heap.size + 1) (w.heap.size + 1 + 1 + 1) n A c l d wa hd hr hn96 hl (ClS w wa.heap.size n A c l d) ?_ ?_ ?_ ?_ ?_
    · refine ⟨(v0.old _).old _, (v1.old _).old _, (Var.new wa _ _).old _, by simpa using Var.new (wa.alloc (.cells #[.int .i16 (n : Int), .slice A l.length c] 27)) (drumV d) 31, ⟨some ⟨w.heap.size + 1 + 1, 0, none⟩, 0, ?_, ?_⟩, balloc (balloc B5 _) _⟩
      · rw [clU_zero, clL_zero]; exact (v5.old _).old _
      · rw [clU_zero, clL_zero]; exact (o5.alloc _).alloc _
    · exact fun k t w' hS => ⟨hS.2.2.1, hS.2.2.2.1⟩
    · intro k w' hS
      unfold ClS at hS ⊢
      rw [clU_end] at hS
      rw [clU_zero]
      exact hS
    · intro k t w' ht hp hS
      have := clU_succ d n l k t
      rw [hp] at this
      simp only [Bool.false_and, Bool.false_eq_true, if_false, List.append_nil] at this
      unfold ClS at hS ⊢
      rw [this]
      exact hS
    · exact fun k t w' hk ht hp hS => c_clash1 w wa.heap.size n A c l d k t w' h hd hr hn2 hn96 hk ht hl hw hp (by omega) hS
  clear v0 v1 v5 o3 o5 B5 s2 s3 s5
  have KEY := Lib.hid key
  clear key
  rw [← hwa] at V0 V1 V5 O5 HB5
  go_enter Tryz.func44, Tryz.ntmps44
  go_upto_region 2 with fail
  rw [← hwa]
  clear hwa HW
  have f1 := V0.out.cell (i := 0) rfl
  have f2 := V0.out.cell (i := 1) rfl
  go_wp2_with (refine wpList_loadD (by rfl) rfl V1.out rfl Tryz.underlying31 size_Drum hd ?_)
  refine KEY.out.mono ?_
  rintro z w1 ⟨rfl, h1, h2, h3, h4, ⟨A', c', h5, h6⟩, h7⟩
  rw [clU_zero] at h5 h6
  have g1 := h5.cell (i := 0) rfl
  have H6 := Lib.hid h6
  clear h1 h2 h3 h4 h5 h6 f1 f2
  go_wp2
  go_ret
  exact ⟨A', c', rfl, H6.out, h7⟩

end Go.Proofs.YtnakdlfjjeligaaGreat
