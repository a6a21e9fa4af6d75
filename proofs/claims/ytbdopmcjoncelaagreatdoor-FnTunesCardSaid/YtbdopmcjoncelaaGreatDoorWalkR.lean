/-
  The kit's contract of slices.SortFunc, laid at this program; notes in order by compareNotes.
-/
import Derived.Test.YtbdopmcjoncelaaGreatDoorWalkC
import Derived.Test.YtbdopmcjoncelaaGreatDoorDataL
import Derived.Shelf.SlLaysF0
namespace Go.Proofs.YtbdopmcjoncelaaGreatDoor
open Go.RowKit Go.Sort Go.Shelf
set_option linter.unusedVariables false
set_option linter.unusedSimpArgs false
set_option maxRecDepth 4000

/-! ### as the kit's command writes it -/
def laySort_ren : Go.Shelf.Ren := ⟨fun | 6 => 78 | 15 => 96 | 14 => 95 | 28 => 123 | 29 => 124 | 20 => 115 | 21 => 116 | 22 => 117 | 23 => 118 | 24 => 119 | 25 => 120 | 26 => 121 | 27 => 122 | 46 => 137 | 47 => 138 | 48 => 139 | 49 => 140 | 50 => 141 | 57 => 145 | n => n, fun | 22 => 24 | 24 => 40 | 25 => 65 | 3 => 3 | 39 => 112 | 0 => 0 | 53 => 142 | 55 => 73 | 4 => 4 | 46 => 135 | 45 => 134 | 50 => 139 | 5 => 5 | 9 => 9 | 66 => 155 | 70 => 159 | 76 => 168 | 77 => 169 | n => n, fun | n => n⟩
theorem laySort : Go.Proofs.SlLaysF0.n6 Tryz.prog laySort_ren where
  mixed := by kernel_rfl
  f6 := ⟨"slices.SortFunc[[]loop.example/g01311/impl.Note,loop.example/g01311/impl.Note]", by decide, Tryz.func78.trans (congrArg some (by kernel_rfl))⟩
  f14 := ⟨"slices.pdqsortCmpFunc[loop.example/g01311/impl.Note]", by decide, Tryz.func95.trans (congrArg some (by kernel_rfl))⟩
  f15 := Tryz.func96.trans (congrArg some (by kernel_rfl))
  f20 := ⟨"slices.insertionSortCmpFunc[loop.example/g01311/impl.Note]", by decide, Tryz.func115.trans (congrArg some (by kernel_rfl))⟩
  f21 := ⟨"slices.heapSortCmpFunc[loop.example/g01311/impl.Note]", by decide, Tryz.func116.trans (congrArg some (by kernel_rfl))⟩
  f22 := ⟨"slices.breakPatternsCmpFunc[loop.example/g01311/impl.Note]", by decide, Tryz.func117.trans (congrArg some (by kernel_rfl))⟩
  f23 := ⟨"slices.choosePivotCmpFunc[loop.example/g01311/impl.Note]", by decide, Tryz.func118.trans (congrArg some (by kernel_rfl))⟩
  f24 := ⟨"slices.reverseRangeCmpFunc[loop.example/g01311/impl.Note]", by decide, Tryz.func119.trans (congrArg some (by kernel_rfl))⟩
  f25 := ⟨"slices.partialInsertionSortCmpFunc[loop.example/g01311/impl.Note]", by decide, Tryz.func120.trans (congrArg some (by kernel_rfl))⟩
  f26 := ⟨"slices.partitionEqualCmpFunc[loop.example/g01311/impl.Note]", by decide, Tryz.func121.trans (congrArg some (by kernel_rfl))⟩
  f27 := ⟨"slices.partitionCmpFunc[loop.example/g01311/impl.Note]", by decide, Tryz.func122.trans (congrArg some (by kernel_rfl))⟩
  f28 := Tryz.func123.trans (congrArg some (by kernel_rfl))
  f29 := Tryz.func124.trans (congrArg some (by kernel_rfl))
  f46 := ⟨"slices.siftDownCmpFunc[loop.example/g01311/impl.Note]", by decide, Tryz.func137.trans (congrArg some (by kernel_rfl))⟩
  f47 := Tryz.func138.trans (congrArg some (by kernel_rfl))
  f48 := Tryz.func139.trans (congrArg some (by kernel_rfl))
  f49 := ⟨"slices.medianAdjacentCmpFunc[loop.example/g01311/impl.Note]", by decide, Tryz.func140.trans (congrArg some (by kernel_rfl))⟩
  f50 := ⟨"slices.medianCmpFunc[loop.example/g01311/impl.Note]", by decide, Tryz.func141.trans (congrArg some (by kernel_rfl))⟩
  f57 := ⟨"slices.order2CmpFunc[loop.example/g01311/impl.Note]", by decide, Tryz.func145.trans (congrArg some (by kernel_rfl))⟩
  t0 := Tryz.underlying0
  a0 := Tryz.isAgg0
  z0 := Tryz.sizeOf0
  v0 := Tryz.zeroValue0
  t3 := Tryz.underlying3
  a3 := Tryz.isAgg3
  z3 := Tryz.sizeOf3
  v3 := Tryz.zeroValue3
  t4 := Tryz.underlying4
  a4 := Tryz.isAgg4
  z4 := Tryz.sizeOf4
  v4 := Tryz.zeroValue4
  t5 := Tryz.underlying5
  a5 := Tryz.isAgg5
  z5 := Tryz.sizeOf5
  v5 := Tryz.zeroValue5
  t9 := Tryz.underlying9
  a9 := Tryz.isAgg9
  z9 := Tryz.sizeOf9
  v9 := Tryz.zeroValue9
  t22 := Tryz.underlying24
  a22 := Tryz.isAgg24
  z22 := Tryz.sizeOf24
  v22 := Tryz.zeroValue24
  t25 := Tryz.underlying65
  a25 := Tryz.isAgg65
  z25 := Tryz.sizeOf65
  v25 := Tryz.zeroValue65
  t39 := Tryz.underlying112
  a39 := Tryz.isAgg112
  z39 := Tryz.sizeOf112
  v39 := Tryz.zeroValue112
  t45 := Tryz.underlying134
  a45 := Tryz.isAgg134
  z45 := Tryz.sizeOf134
  v45 := Tryz.zeroValue134
  t46 := Tryz.underlying135
  a46 := Tryz.isAgg135
  z46 := Tryz.sizeOf135
  v46 := Tryz.zeroValue135
  t50 := Tryz.underlying139
  a50 := Tryz.isAgg139
  z50 := Tryz.sizeOf139
  v50 := Tryz.zeroValue139
  t53 := Tryz.underlying142
  a53 := Tryz.isAgg142
  z53 := Tryz.sizeOf142
  v53 := Tryz.zeroValue142
  t55 := Tryz.underlying73
  a55 := Tryz.isAgg73
  z55 := Tryz.sizeOf73
  v55 := Tryz.zeroValue73
  t66 := Tryz.underlying155
  a66 := Tryz.isAgg155
  z66 := Tryz.sizeOf155
  v66 := Tryz.zeroValue155
  t70 := Tryz.underlying159
  a70 := Tryz.isAgg159
  z70 := Tryz.sizeOf159
  v70 := Tryz.zeroValue159
  t76 := Tryz.underlying168
  a76 := Tryz.isAgg168
  z76 := Tryz.sizeOf168
  v76 := Tryz.zeroValue168
  t77 := Tryz.underlying169
  a77 := Tryz.isAgg169
  z77 := Tryz.sizeOf169
  v77 := Tryz.zeroValue169

/-! ### a world behind w, and how many draws on -/
def AfterD (w : World) : Type := { u : World // Below w.heap.size w u ∧ ∃ q, u.drawn = w.drawn + q }
def AfterD.w {w : World} (x : AfterD w) : World := x.1
instance (w : World) : Nonempty (AfterD w) := ⟨⟨w, Below.refl _ _, 0, rfl⟩⟩
def AfterD.after {w : World} (x : AfterD w) : After w := ⟨x.1, x.2.1⟩
theorem AfterD.call_same {P : Program} {w : World} {x : AfterD w} {f : FuncId} {args : Array Value} {v : Value}
    (h : Calls P f args x.w fun e w' => e = .returned v ∧ x.w = w') :
    Calls P f args x.w fun e w'' => e = .returned v ∧ ∃ y : AfterD w, w'' = y.w := h.mono fun _ _ ⟨he, hb⟩ => ⟨he, x, hb.symm⟩

theorem region_tailD {P : Program} {id : Nat} {Q : Exit → Act → World → Prop} {a : Act} {w : World} {l : List Oper} (n : Nat) (hm : P.follows .mixedOrders = true) (hB : Region.lexTailB .any l.toArray n = true)
    (h : wpQuiet P l.toArray (fun w' => ∃ x : AfterD w, w' = x.w) (fun a' => ∀ w', (Below w.heap.size w w' ∧ ∃ q, w'.drawn = w.drawn + q) → wpList P l.toArray Q (l.drop n) a' w') (l.take n) a) : (Code.region id l.toArray true).wp P Q a w := by
  simp only [Region.lexTailB, Bool.and_eq_true, decide_eq_true_eq] at hB
  obtain ⟨⟨⟨⟨hsel, hn⟩, hs⟩, hc⟩, hlex⟩ := hB
  have hn' : n < l.length := by simpa using hn
  have htl : (l.take n).length = n := by simp; omega
  have hdl : (l.drop n).length = l.toArray.size - n := by simp
  have inv0 : HeadInv .any l.toArray n (Array.replicate l.toArray.size false) :=
    ⟨by simp, fun j oj _ hl => (by rw [getD_replicate_false] at hl; cases hl), fun t _ ht => getD_in (by simpa using ht) (getD_replicate_false _ _)⟩
  have H := wpAnyT_lex (md := .any) (g := l.toArray.size - n) hsel hs hc hn (l.take n) 0 _ a (fun j hj => by
    have hj' : j < n := by rw [htl] at hj; exact hj
    simp [hj']) (by simpa using htl) inv0 (by rw [htl]; exact hlex) h
  refine wp_region_any hm ?_
  have := wpAny_of_headT (C := fun w' => ∃ x : AfterD w, w' = x.w) (Q' := Q) (g := l.toArray.size - n) (fun listed a' w' hC hL => by
    obtain ⟨x, rfl⟩ := hC
    have := wpAny_of_seq (md := .any) (Q' := Q) (l.drop n) n listed a' x.w (fun j => by simp [List.getElem?_drop]) (by rw [hdl]; exact hL.1) (hL.2 _ x.2)
    rwa [hdl] at this) _ _ _ { w with drawn := w.drawn + 1 } ⟨⟨w.drew, (Below.refl _ _).drew, 1, rfl⟩, rfl⟩ H
  rw [htl, show n + (l.toArray.size - n) = l.toArray.size by omega] at this
  exact this

theorem c_compareG (a b : Int × Int) (w : World) :
    Calls Tryz.prog 49 #[.agg #[.int .i16 a.1, .int .i8 a.2], .agg #[.int .i16 b.1, .int .i8 b.2]] w fun e w' => e = .returned (.int .i64 (cmpN a b)) ∧ ∃ q os', w' = grow (w.drewN q) os' := by
  have hu := Tryz.underlying40
  go_enter Tryz.func49, Tryz.ntmps49
  go_wp2
  have x1 := fun x : AfterD ((w.alloc (.cells #[.int .i16 a.1, .int .i8 a.2] 40)).alloc (.cells #[.int .i16 b.1, .int .i8 b.2] 40)) => show x.w.cell? _ = _ from box2a (w := w) (cs := #[.int .i16 a.1, .int .i8 a.2]) (ds := #[.int .i16 b.1, .int .i8 b.2]) (t := 40) (u := 40) x.after (i := 0) rfl
  have x2 := fun x : AfterD ((w.alloc (.cells #[.int .i16 a.1, .int .i8 a.2] 40)).alloc (.cells #[.int .i16 b.1, .int .i8 b.2] 40)) => show x.w.cell? _ = _ from box2a (w := w) (cs := #[.int .i16 a.1, .int .i8 a.2]) (ds := #[.int .i16 b.1, .int .i8 b.2]) (t := 40) (u := 40) x.after (i := 1) rfl
  have x3 := fun x : AfterD ((w.alloc (.cells #[.int .i16 a.1, .int .i8 a.2] 40)).alloc (.cells #[.int .i16 b.1, .int .i8 b.2] 40)) => show x.w.cell? _ = _ from box2b (w := w) (cs := #[.int .i16 a.1, .int .i8 a.2]) (ds := #[.int .i16 b.1, .int .i8 b.2]) (t := 40) (u := 40) x.after (i := 0) rfl
  have x4 := fun x : AfterD ((w.alloc (.cells #[.int .i16 a.1, .int .i8 a.2] 40)).alloc (.cells #[.int .i16 b.1, .int .i8 b.2] 40)) => show x.w.cell? _ = _ from box2b (w := w) (cs := #[.int .i16 a.1, .int .i8 a.2]) (ds := #[.int .i16 b.1, .int .i8 b.2]) (t := 40) (u := 40) x.after (i := 1) rfl
  refine region_tailD 10 (by kernel_rfl) (by kernel_rfl) ?_
  simp only [List.take_succ_cons, List.take_zero, List.drop_succ_cons, List.drop_zero]
  repeat (go_big_quiet_step (first | (go_at_call 75; exact AfterD.call_same (c_Compare16 _ _ _)) | (go_at_call 76; exact AfterD.call_same (c_Compare8 _ _ _))))
  refine wpQuiet_nil ?_
  clear x1 x2 x3 x4
  rintro w2 ⟨hb2, q, hq⟩
  have hb : Below w.heap.size w w2 := bstep (balloc (balloc (Below.refl _ _) _) _) hb2
  have hd : w2.drawn = w.drawn + q := hq
  clear hb2 hq
  go_wp2_with fail
  refine (c_Or (some ⟨w2.heap.size, 0, none⟩) 2 [cmpI a.1 b.1, cmpI a.2 b.2] _ (Row.lit #[.int .i64 (cmpI a.1 b.1), .int .i64 (cmpI a.2 b.2)] _) (by simp)).mono ?_
  rintro e w' ⟨rfl, rfl⟩
  go_wp2
  go_ret
  obtain ⟨os, hos⟩ := grow_of_below (balloc hb (.cells #[.int .i64 (cmpI a.1 b.1), .int .i64 (cmpI a.2 b.2)] 3)) (q := q) hd
  exact ⟨ret_int (cmpN_first a b), q, os, hos⟩

theorem c_SortN (g c base : Nat) (l : List (Int × Int)) (w : World) (h : Own2 .i16 .i8 40 w base (.slice (some ⟨g, 0, none⟩) l.length c) l) (hn : l.length ≤ 1073741824) (hbw : base ≤ w.heap.size) :
    Calls Tryz.prog 78 #[.slice (some ⟨g, 0, none⟩) l.length c, .func (.func 49) #[] #[]] w fun e w' => e = .returned (.tuple #[]) ∧ Own2 .i16 .i8 40 w' base (.slice (some ⟨g, 0, none⟩) l.length c) (mergeN l) ∧ Below base w w' := by
  have hb := h.block
  have H := AnyQ.slices_SortFunc_total laySort 2 (fun w => by simp [laySort_ren]) (fun w => by simp [laySort_ren]) encN encN_len encN_one (fun x y => cmpN x y) swoN 49 #[] g 0 c l.toArray w
    (enters_of Tryz.func49 (by kernel_rfl) rfl)
    (fun m os dk hd x y => c_compareG x y _) (holds_own h) hb.2 (by simp; omega) (fun x y h1 h2 => by rw [ltOf_cmpN] at h1 h2; exact ltN_total h1 h2)
  have hsz : l.toArray.size = l.length := by simp
  rw [hsz] at H
  refine H.mono ?_
  rintro e w' ⟨he, n, os, rfl⟩
  have hm : (l.toArray.toList.mergeSort fun x y => !(ltOf fun x y => cmpN x y) y x) = mergeN l := by rw [ltOf_cmpN]; rfl
  rw [hm]
  exact ⟨he, own_sorted (mergeN_perm l).length_eq h, below_sorted hb.1 hbw⟩

end Go.Proofs.YtbdopmcjoncelaaGreatDoor
