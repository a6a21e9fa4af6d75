/-
  The kit's contract of slices.SortFunc, laid at this program; notes in order by compareNotes.
-/
import Derived.Test.YtmdocjiljjbijaaWalkC
import Derived.Test.YtmdocjiljjbijaaDataL
import Derived.Shelf.SlLaysF0
namespace Go.Proofs.Ytmdocjiljjbijaa
open Go.RowKit Go.Sort Go.Shelf
set_option linter.unusedVariables false
set_option linter.unusedSimpArgs false
set_option maxRecDepth 4000

/-! ### as the kit's command writes it -/
def laySort_ren : Go.Shelf.Ren := ⟨fun | 6 => 68 | 15 => 78 | 14 => 77 | 28 => 89 | 29 => 90 | 20 => 81 | 21 => 82 | 22 => 83 | 23 => 84 | 24 => 85 | 25 => 86 | 26 => 87 | 27 => 88 | 46 => 91 | 47 => 92 | 48 => 93 | 49 => 94 | 50 => 95 | 57 => 96 | n => n, fun | 22 => 24 | 24 => 43 | 25 => 90 | 3 => 3 | 39 => 82 | 0 => 0 | 53 => 112 | 55 => 27 | 4 => 4 | 46 => 106 | 45 => 105 | 50 => 88 | 5 => 5 | 9 => 9 | 66 => 114 | 70 => 117 | 76 => 119 | 77 => 120 | n => n, fun | n => n⟩
theorem laySort : Go.Proofs.SlLaysF0.n6 Try.prog laySort_ren where
  mixed := by kernel_rfl
  f6 := ⟨"slices.SortFunc[[]loop.example/g01311/impl.Note,loop.example/g01311/impl.Note]", by decide, Try.func68.trans (congrArg some (by kernel_rfl))⟩
  f14 := ⟨"slices.pdqsortCmpFunc[loop.example/g01311/impl.Note]", by decide, Try.func77.trans (congrArg some (by kernel_rfl))⟩
  f15 := Try.func78.trans (congrArg some (by kernel_rfl))
  f20 := ⟨"slices.insertionSortCmpFunc[loop.example/g01311/impl.Note]", by decide, Try.func81.trans (congrArg some (by kernel_rfl))⟩
  f21 := ⟨"slices.heapSortCmpFunc[loop.example/g01311/impl.Note]", by decide, Try.func82.trans (congrArg some (by kernel_rfl))⟩
  f22 := ⟨"slices.breakPatternsCmpFunc[loop.example/g01311/impl.Note]", by decide, Try.func83.trans (congrArg some (by kernel_rfl))⟩
  f23 := ⟨"slices.choosePivotCmpFunc[loop.example/g01311/impl.Note]", by decide, Try.func84.trans (congrArg some (by kernel_rfl))⟩
  f24 := ⟨"slices.reverseRangeCmpFunc[loop.example/g01311/impl.Note]", by decide, Try.func85.trans (congrArg some (by kernel_rfl))⟩
  f25 := ⟨"slices.partialInsertionSortCmpFunc[loop.example/g01311/impl.Note]", by decide, Try.func86.trans (congrArg some (by kernel_rfl))⟩
  f26 := ⟨"slices.partitionEqualCmpFunc[loop.example/g01311/impl.Note]", by decide, Try.func87.trans (congrArg some (by kernel_rfl))⟩
  f27 := ⟨"slices.partitionCmpFunc[loop.example/g01311/impl.Note]", by decide, Try.func88.trans (congrArg some (by kernel_rfl))⟩
  f28 := Try.func89.trans (congrArg some (by kernel_rfl))
  f29 := Try.func90.trans (congrArg some (by kernel_rfl))
  f46 := ⟨"slices.siftDownCmpFunc[loop.example/g01311/impl.Note]", by decide, Try.func91.trans (congrArg some (by kernel_rfl))⟩
  f47 := Try.func92.trans (congrArg some (by kernel_rfl))
  f48 := Try.func93.trans (congrArg some (by kernel_rfl))
  f49 := ⟨"slices.medianAdjacentCmpFunc[loop.example/g01311/impl.Note]", by decide, Try.func94.trans (congrArg some (by kernel_rfl))⟩
  f50 := ⟨"slices.medianCmpFunc[loop.example/g01311/impl.Note]", by decide, Try.func95.trans (congrArg some (by kernel_rfl))⟩
  f57 := ⟨"slices.order2CmpFunc[loop.example/g01311/impl.Note]", by decide, Try.func96.trans (congrArg some (by kernel_rfl))⟩
  t0 := Try.underlying0
  a0 := Try.isAgg0
  z0 := Try.sizeOf0
  v0 := Try.zeroValue0
  t3 := Try.underlying3
  a3 := Try.isAgg3
  z3 := Try.sizeOf3
  v3 := Try.zeroValue3
  t4 := Try.underlying4
  a4 := Try.isAgg4
  z4 := Try.sizeOf4
  v4 := Try.zeroValue4
  t5 := Try.underlying5
  a5 := Try.isAgg5
  z5 := Try.sizeOf5
  v5 := Try.zeroValue5
  t9 := Try.underlying9
  a9 := Try.isAgg9
  z9 := Try.sizeOf9
  v9 := Try.zeroValue9
  t22 := Try.underlying24
  a22 := Try.isAgg24
  z22 := Try.sizeOf24
  v22 := Try.zeroValue24
  t25 := Try.underlying90
  a25 := Try.isAgg90
  z25 := Try.sizeOf90
  v25 := Try.zeroValue90
  t39 := Try.underlying82
  a39 := Try.isAgg82
  z39 := Try.sizeOf82
  v39 := Try.zeroValue82
  t45 := Try.underlying105
  a45 := Try.isAgg105
  z45 := Try.sizeOf105
  v45 := Try.zeroValue105
  t46 := Try.underlying106
  a46 := Try.isAgg106
  z46 := Try.sizeOf106
  v46 := Try.zeroValue106
  t50 := Try.underlying88
  a50 := Try.isAgg88
  z50 := Try.sizeOf88
  v50 := Try.zeroValue88
  t53 := Try.underlying112
  a53 := Try.isAgg112
  z53 := Try.sizeOf112
  v53 := Try.zeroValue112
  t55 := Try.underlying27
  a55 := Try.isAgg27
  z55 := Try.sizeOf27
  v55 := Try.zeroValue27
  t66 := Try.underlying114
  a66 := Try.isAgg114
  z66 := Try.sizeOf114
  v66 := Try.zeroValue114
  t70 := Try.underlying117
  a70 := Try.isAgg117
  z70 := Try.sizeOf117
  v70 := Try.zeroValue117
  t76 := Try.underlying119
  a76 := Try.isAgg119
  z76 := Try.sizeOf119
  v76 := Try.zeroValue119
  t77 := Try.underlying120
  a77 := Try.isAgg120
  z77 := Try.sizeOf120
  v77 := Try.zeroValue120

/-! ### a world behind w, and how many draws on -/
def AfterD (w : World) : Type := { u : World // Below w.heap.size w u ∧ ∃ q, u.drawn = w.drawn + q }
def AfterD.w {w : World} (x : AfterD w) : World := x.1
instance (w : World) : Nonempty (AfterD w) := ⟨⟨w, Below.refl _ _, 0, rfl⟩⟩
def AfterD.after {w : World} (x : AfterD w) : After w := ⟨x.1, x.2.1⟩
theorem AfterD.call_same {P : Program} {w : World} {x : AfterD w} {f : FuncId} {args : Array Value} {v : Value}
    (h : Calls P f args x.w fun e w' => e = .returned v ∧ x.w = w') :
    Calls P f args x.w fun e w'' => e = .returned v ∧ ∃ y : AfterD w, w'' = y.w := h.mono fun _ _ ⟨he, hb⟩ => ⟨he, x, hb.symm⟩

theorem region_tailD {P : Program} {id : Nat} {Q : Exit → Act → World → Prop} {a : Act} {w : World} {l : List Oper} (n : Nat) (hm : P.follows .mixedOrders = true) (hB : Region.lexTailB .any l.toArray n = true)
    (h : wpQuiet P l.toArray (fun w' => ∃ x : AfterD w, w' = x.w) (fun a' => ∀ w', (Below w.heap.size w w' ∧ ∃ q, w'.drawn = w.drawn + q) → wpList P l.toArray Q (l.drop n) a' w') (l.take n) a) : (Code.region id l.toArray true).wp P Q a w := by
  simp only [Region.lexTailB, Bool.and_eq_true, decide_eq_true_eq] at hB
  obtain ⟨⟨⟨⟨hsel, hn⟩, hs⟩, hc⟩, hlex⟩ := hB
  have hn' : n < l.length := by simpa using hn
  have htl : (l.take n).length = n := by simp; omega
  have hdl : (l.drop n).length = l.toArray.size - n := by simp
  have inv0 : HeadInv .any l.toArray n (Array.replicate l.toArray.size false) :=
    ⟨by simp, fun j oj _ hl => (by rw [getD_replicate_false] at hl; cases hl), fun t _ ht => getD_in (by simpa using ht) (getD_replicate_false _ _)⟩
  have H := wpAnyT_lex (md := .any) (g := l.toArray.size - n) hsel hs hc hn (l.take n) 0 _ a (fun j hj => by
    have hj' : j < n := by rw [htl] at hj; exact hj
    simp [hj']) (by simpa using htl) inv0 (by rw [htl]; exact hlex) h
  refine wp_region_any hm ?_
  have := wpAny_of_headT (C := fun w' => ∃ x : AfterD w, w' = x.w) (Q' := Q) (g := l.toArray.size - n) (fun listed a' w' hC hL => by
    obtain ⟨x, rfl⟩ := hC
    have := wpAny_of_seq (md := .any) (Q' := Q) (l.drop n) n listed a' x.w (fun j => by simp [List.getElem?_drop]) (by rw [hdl]; exact hL.1) (hL.2 _ x.2)
    rwa [hdl] at this) _ _ _ { w with drawn := w.drawn + 1 } ⟨⟨w.drew, (Below.refl _ _).drew, 1, rfl⟩, rfl⟩ H
  rw [htl, show n + (l.toArray.size - n) = l.toArray.size by omega] at this
  exact this

theorem c_compareG (a b : Int × Int) (w : World) :
    Calls Try.prog 64 #[.agg #[.int .i16 a.1, .int .i8 a.2], .agg #[.int .i16 b.1, .int .i8 b.2]] w fun e w' => e = .returned (.int .i64 (cmpN a b)) ∧ ∃ q os', w' = grow (w.drewN q) os' := by
  have hu := Try.underlying43
  go_enter Try.func64, Try.ntmps64
  go_wp2
  have x1 := fun x : AfterD ((w.alloc (.cells #[.int .i16 a.1, .int .i8 a.2] 43)).alloc (.cells #[.int .i16 b.1, .int .i8 b.2] 43)) => show x.w.cell? _ = _ from box2a (w := w) (cs := #[.int .i16 a.1, .int .i8 a.2]) (ds := #[.int .i16 b.1, .int .i8 b.2]) (t := 43) (u := 43) x.after (i := 0) rfl
  have x2 := fun x : AfterD ((w.alloc (.cells #[.int .i16 a.1, .int .i8 a.2] 43)).alloc (.cells #[.int .i16 b.1, .int .i8 b.2] 43)) => show x.w.cell? _ = _ from box2a (w := w) (cs := #[.int .i16 a.1, .int .i8 a.2]) (ds := #[.int .i16 b.1, .int .i8 b.2]) (t := 43) (u := 43) x.after (i := 1) rfl
  have x3 := fun x : AfterD ((w.alloc (.cells #[.int .i16 a.1, .int .i8 a.2] 43)).alloc (.cells #[.int .i16 b.1, .int .i8 b.2] 43)) => show x.w.cell? _ = _ from box2b (w := w) (cs := #[.int .i16 a.1, .int .i8 a.2]) (ds := #[.int .i16 b.1, .int .i8 b.2]) (t := 43) (u := 43) x.after (i := 0) rfl
  have x4 := fun x : AfterD ((w.alloc (.cells #[.int .i16 a.1, .int .i8 a.2] 43)).alloc (.cells #[.int .i16 b.1, .int .i8 b.2] 43)) => show x.w.cell? _ = _ from box2b (w := w) (cs := #[.int .i16 a.1, .int .i8 a.2]) (ds := #[.int .i16 b.1, .int .i8 b.2]) (t := 43) (u := 43) x.after (i := 1) rfl
  refine region_tailD 10 (by kernel_rfl) (by kernel_rfl) ?_
  simp only [List.take_succ_cons, List.take_zero, List.drop_succ_cons, List.drop_zero]
  repeat (go_big_quiet_step (first | (go_at_call 75; exact AfterD.call_same (c_Compare16 _ _ _)) | (go_at_call 76; exact AfterD.call_same (c_Compare8 _ _ _))))
  refine wpQuiet_nil ?_
  clear x1 x2 x3 x4
  rintro w2 ⟨hb2, q, hq⟩
  have hb : Below w.heap.size w w2 := bstep (balloc (balloc (Below.refl _ _) _) _) hb2
  have hd : w2.drawn = w.drawn + q := hq
  clear hb2 hq
  go_wp2_with fail
  refine (c_Or (some ⟨w2.heap.size, 0, none⟩) 2 [cmpI a.1 b.1, cmpI a.2 b.2] _ (Row.lit #[.int .i64 (cmpI a.1 b.1), .int .i64 (cmpI a.2 b.2)] _) (by simp)).mono ?_
  rintro e w' ⟨rfl, rfl⟩
  go_wp2
  go_ret
  obtain ⟨os, hos⟩ := grow_of_below (balloc hb (.cells #[.int .i64 (cmpI a.1 b.1), .int .i64 (cmpI a.2 b.2)] 3)) (q := q) hd
  exact ⟨ret_int (cmpN_first a b), q, os, hos⟩

theorem c_SortN (g c base : Nat) (l : List (Int × Int)) (w : World) (h : Own2 .i16 .i8 43 w base (.slice (some ⟨g, 0, none⟩) l.length c) l) (hn : l.length ≤ 1073741824) (hbw : base ≤ w.heap.size) :
    Calls Try.prog 68 #[.slice (some ⟨g, 0, none⟩) l.length c, .func (.func 64) #[] #[]] w fun e w' => e = .returned (.tuple #[]) ∧ Own2 .i16 .i8 43 w' base (.slice (some ⟨g, 0, none⟩) l.length c) (mergeN l) ∧ Below base w w' := by
  have hb := h.block
  have H := AnyQ.slices_SortFunc_total laySort 2 (fun w => by simp [laySort_ren]) (fun w => by simp [laySort_ren]) encN encN_len encN_one (fun x y => cmpN x y) swoN 64 #[] g 0 c l.toArray w
    (enters_of Try.func64 (by kernel_rfl) rfl)
    (fun m os dk hd x y => c_compareG x y _) (holds_own h) hb.2 (by simp; omega) (fun x y h1 h2 => by rw [ltOf_cmpN] at h1 h2; exact ltN_total h1 h2)
  have hsz : l.toArray.size = l.length := by simp
  rw [hsz] at H
  refine H.mono ?_
  rintro e w' ⟨he, n, os, rfl⟩
  have hm : (l.toArray.toList.mergeSort fun x y => !(ltOf fun x y => cmpN x y) y x) = mergeN l := by rw [ltOf_cmpN]; rfl
  rw [hm]
  exact ⟨he, own_sorted (mergeN_perm l).length_eq h, below_sorted hb.1 hbw⟩

end Go.Proofs.Ytmdocjiljjbijaa
