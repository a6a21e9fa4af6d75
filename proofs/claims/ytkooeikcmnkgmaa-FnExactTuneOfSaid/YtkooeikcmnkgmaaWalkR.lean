/-
  The kit's contract of slices.SortFunc, laid at this program; notes in order by compareNotes.
-/
import Derived.Test.YtkooeikcmnkgmaaWalkC
import Derived.Test.YtkooeikcmnkgmaaDataL
import Derived.Shelf.SlLaysF0
namespace Go.Proofs.Ytkooeikcmnkgmaa
open Go.RowKit Go.Sort Go.Shelf
set_option linter.unusedVariables false
set_option linter.unusedSimpArgs false
set_option maxRecDepth 4000

/-! ### as the kit's command writes it -/
def laySort_ren : Go.Shelf.Ren := ⟨fun | 6 => 77 | 15 => 95 | 14 => 94 | 28 => 114 | 29 => 115 | 20 => 106 | 21 => 107 | 22 => 108 | 23 => 109 | 24 => 110 | 25 => 111 | 26 => 112 | 27 => 113 | 46 => 119 | 47 => 120 | 48 => 121 | 49 => 122 | 50 => 123 | 57 => 124 | n => n, fun | 22 => 24 | 24 => 62 | 25 => 97 | 3 => 3 | 39 => 119 | 0 => 0 | 53 => 46 | 55 => 140 | 4 => 4 | 46 => 132 | 45 => 131 | 50 => 136 | 5 => 5 | 9 => 9 | 66 => 145 | 70 => 149 | 76 => 151 | 77 => 152 | n => n, fun | n => n⟩
theorem laySort : Go.Proofs.SlLaysF0.n6 Try.prog laySort_ren where
  mixed := by kernel_rfl
  f6 := ⟨"slices.SortFunc[[]loop.example/g01311/impl.Note,loop.example/g01311/impl.Note]", by decide, Try.func77.trans (congrArg some (by kernel_rfl))⟩
  f14 := ⟨"slices.pdqsortCmpFunc[loop.example/g01311/impl.Note]", by decide, Try.func94.trans (congrArg some (by kernel_rfl))⟩
  f15 := Try.func95.trans (congrArg some (by kernel_rfl))
  f20 := ⟨"slices.insertionSortCmpFunc[loop.example/g01311/impl.Note]", by decide, Try.func106.trans (congrArg some (by kernel_rfl))⟩
  f21 := ⟨"slices.heapSortCmpFunc[loop.example/g01311/impl.Note]", by decide, Try.func107.trans (congrArg some (by kernel_rfl))⟩
  f22 := ⟨"slices.breakPatternsCmpFunc[loop.example/g01311/impl.Note]", by decide, Try.func108.trans (congrArg some (by kernel_rfl))⟩
  f23 := ⟨"slices.choosePivotCmpFunc[loop.example/g01311/impl.Note]", by decide, Try.func109.trans (congrArg some (by kernel_rfl))⟩
  f24 := ⟨"slices.reverseRangeCmpFunc[loop.example/g01311/impl.Note]", by decide, Try.func110.trans (congrArg some (by kernel_rfl))⟩
  f25 := ⟨"slices.partialInsertionSortCmpFunc[loop.example/g01311/impl.Note]", by decide, Try.func111.trans (congrArg some (by kernel_rfl))⟩
  f26 := ⟨"slices.partitionEqualCmpFunc[loop.example/g01311/impl.Note]", by decide, Try.func112.trans (congrArg some (by kernel_rfl))⟩
  f27 := ⟨"slices.partitionCmpFunc[loop.example/g01311/impl.Note]", by decide, Try.func113.trans (congrArg some (by kernel_rfl))⟩
  f28 := Try.func114.trans (congrArg some (by kernel_rfl))
  f29 := Try.func115.trans (congrArg some (by kernel_rfl))
  f46 := ⟨"slices.siftDownCmpFunc[loop.example/g01311/impl.Note]", by decide, Try.func119.trans (congrArg some (by kernel_rfl))⟩
  f47 := Try.func120.trans (congrArg some (by kernel_rfl))
  f48 := Try.func121.trans (congrArg some (by kernel_rfl))
  f49 := ⟨"slices.medianAdjacentCmpFunc[loop.example/g01311/impl.Note]", by decide, Try.func122.trans (congrArg some (by kernel_rfl))⟩
  f50 := ⟨"slices.medianCmpFunc[loop.example/g01311/impl.Note]", by decide, Try.func123.trans (congrArg some (by kernel_rfl))⟩
  f57 := ⟨"slices.order2CmpFunc[loop.example/g01311/impl.Note]", by decide, Try.func124.trans (congrArg some (by kernel_rfl))⟩
  t0 := Try.underlying0
  a0 := Try.isAgg0
  z0 := Try.sizeOf0
  v0 := Try.zeroValue0
  t3 := Try.underlying3
  a3 := Try.isAgg3
  z3 := Try.sizeOf3
  v3 := Try.zeroValue3
  t4 := Try.underlying4
  a4 := Try.isAgg4
  z4 := Try.sizeOf4
  v4 := Try.zeroValue4
  t5 := Try.underlying5
  a5 := Try.isAgg5
  z5 := Try.sizeOf5
  v5 := Try.zeroValue5
  t9 := Try.underlying9
  a9 := Try.isAgg9
  z9 := Try.sizeOf9
  v9 := Try.zeroValue9
  t22 := Try.underlying24
  a22 := Try.isAgg24
  z22 := Try.sizeOf24
  v22 := Try.zeroValue24
  t25 := Try.underlying97
  a25 := Try.isAgg97
  z25 := Try.sizeOf97
  v25 := Try.zeroValue97
  t39 := Try.underlying119
  a39 := Try.isAgg119
  z39 := Try.sizeOf119
  v39 := Try.zeroValue119
  t45 := Try.underlying131
  a45 := Try.isAgg131
  z45 := Try.sizeOf131
  v45 := Try.zeroValue131
  t46 := Try.underlying132
  a46 := Try.isAgg132
  z46 := Try.sizeOf132
  v46 := Try.zeroValue132
  t50 := Try.underlying136
  a50 := Try.isAgg136
  z50 := Try.sizeOf136
  v50 := Try.zeroValue136
  t53 := Try.underlying46
  a53 := Try.isAgg46
  z53 := Try.sizeOf46
  v53 := Try.zeroValue46
  t55 := Try.underlying140
  a55 := Try.isAgg140
  z55 := Try.sizeOf140
  v55 := Try.zeroValue140
  t66 := Try.underlying145
  a66 := Try.isAgg145
  z66 := Try.sizeOf145
  v66 := Try.zeroValue145
  t70 := Try.underlying149
  a70 := Try.isAgg149
  z70 := Try.sizeOf149
  v70 := Try.zeroValue149
  t76 := Try.underlying151
  a76 := Try.isAgg151
  z76 := Try.sizeOf151
  v76 := Try.zeroValue151
  t77 := Try.underlying152
  a77 := Try.isAgg152
  z77 := Try.sizeOf152
  v77 := Try.zeroValue152

/-! ### a world behind w, and how many draws on -/
def AfterD (w : World) : Type := { u : World // Below w.heap.size w u ∧ ∃ q, u.drawn = w.drawn + q }
def AfterD.w {w : World} (x : AfterD w) : World := x.1
instance (w : World) : Nonempty (AfterD w) := ⟨⟨w, Below.refl _ _, 0, rfl⟩⟩
def AfterD.after {w : World} (x : AfterD w) : After w := ⟨x.1, x.2.1⟩
theorem AfterD.call_same {P : Program} {w : World} {x : AfterD w} {f : FuncId} {args : Array Value} {v : Value}
    (h : Calls P f args x.w fun e w' => e = .returned v ∧ x.w = w') :
    Calls P f args x.w fun e w'' => e = .returned v ∧ ∃ y : AfterD w, w'' = y.w := h.mono fun _ _ ⟨he, hb⟩ => ⟨he, x, hb.symm⟩

theorem region_tailD {P : Program} {id : Nat} {Q : Exit → Act → World → Prop} {a : Act} {w : World} {l : List Oper} (n : Nat) (hm : P.follows .mixedOrders = true) (hB : Region.lexTailB .any l.toArray n = true)
    (h : wpQuiet P l.toArray (fun w' => ∃ x : AfterD w, w' = x.w) (fun a' => ∀ w', (Below w.heap.size w w' ∧ ∃ q, w'.drawn = w.drawn + q) → wpList P l.toArray Q (l.drop n) a' w') (l.take n) a) : (Code.region id l.toArray true).wp P Q a w := by
  simp only [Region.lexTailB, Bool.and_eq_true, decide_eq_true_eq] at hB
  obtain ⟨⟨⟨⟨hsel, hn⟩, hs⟩, hc⟩, hlex⟩ := hB
  have hn' : n < l.length := by simpa using hn
  have htl : (l.take n).length = n := by simp; omega
  have hdl : (l.drop n).length = l.toArray.size - n := by simp
  have inv0 : HeadInv .any l.toArray n (Array.replicate l.toArray.size false) :=
    ⟨by simp, fun j oj _ hl => (by rw [getD_replicate_false] at hl; cases hl), fun t _ ht => getD_in (by simpa using ht) (getD_replicate_false _ _)⟩
  have H := wpAnyT_lex (md := .any) (g := l.toArray.size - n) hsel hs hc hn (l.take n) 0 _ a (fun j hj => by
    have hj' : j < n := by rw [htl] at hj; exact hj
    simp [hj']) (by simpa using htl) inv0 (by rw [htl]; exact hlex) h
  refine wp_region_any hm ?_
  have := wpAny_of_headT (C := fun w' => ∃ x : AfterD w, w' = x.w) (Q' := Q) (g := l.toArray.size - n) (fun listed a' w' hC hL => by
    obtain ⟨x, rfl⟩ := hC
    have := wpAny_of_seq (md := .any) (Q' := Q) (l.drop n) n listed a' x.w (fun j => by simp [List.getElem?_drop]) (by rw [hdl]; exact hL.1) (hL.2 _ x.2)
    rwa [hdl] at this) _ _ _ { w with drawn := w.drawn + 1 } ⟨⟨w.drew, (Below.refl _ _).drew, 1, rfl⟩, rfl⟩ H
  rw [htl, show n + (l.toArray.size - n) = l.toArray.size by omega] at this
  exact this

theorem c_compareG (a b : Int × Int) (w : World) :
    Calls Try.prog 78 #[.agg #[.int .i16 a.1, .int .i8 a.2], .agg #[.int .i16 b.1, .int .i8 b.2]] w fun e w' => e = .returned (.int .i64 (cmpN a b)) ∧ ∃ q os', w' = grow (w.drewN q) os' := by
  have hu := Try.underlying62
  go_enter Try.func78, Try.ntmps78
  go_wp2
  have x1 := fun x : AfterD ((w.alloc (.cells #[.int .i16 a.1, .int .i8 a.2] 62)).alloc (.cells #[.int .i16 b.1, .int .i8 b.2] 62)) => show x.w.cell? _ = _ from box2a (w := w) (cs := #[.int .i16 a.1, .int .i8 a.2]) (ds := #[.int .i16 b.1, .int .i8 b.2]) (t := 62) (u := 62) x.after (i := 0) rfl
  have x2 := fun x : AfterD ((w.alloc (.cells #[.int .i16 a.1, .int .i8 a.2] 62)).alloc (.cells #[.int .i16 b.1, .int .i8 b.2] 62)) => show x.w.cell? _ = _ from box2a (w := w) (cs := #[.int .i16 a.1, .int .i8 a.2]) (ds := #[.int .i16 b.1, .int .i8 b.2]) (t := 62) (u := 62) x.after (i := 1) rfl
  have x3 := fun x : AfterD ((w.alloc (.cells #[.int .i16 a.1, .int .i8 a.2] 62)).alloc (.cells #[.int .i16 b.1, .int .i8 b.2] 62)) => show x.w.cell? _ = _ from box2b (w := w) (cs := #[.int .i16 a.1, .int .i8 a.2]) (ds := #[.int .i16 b.1, .int .i8 b.2]) (t := 62) (u := 62) x.after (i := 0) rfl
  have x4 := fun x : AfterD ((w.alloc (.cells #[.int .i16 a.1, .int .i8 a.2] 62)).alloc (.cells #[.int .i16 b.1, .int .i8 b.2] 62)) => show x.w.cell? _ = _ from box2b (w := w) (cs := #[.int .i16 a.1, .int .i8 a.2]) (ds := #[.int .i16 b.1, .int .i8 b.2]) (t := 62) (u := 62) x.after (i := 1) rfl
  refine region_tailD 10 (by kernel_rfl) (by kernel_rfl) ?_
  simp only [List.take_succ_cons, List.take_zero, List.drop_succ_cons, List.drop_zero]
  repeat (go_big_quiet_step (first | (go_at_call 97; exact AfterD.call_same (c_Compare16 _ _ _)) | (go_at_call 98; exact AfterD.call_same (c_Compare8 _ _ _))))
  refine wpQuiet_nil ?_
  clear x1 x2 x3 x4
  rintro w2 ⟨hb2, q, hq⟩
  have hb : Below w.heap.size w w2 := bstep (balloc (balloc (Below.refl _ _) _) _) hb2
  have hd : w2.drawn = w.drawn + q := hq
  clear hb2 hq
  go_wp2_with fail
  refine (c_Or (some ⟨w2.heap.size, 0, none⟩) 2 [cmpI a.1 b.1, cmpI a.2 b.2] _ (Row.lit #[.int .i64 (cmpI a.1 b.1), .int .i64 (cmpI a.2 b.2)] _) (by simp)).mono ?_
  rintro e w' ⟨rfl, rfl⟩
  go_wp2
  go_ret
  obtain ⟨os, hos⟩ := grow_of_below (balloc hb (.cells #[.int .i64 (cmpI a.1 b.1), .int .i64 (cmpI a.2 b.2)] 3)) (q := q) hd
  exact ⟨ret_int (cmpN_first a b), q, os, hos⟩

theorem c_SortN (g c base : Nat) (l : List (Int × Int)) (w : World) (h : Own2 .i16 .i8 62 w base (.slice (some ⟨g, 0, none⟩) l.length c) l) (hn : l.length ≤ 1073741824) (hbw : base ≤ w.heap.size) :
    Calls Try.prog 77 #[.slice (some ⟨g, 0, none⟩) l.length c, .func (.func 78) #[] #[]] w fun e w' => e = .returned (.tuple #[]) ∧ Own2 .i16 .i8 62 w' base (.slice (some ⟨g, 0, none⟩) l.length c) (mergeN l) ∧ Below base w w' := by
  have hb := h.block
  have H := AnyQ.slices_SortFunc_total laySort 2 (fun w => by simp [laySort_ren]) (fun w => by simp [laySort_ren]) encN encN_len encN_one (fun x y => cmpN x y) swoN 78 #[] g 0 c l.toArray w
    (enters_of Try.func78 (by kernel_rfl) rfl)
    (fun m os dk hd x y => c_compareG x y _) (holds_own h) hb.2 (by simp; omega) (fun x y h1 h2 => by rw [ltOf_cmpN] at h1 h2; exact ltN_total h1 h2)
  have hsz : l.toArray.size = l.length := by simp
  rw [hsz] at H
  refine H.mono ?_
  rintro e w' ⟨he, n, os, rfl⟩
  have hm : (l.toArray.toList.mergeSort fun x y => !(ltOf fun x y => cmpN x y) y x) = mergeN l := by rw [ltOf_cmpN]; rfl
  rw [hm]
  exact ⟨he, own_sorted (mergeN_perm l).length_eq h, below_sorted hb.1 hbw⟩

end Go.Proofs.Ytkooeikcmnkgmaa
