/-
  The kit's contract of slices.SortFunc, laid at this program; notes in order by compareNotes.
-/
import Derived.Test.YtnakdlfjjeligaaGreatWalkC
import Derived.Test.YtnakdlfjjeligaaGreatDataL
import Derived.Shelf.SlLaysF0
namespace Go.Proofs.YtnakdlfjjeligaaGreat
open Go.RowKit Go.Sort Go.Shelf
set_option linter.unusedVariables false
set_option linter.unusedSimpArgs false
set_option maxRecDepth 4000

/-! ### as the kit's command writes it -/
def laySort_ren : Go.Shelf.Ren := ⟨fun | 6 => 94 | 15 => 104 | 14 => 103 | 28 => 115 | 29 => 116 | 20 => 107 | 21 => 108 | 22 => 109 | 23 => 110 | 24 => 111 | 25 => 112 | 26 => 113 | 27 => 114 | 46 => 117 | 47 => 118 | 48 => 119 | 49 => 120 | 50 => 121 | 57 => 122 | n => n, fun | 22 => 37 | 24 => 111 | 25 => 123 | 3 => 3 | 39 => 62 | 0 => 0 | 53 => 29 | 55 => 48 | 4 => 4 | 46 => 139 | 45 => 138 | 50 => 143 | 5 => 5 | 9 => 9 | 66 => 146 | 70 => 150 | 76 => 152 | 77 => 153 | n => n, fun | n => n⟩
theorem laySort : Go.Proofs.SlLaysF0.n6 Tryz.prog laySort_ren where
  mixed := by kernel_rfl
  f6 := ⟨"slices.SortFunc[[]loop.example/g01311/impl.Note,loop.example/g01311/impl.Note]", by decide, Tryz.func94.trans (congrArg some (by kernel_rfl))⟩
  f14 := ⟨"slices.pdqsortCmpFunc[loop.example/g01311/impl.Note]", by decide, Tryz.func103.trans (congrArg some (by kernel_rfl))⟩
  f15 := Tryz.func104.trans (congrArg some (by kernel_rfl))
  f20 := ⟨"slices.insertionSortCmpFunc[loop.example/g01311/impl.Note]", by decide, Tryz.func107.trans (congrArg some (by kernel_rfl))⟩
  f21 := ⟨"slices.heapSortCmpFunc[loop.example/g01311/impl.Note]", by decide, Tryz.func108.trans (congrArg some (by kernel_rfl))⟩
  f22 := ⟨"slices.breakPatternsCmpFunc[loop.example/g01311/impl.Note]", by decide, Tryz.func109.trans (congrArg some (by kernel_rfl))⟩
  f23 := ⟨"slices.choosePivotCmpFunc[loop.example/g01311/impl.Note]", by decide, Tryz.func110.trans (congrArg some (by kernel_rfl))⟩
  f24 := ⟨"slices.reverseRangeCmpFunc[loop.example/g01311/impl.Note]", by decide, Tryz.func111.trans (congrArg some (by kernel_rfl))⟩
  f25 := ⟨"slices.partialInsertionSortCmpFunc[loop.example/g01311/impl.Note]", by decide, Tryz.func112.trans (congrArg some (by kernel_rfl))⟩
  f26 := ⟨"slices.partitionEqualCmpFunc[loop.example/g01311/impl.Note]", by decide, Tryz.func113.trans (congrArg some (by kernel_rfl))⟩
  f27 := ⟨"slices.partitionCmpFunc[loop.example/g01311/impl.Note]", by decide, Tryz.func114.trans (congrArg some (by kernel_rfl))⟩
  f28 := Tryz.func115.trans (congrArg some (by kernel_rfl))
  f29 := Tryz.func116.trans (congrArg some (by kernel_rfl))
  f46 := ⟨"slices.siftDownCmpFunc[loop.example/g01311/impl.Note]", by decide, Tryz.func117.trans (congrArg some (by kernel_rfl))⟩
  f47 := Tryz.func118.trans (congrArg some (by kernel_rfl))
  f48 := Tryz.func119.trans (congrArg some (by kernel_rfl))
  f49 := ⟨"slices.medianAdjacentCmpFunc[loop.example/g01311/impl.Note]", by decide, Tryz.func120.trans (congrArg some (by kernel_rfl))⟩
  f50 := ⟨"slices.medianCmpFunc[loop.example/g01311/impl.Note]", by decide, Tryz.func121.trans (congrArg some (by kernel_rfl))⟩
  f57 := ⟨"slices.order2CmpFunc[loop.example/g01311/impl.Note]", by decide, Tryz.func122.trans (congrArg some (by kernel_rfl))⟩
  t0 := Tryz.underlying0
  a0 := Tryz.isAgg0
  z0 := Tryz.sizeOf0
  v0 := Tryz.zeroValue0
  t3 := Tryz.underlying3
  a3 := Tryz.isAgg3
  z3 := Tryz.sizeOf3
  v3 := Tryz.zeroValue3
  t4 := Tryz.underlying4
  a4 := Tryz.isAgg4
  z4 := Tryz.sizeOf4
  v4 := Tryz.zeroValue4
  t5 := Tryz.underlying5
  a5 := Tryz.isAgg5
  z5 := Tryz.sizeOf5
  v5 := Tryz.zeroValue5
  t9 := Tryz.underlying9
  a9 := Tryz.isAgg9
  z9 := Tryz.sizeOf9
  v9 := Tryz.zeroValue9
  t22 := Tryz.underlying37
  a22 := Tryz.isAgg37
  z22 := Tryz.sizeOf37
  v22 := Tryz.zeroValue37
  t25 := Tryz.underlying123
  a25 := Tryz.isAgg123
  z25 := Tryz.sizeOf123
  v25 := Tryz.zeroValue123
  t39 := Tryz.underlying62
  a39 := Tryz.isAgg62
  z39 := Tryz.sizeOf62
  v39 := Tryz.zeroValue62
  t45 := Tryz.underlying138
  a45 := Tryz.isAgg138
  z45 := Tryz.sizeOf138
  v45 := Tryz.zeroValue138
  t46 := Tryz.underlying139
  a46 := Tryz.isAgg139
  z46 := Tryz.sizeOf139
  v46 := Tryz.zeroValue139
  t50 := Tryz.underlying143
  a50 := Tryz.isAgg143
  z50 := Tryz.sizeOf143
  v50 := Tryz.zeroValue143
  t53 := Tryz.underlying29
  a53 := Tryz.isAgg29
  z53 := Tryz.sizeOf29
  v53 := Tryz.zeroValue29
  t55 := Tryz.underlying48
  a55 := Tryz.isAgg48
  z55 := Tryz.sizeOf48
  v55 := Tryz.zeroValue48
  t66 := Tryz.underlying146
  a66 := Tryz.isAgg146
  z66 := Tryz.sizeOf146
  v66 := Tryz.zeroValue146
  t70 := Tryz.underlying150
  a70 := Tryz.isAgg150
  z70 := Tryz.sizeOf150
  v70 := Tryz.zeroValue150
  t76 := Tryz.underlying152
  a76 := Tryz.isAgg152
  z76 := Tryz.sizeOf152
  v76 := Tryz.zeroValue152
  t77 := Tryz.underlying153
  a77 := Tryz.isAgg153
  z77 := Tryz.sizeOf153
  v77 := Tryz.zeroValue153

/-! ### a world behind w, and how many draws on -/
def AfterD (w : World) : Type := { u : World // Below w.heap.size w u ∧ ∃ q, u.drawn = w.drawn + q }
def AfterD.w {w : World} (x : AfterD w) : World := x.1
instance (w : World) : Nonempty (AfterD w) := ⟨⟨w, Below.refl _ _, 0, rfl⟩⟩
def AfterD.after {w : World} (x : AfterD w) : After w := ⟨x.1, x.2.1⟩
theorem AfterD.call_same {P : Program} {w : World} {x : AfterD w} {f : FuncId} {args : Array Value} {v : Value}
    (h : Calls P f args x.w fun e w' => e = .returned v ∧ x.w = w') :
    Calls P f args x.w fun e w'' => e = .returned v ∧ ∃ y : AfterD w, w'' = y.w := h.mono fun _ _ ⟨he, hb⟩ => ⟨he, x, hb.symm⟩

theorem region_tailD {P : Program} {id : Nat} {Q : Exit → Act → World → Prop} {a : Act} {w : World} {l : List Oper} (n : Nat) (hm : P.follows .mixedOrders = true) (hB : Region.lexTailB .any l.toArray n = true)
    (h : wpQuiet P l.toArray (fun w' => ∃ x : AfterD w, w' = x.w) (fun a' => ∀ w', (Below w.heap.size w w' ∧ ∃ q, w'.drawn = w.drawn + q) → wpList P l.toArray Q (l.drop n) a' w') (l.take n) a) : (Code.region id l.toArray true).wp P Q a w := by
  simp only [Region.lexTailB, Bool.and_eq_true, decide_eq_true_eq] at hB
  obtain ⟨⟨⟨⟨hsel, hn⟩, hs⟩, hc⟩, hlex⟩ := hB
  have hn' : n < l.length := by simpa using hn
  have htl : (l.take n).length = n := by simp; omega
  have hdl : (l.drop n).length = l.toArray.size - n := by simp
  have inv0 : HeadInv .any l.toArray n (Array.replicate l.toArray.size false) :=
    ⟨by simp, fun j oj _ hl => (by rw [getD_replicate_false] at hl; cases hl), fun t _ ht => getD_in (by simpa using ht) (getD_replicate_false _ _)⟩
  have H := wpAnyT_lex (md := .any) (g := l.toArray.size - n) hsel hs hc hn (l.take n) 0 _ a (fun j hj => by
    have hj' : j < n := by rw [htl] at hj; exact hj
    simp [hj']) (by simpa using htl) inv0 (by rw [htl]; exact hlex) h
  refine wp_region_any hm ?_
  have := wpAny_of_headT (C := fun w' => ∃ x : AfterD w, w' = x.w) (Q' := Q) (g := l.toArray.size - n) (fun listed a' w' hC hL => by
    obtain ⟨x, rfl⟩ := hC
    have := wpAny_of_seq (md := .any) (Q' := Q) (l.drop n) n listed a' x.w (fun j => by simp [List.getElem?_drop]) (by rw [hdl]; exact hL.1) (hL.2 _ x.2)
    rwa [hdl] at this) _ _ _ { w with drawn := w.drawn + 1 } ⟨⟨w.drew, (Below.refl _ _).drew, 1, rfl⟩, rfl⟩ H
  rw [htl, show n + (l.toArray.size - n) = l.toArray.size by omega] at this
  exact this

theorem c_compareG (a b : Int × Int) (w : World) :
    Calls Tryz.prog 92 #[.agg #[.int .i16 a.1, .int .i8 a.2], .agg #[.int .i16 b.1, .int .i8 b.2]] w fun e w' => e = .returned (.int .i64 (cmpN a b)) ∧ ∃ q os', w' = grow (w.drewN q) os' := by
  have hu := Tryz.underlying111
  go_enter Tryz.func92, Tryz.ntmps92
  go_wp2
  have x1 := fun x : AfterD ((w.alloc (.cells #[.int .i16 a.1, .int .i8 a.2] 111)).alloc (.cells #[.int .i16 b.1, .int .i8 b.2] 111)) => show x.w.cell? _ = _ from box2a (w := w) (cs := #[.int .i16 a.1, .int .i8 a.2]) (ds := #[.int .i16 b.1, .int .i8 b.2]) (t := 111) (u := 111) x.after (i := 0) rfl
  have x2 := fun x : AfterD ((w.alloc (.cells #[.int .i16 a.1, .int .i8 a.2] 111)).alloc (.cells #[.int .i16 b.1, .int .i8 b.2] 111)) => show x.w.cell? _ = _ from box2a (w := w) (cs := #[.int .i16 a.1, .int .i8 a.2]) (ds := #[.int .i16 b.1, .int .i8 b.2]) (t := 111) (u := 111) x.after (i := 1) rfl
  have x3 := fun x : AfterD ((w.alloc (.cells #[.int .i16 a.1, .int .i8 a.2] 111)).alloc (.cells #[.int .i16 b.1, .int .i8 b.2] 111)) => show x.w.cell? _ = _ from box2b (w := w) (cs := #[.int .i16 a.1, .int .i8 a.2]) (ds := #[.int .i16 b.1, .int .i8 b.2]) (t := 111) (u := 111) x.after (i := 0) rfl
  have x4 := fun x : AfterD ((w.alloc (.cells #[.int .i16 a.1, .int .i8 a.2] 111)).alloc (.cells #[.int .i16 b.1, .int .i8 b.2] 111)) => show x.w.cell? _ = _ from box2b (w := w) (cs := #[.int .i16 a.1, .int .i8 a.2]) (ds := #[.int .i16 b.1, .int .i8 b.2]) (t := 111) (u := 111) x.after (i := 1) rfl
  refine region_tailD 10 (by kernel_rfl) (by kernel_rfl) ?_
  simp only [List.take_succ_cons, List.take_zero, List.drop_succ_cons, List.drop_zero]
  repeat (go_big_quiet_step (first | (go_at_call 101; exact AfterD.call_same (c_Compare16 _ _ _)) | (go_at_call 102; exact AfterD.call_same (c_Compare8 _ _ _))))
  refine wpQuiet_nil ?_
  clear x1 x2 x3 x4
  rintro w2 ⟨hb2, q, hq⟩
  have hb : Below w.heap.size w w2 := bstep (balloc (balloc (Below.refl _ _) _) _) hb2
  have hd : w2.drawn = w.drawn + q := hq
  clear hb2 hq
  go_wp2_with fail
  refine (c_Or (some ⟨w2.heap.size, 0, none⟩) 2 [cmpI a.1 b.1, cmpI a.2 b.2] _ (Row.lit #[.int .i64 (cmpI a.1 b.1), .int .i64 (cmpI a.2 b.2)] _) (by simp)).mono ?_
  rintro e w' ⟨rfl, rfl⟩
  go_wp2
  go_ret
  obtain ⟨os, hos⟩ := grow_of_below (balloc hb (.cells #[.int .i64 (cmpI a.1 b.1), .int .i64 (cmpI a.2 b.2)] 3)) (q := q) hd
  exact ⟨ret_int (cmpN_first a b), q, os, hos⟩

theorem c_SortN (g c base : Nat) (l : List (Int × Int)) (w : World) (h : Own2 .i16 .i8 111 w base (.slice (some ⟨g, 0, none⟩) l.length c) l) (hn : l.length ≤ 1073741824) (hbw : base ≤ w.heap.size) :
    Calls Tryz.prog 94 #[.slice (some ⟨g, 0, none⟩) l.length c, .func (.func 92) #[] #[]] w fun e w' => e = .returned (.tuple #[]) ∧ Own2 .i16 .i8 111 w' base (.slice (some ⟨g, 0, none⟩) l.length c) (mergeN l) ∧ Below base w w' := by
  have hb := h.block
  have H := AnyQ.slices_SortFunc_total laySort 2 (fun w => by simp [laySort_ren]) (fun w => by simp [laySort_ren]) encN encN_len encN_one (fun x y => cmpN x y) swoN 92 #[] g 0 c l.toArray w
    (enters_of Tryz.func92 (by kernel_rfl) rfl)
    (fun m os dk hd x y => c_compareG x y _) (holds_own h) hb.2 (by simp; omega) (fun x y h1 h2 => by rw [ltOf_cmpN] at h1 h2; exact ltN_total h1 h2)
  have hsz : l.toArray.size = l.length := by simp
  rw [hsz] at H
  refine H.mono ?_
  rintro e w' ⟨he, n, os, rfl⟩
  have hm : (l.toArray.toList.mergeSort fun x y => !(ltOf fun x y => cmpN x y) y x) = mergeN l := by rw [ltOf_cmpN]; rfl
  rw [hm]
  exact ⟨he, own_sorted (mergeN_perm l).length_eq h, below_sorted hb.1 hbw⟩

end Go.Proofs.YtnakdlfjjeligaaGreat
