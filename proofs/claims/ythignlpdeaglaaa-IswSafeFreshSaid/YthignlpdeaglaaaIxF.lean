/-
  The functions, as they are over abstract values. Printed by gen.py.
-/
import Derived.Test.YthignlpdeaglaaaLoF
import Derived.Test.YthignlpdeaglaaaItF
set_option linter.unusedVariables false
namespace Go.Abs
noncomputable section
namespace isw_order
def C : Tab := Tab.none
@[simp] def r0 (fr : AFr) (H : AHeap) : ARes :=
 areg (e' [(0, fr 0)] H)
@[simp] def r1 (fr : AFr) (H : AHeap) : ARes :=
 areg (q' (bn' .geq (fr 0) (.int .i64 0)) H ⟨fun v4 H =>
 G' v4 true ⟨some (fr 0)⟩ H ⟨fun v6 H =>
 G' v4 true ⟨bn' .leq v6 (.int .i64 6)⟩ H ⟨fun v7 H =>
 q' (apick v4 v7 (.bool false)) H ⟨fun v8 H =>
 e' [(2, v8)] H⟩⟩⟩⟩)
@[simp] def body (fr : AFr) (H : AHeap) : ARes :=
  s' (r0 fr H) ⟨fun fr H =>
 s' (r1 fr H) ⟨fun fr H =>
 some (.ret, fr, H)⟩⟩
@[simp] def res (fr : AFr) (H : AHeap) : Option (List AV) := res2 (some (fr 2)) (some [])
end isw_order
def isw_order (a0 : AV) : Option AV := closeUpR (some [[none]]) (afinR isw_order.res (isw_order.body (args0 [a0]) AHeap.empty))
def isw_order.spec : List AV → Option AV
  | [a0] => isw_order a0
  | _ => none
namespace isw_And_1
def C : Tab := Tab.none
@[simp] def r0 (fr : AFr) (H : AHeap) : ARes :=
 areg (e' [(0, fr 0), (1, fr 1)] H)
@[simp] def r1 (fr : AFr) (H : AHeap) : ARes :=
 areg (q' (ld' (fr 1) H) H ⟨fun v4 H =>
 q' (bn' .add v4 (.int .i64 1)) H ⟨fun v5 H =>
 q' (bn' .add v5 (fr 0)) H ⟨fun v7 H =>
 e' [(3, v7)] H⟩⟩⟩)
@[simp] def body (fr : AFr) (H : AHeap) : ARes :=
  s' (r0 fr H) ⟨fun fr H =>
 s' (r1 fr H) ⟨fun fr H =>
 some (.ret, fr, H)⟩⟩
@[simp] def res (fr : AFr) (H : AHeap) : Option (List AV) := res2 (some (fr 3)) (some [])
end isw_And_1
def isw_And_1 (a0 a1 : AV) (H : AHeap) : Option (AV × AHeap) := forget H (afinR isw_And_1.res (isw_And_1.body (args0 [a0, a1]) H))
def isw_And_1.spec : List AV → AHeap → Option (AV × AHeap)
  | [a0, a1], H => isw_And_1 a0 a1 H
  | _, _ => none
namespace isw_maker_add
def C : Tab := Tab.none
@[simp] def r0 (fr : AFr) (H : AHeap) : ARes :=
 areg (e' [(0, fr 0), (1, fr 1), (2, fr 2)] H)
@[simp] def r1 (fr : AFr) (H : AHeap) : ARes :=
 areg (q' (abuildR (.str [(.int .i64 0), (.int .i64 0), (.int .i64 0), (W32 0#32)] [(0, 1), (1, 1), (2, 1), (3, 1)]) [(0, (fr 1))]) H ⟨fun v11 H =>
 o' (aallocR T.ty_api_Op (some (.agg [(.int .i64 0), (.int .i64 0), (.int .i64 0), (W32 0#32)])) H) ⟨fun v7 H =>
 w' (astoreR (some 4) v7 v11 H) ⟨fun _ H =>
 e' [(0, fr 0), (2, fr 2), (7, v7)] H⟩⟩⟩)
@[simp] def r2 (fr : AFr) (H : AHeap) : ARes :=
 areg (q' (alenR .sl (fr 2)) H ⟨fun v13 H =>
 e' [(0, fr 0), (7, fr 7), (12, (fr 2)), (13, v13), (14, (.int .i64 0))] H⟩)
@[simp] def r3 (fr : AFr) (H : AHeap) : ARes :=
 areg (q' (bn' .lss (fr 14) (fr 13)) H ⟨fun v15 H =>
 e' [(0, fr 0), (7, fr 7), (12, fr 12), (13, fr 13), (14, fr 14), (15, v15)] H⟩)
@[simp] def r4 (fr : AFr) (H : AHeap) : ARes :=
 areg (q' (aindexAddrR (.sl 1) (fr 12) (fr 14)) H ⟨fun v17 H =>
 q' (ld' v17 H) H ⟨fun v18 H =>
 e' [(0, fr 0), (7, fr 7), (8, (fr 14)), (9, v18), (12, fr 12), (13, fr 13), (14, fr 14)] H⟩⟩)
@[simp] def r5 (fr : AFr) (H : AHeap) : ARes :=
 areg (q' (bn' .eql (fr 8) (.int .i64 0)) H ⟨fun v20 H =>
 e' [(0, fr 0), (7, fr 7), (9, fr 9), (12, fr 12), (13, fr 13), (14, fr 14), (20, v20)] H⟩)
@[simp] def r6 (fr : AFr) (H : AHeap) : ARes :=
 areg (q' (fa' 1 (fr 7)) H ⟨fun v22 H =>
 w' (astoreR (some 1) v22 (fr 9) H) ⟨fun _ H =>
 e' [(0, fr 0), (7, fr 7), (12, fr 12), (13, fr 13), (14, fr 14)] H⟩⟩)
@[simp] def r7 (fr : AFr) (H : AHeap) : ARes :=
 areg (q' (fa' 2 (fr 7)) H ⟨fun v24 H =>
 w' (astoreR (some 1) v24 (fr 9) H) ⟨fun _ H =>
 e' [(0, fr 0), (7, fr 7), (12, fr 12), (13, fr 13), (14, fr 14)] H⟩⟩)
@[simp] def r8 (fr : AFr) (H : AHeap) : ARes :=
 areg (q' (bn' .add (fr 14) (.int .i64 1)) H ⟨fun v25 H =>
 e' [(0, fr 0), (7, fr 7), (12, fr 12), (13, fr 13), (14, v25)] H⟩)
@[simp] def r9 (fr : AFr) (H : AHeap) : ARes :=
 areg (q' (some (fr 0)) H ⟨fun v26 H1 =>
 q' (some (fr 0)) H1 ⟨fun v27 H2 =>
 q' (anil v27) H2 ⟨fun v28 H3 =>
 q' (fa' 0 v28) H3 ⟨fun v29 H4 =>
 q' (fa' 1 v29) H4 ⟨fun v30 H5 =>
 q' (ld' v30 H5) H5 ⟨fun v31 H6 =>
 q' (Ld' 4 (fr 7) H6) H6 ⟨fun v32 H7 =>
 o' (abuildSliceR (some ⟨T.ty_api_Op, 4, 32, [(.int .i64 0), (.int .i64 0), (.int .i64 0), (W32 0#32)]⟩) 1 [(0, v32)] H7) ⟨fun v33 H8 =>
 o' (aappendR (some ⟨T.ty_api_Op, 4, 32, [(.int .i64 0), (.int .i64 0), (.int .i64 0), (W32 0#32)]⟩) v31 v33 H8) ⟨fun v34 H9 =>
 q' (anil v26) H9 ⟨fun v35 H10 =>
 q' (fa' 0 v35) H10 ⟨fun v36 H11 =>
 q' (fa' 1 v36) H11 ⟨fun v37 H12 =>
 w' (astoreR (some 1) v37 v34 H12) ⟨fun _ H13 =>
 e' [(0, fr 0)] H13⟩⟩⟩⟩⟩⟩⟩⟩⟩⟩⟩⟩⟩)
@[simp] def r10 (fr : AFr) (H : AHeap) : ARes :=
 areg (q' (some (fr 0)) H ⟨fun v38 H1 =>
 q' (anil v38) H1 ⟨fun v39 H2 =>
 q' (fa' 0 v39) H2 ⟨fun v40 H3 =>
 q' (fa' 0 v40) H3 ⟨fun v41 H4 =>
 q' (ld' v41 H4) H4 ⟨fun v42 H5 =>
 q' (some (fr 0)) H5 ⟨fun v43 H6 =>
 q' (anil v43) H6 ⟨fun v44 H7 =>
 q' (fa' 0 v44) H7 ⟨fun v45 H8 =>
 q' (fa' 1 v45) H8 ⟨fun v46 H9 =>
 q' (ld' v46 H9) H9 ⟨fun v47 H10 =>
 q' (alenR .sl v47) H10 ⟨fun v48 H11 =>
 q' (bn' .add v42 v48) H11 ⟨fun v49 H12 =>
 q' (bn' .sub v49 (.int .i64 1)) H12 ⟨fun v50 H13 =>
 q' (some v50) H13 ⟨fun v6 H14 =>
 e' [(6, v6)] H14⟩⟩⟩⟩⟩⟩⟩⟩⟩⟩⟩⟩⟩⟩)
def l0 (fr : AFr) (H : AHeap) : ARes :=
  s' (r3 fr H) ⟨fun fr H =>
 s' (c' (fr 15)
 ⟨some (.normal, fr, H)⟩
 ⟨some (.exit 0, fr, H)⟩) ⟨fun fr H =>
 s' (aexit 1 (s' (r4 fr H) ⟨fun fr H =>
 s' (r5 fr H) ⟨fun fr H =>
 c' (fr 20)
 ⟨r6 fr H⟩
 ⟨r7 fr H⟩⟩⟩)) ⟨fun fr H =>
 r8 fr H⟩⟩⟩
@[simp] def body (fr : AFr) (H : AHeap) : ARes :=
  s' (r0 fr H) ⟨fun fr H =>
 s' (r1 fr H) ⟨fun fr H =>
 s' (s' (r2 fr H) ⟨fun fr H =>
  aexit 0 (aloop (l0) fr H)⟩) ⟨fun fr H =>
 s' (r9 fr H) ⟨fun fr H =>
 s' (r10 fr H) ⟨fun fr H =>
 some (.ret, fr, H)⟩⟩⟩⟩⟩
@[simp] def res (fr : AFr) (H : AHeap) : Option (List AV) := res2 (some (fr 6)) (some [])
end isw_maker_add
def isw_maker_add (a0 a1 a2 : AV) (H : AHeap) : Option (AV × AHeap) := raw (afinR isw_maker_add.res (isw_maker_add.body (args0 [a0, a1, a2]) H))
def isw_maker_add.spec : List AV → AHeap → Option (AV × AHeap)
  | [a0, a1, a2], H => isw_maker_add a0 a1 a2 H
  | _, _ => none
namespace isw_pairs
def C : Tab := Tab.none
@[simp] def r0 (fr : AFr) (H : AHeap) : ARes :=
 areg (o' (abox T.ty_int (fr 0) H) ⟨fun v1 H =>
 e' [(1, v1)] H⟩)
@[simp] def r1 (fr : AFr) (H : AHeap) : ARes :=
 areg (q' (some (.clo 68 [] [(fr 1)])) H ⟨fun v3 H =>
 e' [(2, v3)] H⟩)
@[simp] def body (fr : AFr) (H : AHeap) : ARes :=
  s' (r0 fr H) ⟨fun fr H =>
 s' (r1 fr H) ⟨fun fr H =>
 some (.ret, fr, H)⟩⟩
@[simp] def res (fr : AFr) (H : AHeap) : Option (List AV) := res2 (some (fr 2)) (some [])
end isw_pairs
def isw_pairs (a0 : AV) (H : AHeap) : Option (AV × AHeap) := raw (afinR isw_pairs.res (isw_pairs.body (args0 [a0]) H))
def isw_pairs.spec : List AV → AHeap → Option (AV × AHeap)
  | [a0], H => isw_pairs a0 H
  | _, _ => none
namespace isw_And
def C (s0 : SpecP) (s1 s2 : SpecM) (s3 : SpecI) (s4 : SpecM) : Tab := (((((Tab.none.add 50 (.pure false s0)).add 52 (.ref [false, false, true] s1)).add 53 (.ref [false] s2)).add 68 (.iter s3)).add 51 (.ref [false] s4))
@[simp] def r0 (fr : AFr) (H : AHeap) : ARes :=
 areg (o' (abox T.ty_int (fr 0) H) ⟨fun v1 H =>
 o' (aallocR T.ty_api_Code (some (.agg [(.int .i64 0), .nils, .nils])) H) ⟨fun v2 H =>
 e' [(1, v1), (2, v2)] H⟩⟩)
@[simp] def r1 (s0 : SpecP) (fr : AFr) (H : AHeap) : ARes :=
 areg (q' (ld' (fr 1) H) H ⟨fun v12 H =>
 o' (callP false s0 [[none]] [v12] H) ⟨fun v13 H =>
 q' (aun .not v13) H ⟨fun v14 H =>
 e' [(1, fr 1), (2, fr 2), (14, v14)] H⟩⟩⟩)
@[simp] def r2 (fr : AFr) (H : AHeap) : ARes :=
 areg (q' (abuildR (.str [(.int .i64 0), .nils, .nils] [(0, 1), (1, 1), (2, 1)]) []) H ⟨fun v15 H =>
 w' (astoreR (some 3) (fr 2) v15 H) ⟨fun _ H =>
 e' [(2, fr 2), (3, (.int .i64 1))] H⟩⟩)
@[simp] def r3 (fr : AFr) (H : AHeap) : ARes :=
 areg (q' (ld' (fr 1) H) H ⟨fun v16 H =>
 q' (bn' .add v16 (.int .i64 1)) H ⟨fun v17 H =>
 q' (bn' .mul (.int .i64 2) v17) H ⟨fun v18 H =>
 q' (abuildR (.str [(.int .i64 0), .nils, .nils] [(0, 1), (1, 1), (2, 1)]) [(0, v18)]) H ⟨fun v19 H =>
 q' (abuildR (.str [(.int .i64 0), .nils, .nils] [(0, 3)]) [(0, v19)]) H ⟨fun v20 H =>
 o' (abox T.ty_isw_maker v20 H) ⟨fun v21 H =>
 o' (aallocR T.ty_p_isw_maker (some .nilp) H) ⟨fun v4 H =>
 w' (astoreR (some 1) v4 v21 H) ⟨fun _ H =>
 e' [(1, fr 1), (2, fr 2), (4, v4)] H⟩⟩⟩⟩⟩⟩⟩⟩)
@[simp] def r4 (fr : AFr) (H : AHeap) : ARes :=
 areg (q' (some (.clo 51 [] [(fr 1)])) H ⟨fun v22 H =>
 o' (aallocR T.ty_func_int_int (some .nilf) H) ⟨fun v5 H =>
 w' (astoreR (some 1) v5 v22 H) ⟨fun _ H =>
 e' [(1, fr 1), (2, fr 2), (4, fr 4), (5, v5)] H⟩⟩⟩)
@[simp] def r5 (fr : AFr) (H : AHeap) : ARes :=
 areg (q' (ld' (fr 1) H) H ⟨fun v23 H =>
 q' (bn' .add v23 (.int .i64 1)) H ⟨fun v24 H =>
 e' [(1, fr 1), (2, fr 2), (4, fr 4), (5, fr 5), (24, v24), (25, (.int .i64 0))] H⟩⟩)
@[simp] def r6 (fr : AFr) (H : AHeap) : ARes :=
 areg (q' (bn' .lss (fr 25) (fr 24)) H ⟨fun v26 H =>
 e' [(1, fr 1), (2, fr 2), (4, fr 4), (5, fr 5), (24, fr 24), (25, fr 25), (26, v26)] H⟩)
@[simp] def r7 (fr : AFr) (H : AHeap) : ARes :=
 areg (e' [(1, fr 1), (2, fr 2), (4, fr 4), (5, fr 5), (6, (fr 25)), (24, fr 24), (25, fr 25)] H)
@[simp] def r8 (s0 : SpecP) (s1 s2 : SpecM) (s3 : SpecI) (s4 : SpecM) (fr : AFr) (H : AHeap) : ARes :=
 areg (q' (ld' (fr 4) H) H ⟨fun v28 H1 =>
 q' (ld' (fr 4) H1) H1 ⟨fun v29 H2 =>
 q' (anil v29) H2 ⟨fun v30 H3 =>
 q' (fa' 0 v30) H3 ⟨fun v31 H4 =>
 q' (fa' 2 v31) H4 ⟨fun v32 H5 =>
 q' (ld' v32 H5) H5 ⟨fun v33 H6 =>
 q' (ld' (fr 4) H6) H6 ⟨fun v34 H7 =>
 q' (some (fr 6)) H7 ⟨fun v35 H8 =>
 q' (ld' (fr 5) H8) H8 ⟨fun v36 H9 =>
 q' (some (fr 6)) H9 ⟨fun v37 H10 =>
 o' (san H10 (acallClo (C s0 s1 s2 s3 s4) (some [[none]]) v36 [v37] H10)) ⟨fun v38 H11 =>
 o' (abuildSliceR (some ⟨T.ty_int, 1, 8, [(.int .i64 0)]⟩) 2 [(0, v35), (1, v38)] H11) ⟨fun v39 H12 =>
 o' (san H12 (callM [false, false, true] s1 [[none], [none], [some 1]] [v34, (.int .i64 1), v39] H12)) ⟨fun v40 H13 =>
 o' (abuildSliceR (some ⟨T.ty_int, 1, 8, [(.int .i64 0)]⟩) 1 [(0, v40)] H13) ⟨fun v41 H14 =>
 o' (aappendR (some ⟨T.ty_int, 1, 8, [(.int .i64 0)]⟩) v33 v41 H14) ⟨fun v42 H15 =>
 q' (anil v28) H15 ⟨fun v43 H16 =>
 q' (fa' 0 v43) H16 ⟨fun v44 H17 =>
 q' (fa' 2 v44) H17 ⟨fun v45 H18 =>
 w' (astoreR (some 1) v45 v42 H18) ⟨fun _ H19 =>
 withChk [aloadR (some none) (fr 4) H10 = aloadR (some none) (fr 4) H11, aloadR (some none) (fr 4) H12 = aloadR (some none) (fr 4) H13, aloadR (some none) (fr 4) H14 = aloadR (some none) (fr 4) H15, aloadR (some none) (fr 4) H10 = aloadR (some none) (fr 4) H11, aloadR (some none) (fr 4) H12 = aloadR (some none) (fr 4) H13, aloadR (some none) v32 H10 = aloadR (some none) v32 H11, aloadR (some none) v32 H12 = aloadR (some none) v32 H13, aloadR (some none) (fr 4) H10 = aloadR (some none) (fr 4) H11] (e' [(1, fr 1), (2, fr 2), (4, fr 4), (5, fr 5), (24, fr 24), (25, fr 25)] H19)⟩⟩⟩⟩⟩⟩⟩⟩⟩⟩⟩⟩⟩⟩⟩⟩⟩⟩⟩)
@[simp] def r9 (fr : AFr) (H : AHeap) : ARes :=
 areg (q' (bn' .add (fr 25) (.int .i64 1)) H ⟨fun v46 H =>
 e' [(1, fr 1), (2, fr 2), (4, fr 4), (5, fr 5), (24, fr 24), (25, v46)] H⟩)
@[simp] def r10 (s2 : SpecM) (fr : AFr) (H : AHeap) : ARes :=
 areg (q' (ld' (fr 1) H) H ⟨fun v47 H =>
 o' (callM [false] s2 [[none]] [v47] H) ⟨fun v48 H =>
 e' [(2, fr 2), (4, fr 4), (5, fr 5), (48, v48)] H⟩⟩)
@[simp] def r11 (fr : AFr) (H : AHeap) : ARes :=
 areg (e' [(4, fr 4), (5, fr 5), (7, (fr 49)), (50, fr 50)] H)
@[simp] def r12 (fr : AFr) (H : AHeap) : ARes :=
 areg (e' [(4, fr 4), (5, fr 5), (7, fr 7), (8, (fr 50))] H)
@[simp] def r13 (s1 : SpecM) (fr : AFr) (H : AHeap) : ARes :=
 areg (q' (ld' (fr 4) H) H ⟨fun v51 H =>
 o' (callM [false, false, true] s1 [[none], [none], [some 1]] [v51, (.int .i64 0), .nils] H) ⟨fun v52 H =>
 e' [(4, fr 4), (5, fr 5), (7, fr 7), (8, fr 8), (9, v52)] H⟩⟩)
@[simp] def r14 (s0 : SpecP) (s1 s2 : SpecM) (s3 : SpecI) (s4 : SpecM) (fr : AFr) (H : AHeap) : ARes :=
 areg (q' (ld' (fr 4) H) H ⟨fun v53 H1 =>
 q' (some (fr 9)) H1 ⟨fun v54 H2 =>
 q' (ld' (fr 4) H2) H2 ⟨fun v55 H3 =>
 q' (some (fr 7)) H3 ⟨fun v56 H4 =>
 q' (ld' (fr 5) H4) H4 ⟨fun v57 H5 =>
 q' (some (fr 8)) H5 ⟨fun v58 H6 =>
 o' (san H6 (acallClo (C s0 s1 s2 s3 s4) (some [[none]]) v57 [v58] H6)) ⟨fun v59 H7 =>
 o' (abuildSliceR (some ⟨T.ty_int, 1, 8, [(.int .i64 0)]⟩) 2 [(0, v56), (1, v59)] H7) ⟨fun v60 H8 =>
 o' (san H8 (callM [false, false, true] s1 [[none], [none], [some 1]] [v55, (.int .i64 1), v60] H8)) ⟨fun v61 H9 =>
 o' (abuildSliceR (some ⟨T.ty_int, 1, 8, [(.int .i64 0)]⟩) 2 [(0, v54), (1, v61)] H9) ⟨fun v62 H10 =>
 o' (san H10 (callM [false, false, true] s1 [[none], [none], [some 1]] [v53, (.int .i64 2), v62] H10)) ⟨fun v63 H11 =>
 q' (some v63) H11 ⟨fun v10 H12 =>
 withChk [aloadR (some none) (fr 4) H6 = aloadR (some none) (fr 4) H7, aloadR (some none) (fr 4) H8 = aloadR (some none) (fr 4) H9, aloadR (some none) (fr 4) H6 = aloadR (some none) (fr 4) H7] (e' [(4, fr 4), (5, fr 5), (7, fr 7), (8, fr 8), (9, fr 9), (10, v10)] H12)⟩⟩⟩⟩⟩⟩⟩⟩⟩⟩⟩⟩)
@[simp] def r15 (s0 : SpecP) (s1 s2 : SpecM) (s3 : SpecI) (s4 : SpecM) (fr : AFr) (H : AHeap) : ARes :=
 areg (q' (ld' (fr 4) H) H ⟨fun v64 H1 =>
 q' (some (fr 10)) H1 ⟨fun v65 H2 =>
 q' (ld' (fr 4) H2) H2 ⟨fun v66 H3 =>
 q' (some (fr 8)) H3 ⟨fun v67 H4 =>
 q' (ld' (fr 5) H4) H4 ⟨fun v68 H5 =>
 q' (some (fr 7)) H5 ⟨fun v69 H6 =>
 o' (san H6 (acallClo (C s0 s1 s2 s3 s4) (some [[none]]) v68 [v69] H6)) ⟨fun v70 H7 =>
 o' (abuildSliceR (some ⟨T.ty_int, 1, 8, [(.int .i64 0)]⟩) 2 [(0, v67), (1, v70)] H7) ⟨fun v71 H8 =>
 o' (san H8 (callM [false, false, true] s1 [[none], [none], [some 1]] [v66, (.int .i64 1), v71] H8)) ⟨fun v72 H9 =>
 o' (abuildSliceR (some ⟨T.ty_int, 1, 8, [(.int .i64 0)]⟩) 2 [(0, v65), (1, v72)] H9) ⟨fun v73 H10 =>
 o' (san H10 (callM [false, false, true] s1 [[none], [none], [some 1]] [v64, (.int .i64 2), v73] H10)) ⟨fun v74 H11 =>
 q' (some v74) H11 ⟨fun v11 H12 =>
 withChk [aloadR (some none) (fr 4) H6 = aloadR (some none) (fr 4) H7, aloadR (some none) (fr 4) H8 = aloadR (some none) (fr 4) H9, aloadR (some none) (fr 4) H6 = aloadR (some none) (fr 4) H7] (e' [(4, fr 4), (7, fr 7), (8, fr 8), (9, fr 9), (11, v11)] H12)⟩⟩⟩⟩⟩⟩⟩⟩⟩⟩⟩⟩)
@[simp] def r16 (s1 : SpecM) (fr : AFr) (H : AHeap) : ARes :=
 areg (q' (ld' (fr 4) H) H ⟨fun v75 H1 =>
 q' (anil v75) H1 ⟨fun v76 H2 =>
 q' (fa' 0 v76) H2 ⟨fun v77 H3 =>
 q' (fa' 2 v77) H3 ⟨fun v78 H4 =>
 q' (ld' v78 H4) H4 ⟨fun v79 H5 =>
 q' (some (fr 7)) H5 ⟨fun v80 H6 =>
 q' (ld' (fr 4) H6) H6 ⟨fun v81 H7 =>
 q' (ld' (fr 4) H7) H7 ⟨fun v82 H8 =>
 q' (anil v82) H8 ⟨fun v83 H9 =>
 q' (fa' 0 v83) H9 ⟨fun v84 H10 =>
 q' (fa' 2 v84) H10 ⟨fun v85 H11 =>
 q' (ld' v85 H11) H11 ⟨fun v86 H12 =>
 q' (some (fr 7)) H12 ⟨fun v87 H13 =>
 q' (aindexAddrR (.sl 1) v86 v87) H13 ⟨fun v88 H14 =>
 q' (ld' v88 H14) H14 ⟨fun v89 H15 =>
 q' (some (fr 9)) H15 ⟨fun v90 H16 =>
 o' (abuildSliceR (some ⟨T.ty_int, 1, 8, [(.int .i64 0)]⟩) 2 [(0, v89), (1, v90)] H16) ⟨fun v91 H17 =>
 o' (san H17 (callM [false, false, true] s1 [[none], [none], [some 1]] [v81, (.int .i64 2), v91] H17)) ⟨fun v92 H18 =>
 q' (aindexAddrR (.sl 1) v79 v80) H18 ⟨fun v93 H19 =>
 w' (astoreR (some 1) v93 v92 H19) ⟨fun _ H20 =>
 withChk [aloadR (some none) (fr 4) H17 = aloadR (some none) (fr 4) H18, aloadR (some none) v78 H17 = aloadR (some none) v78 H18] (e' [(4, fr 4), (8, fr 8), (11, fr 11)] H20)⟩⟩⟩⟩⟩⟩⟩⟩⟩⟩⟩⟩⟩⟩⟩⟩⟩⟩⟩⟩)
@[simp] def r17 (s1 : SpecM) (fr : AFr) (H : AHeap) : ARes :=
 areg (q' (ld' (fr 4) H) H ⟨fun v94 H1 =>
 q' (anil v94) H1 ⟨fun v95 H2 =>
 q' (fa' 0 v95) H2 ⟨fun v96 H3 =>
 q' (fa' 2 v96) H3 ⟨fun v97 H4 =>
 q' (ld' v97 H4) H4 ⟨fun v98 H5 =>
 q' (some (fr 8)) H5 ⟨fun v99 H6 =>
 q' (ld' (fr 4) H6) H6 ⟨fun v100 H7 =>
 q' (ld' (fr 4) H7) H7 ⟨fun v101 H8 =>
 q' (anil v101) H8 ⟨fun v102 H9 =>
 q' (fa' 0 v102) H9 ⟨fun v103 H10 =>
 q' (fa' 2 v103) H10 ⟨fun v104 H11 =>
 q' (ld' v104 H11) H11 ⟨fun v105 H12 =>
 q' (some (fr 8)) H12 ⟨fun v106 H13 =>
 q' (aindexAddrR (.sl 1) v105 v106) H13 ⟨fun v107 H14 =>
 q' (ld' v107 H14) H14 ⟨fun v108 H15 =>
 q' (some (fr 11)) H15 ⟨fun v109 H16 =>
 o' (abuildSliceR (some ⟨T.ty_int, 1, 8, [(.int .i64 0)]⟩) 2 [(0, v108), (1, v109)] H16) ⟨fun v110 H17 =>
 o' (san H17 (callM [false, false, true] s1 [[none], [none], [some 1]] [v100, (.int .i64 2), v110] H17)) ⟨fun v111 H18 =>
 q' (aindexAddrR (.sl 1) v98 v99) H18 ⟨fun v112 H19 =>
 w' (astoreR (some 1) v112 v111 H19) ⟨fun _ H20 =>
 withChk [aloadR (some none) (fr 4) H17 = aloadR (some none) (fr 4) H18, aloadR (some none) v97 H17 = aloadR (some none) v97 H18] (e' [] H20)⟩⟩⟩⟩⟩⟩⟩⟩⟩⟩⟩⟩⟩⟩⟩⟩⟩⟩⟩⟩)
@[simp] def r18 (fr : AFr) (H : AHeap) : ARes :=
 areg (q' (ld' (fr 4) H) H ⟨fun v113 H =>
 q' (anil v113) H ⟨fun v114 H =>
 q' (fa' 0 v114) H ⟨fun v115 H =>
 q' (Ld' 3 v115 H) H ⟨fun v116 H =>
 w' (astoreR (some 3) (fr 2) v116 H) ⟨fun _ H =>
 e' [(2, fr 2), (3, (.int .i64 0))] H⟩⟩⟩⟩⟩)
def l0 (s0 : SpecP) (s1 s2 : SpecM) (s3 : SpecI) (s4 : SpecM) (fr : AFr) (H : AHeap) : ARes :=
  s' (r6 fr H) ⟨fun fr H =>
 s' (c' (fr 26)
 ⟨some (.normal, fr, H)⟩
 ⟨some (.exit 0, fr, H)⟩) ⟨fun fr H =>
 s' (aexit 1 (s' (r7 fr H) ⟨fun fr H =>
 r8 s0 s1 s2 s3 s4 fr H⟩)) ⟨fun fr H =>
 r9 fr H⟩⟩⟩
def e0 (s0 : SpecP) (s1 s2 : SpecM) (s3 : SpecI) (s4 : SpecM) (fr : AFr) (H : AHeap) : ARes :=
  athen (s' (r11 fr H) ⟨fun fr H =>
 r12 fr H⟩) fun fr H =>
  aexit 3 (s' (r13 s1 fr H) ⟨fun fr H =>
 s' (r14 s0 s1 s2 s3 s4 fr H) ⟨fun fr H =>
 s' (r15 s0 s1 s2 s3 s4 fr H) ⟨fun fr H =>
 s' (r16 s1 fr H) ⟨fun fr H =>
 r17 s1 fr H⟩⟩⟩⟩)
@[simp] def body (s0 : SpecP) (s1 s2 : SpecM) (s3 : SpecI) (s4 : SpecM) (fr : AFr) (H : AHeap) : ARes :=
  s' (r0 fr H) ⟨fun fr H =>
 s' (s' (r1 s0 fr H) ⟨fun fr H =>
 c' (fr 14)
 ⟨s' (r2 fr H) ⟨fun fr H =>
 some (.ret, fr, H)⟩⟩
 ⟨some (.normal, fr, H)⟩⟩) ⟨fun fr H =>
 s' (r3 fr H) ⟨fun fr H =>
 s' (r4 fr H) ⟨fun fr H =>
 s' (s' (r5 fr H) ⟨fun fr H =>
  aexit 0 (aloop (l0 s0 s1 s2 s3 s4) fr H)⟩) ⟨fun fr H =>
 s' (s' (r10 s2 fr H) ⟨fun fr H =>
  aexit 2 (arange (C s0 s1 s2 s3 s4) (fr 48) [49, 50] (e0 s0 s1 s2 s3 s4) fr H)⟩) ⟨fun fr H =>
 s' (r18 fr H) ⟨fun fr H =>
 some (.ret, fr, H)⟩⟩⟩⟩⟩⟩⟩
@[simp] def res (fr : AFr) (H : AHeap) : Option (List AV) := res2 (aloadR (some (some 3)) (fr 2) H) (res2 (some (fr 3)) (some []))
end isw_And
def isw_And (a0 : AV) : Option AV := closeUpR (some [[none, some 4, some 1], [none]]) (afinR isw_And.res (isw_And.body isw_order.spec isw_maker_add.spec isw_pairs.spec isw_pairs_1.spec isw_And_1.spec (args0 [a0]) AHeap.empty))
def isw_And.spec : List AV → Option AV
  | [a0] => isw_And a0
  | _ => none
namespace isw_Refresh
def C (s0 : SpecP) (s1 s2 : SpecM) (s3 : SpecI) : Tab := ((((Tab.none.add 50 (.pure false s0)).add 53 (.ref [false] s1)).add 52 (.ref [false, false, true] s2)).add 68 (.iter s3))
@[simp] def r0 (fr : AFr) (H : AHeap) : ARes :=
 areg (o' (aallocR T.ty_api_Code (some (.agg [(.int .i64 0), .nils, .nils])) H) ⟨fun v2 H =>
 e' [(0, fr 0), (2, v2)] H⟩)
@[simp] def r1 (s0 : SpecP) (fr : AFr) (H : AHeap) : ARes :=
 areg (o' (callP false s0 [[none]] [(fr 0)] H) ⟨fun v10 H =>
 q' (aun .not v10) H ⟨fun v11 H =>
 e' [(0, fr 0), (2, fr 2), (11, v11)] H⟩⟩)
@[simp] def r2 (fr : AFr) (H : AHeap) : ARes :=
 areg (q' (abuildR (.str [(.int .i64 0), .nils, .nils] [(0, 1), (1, 1), (2, 1)]) []) H ⟨fun v12 H =>
 w' (astoreR (some 3) (fr 2) v12 H) ⟨fun _ H =>
 e' [(2, fr 2), (3, (.int .i64 1))] H⟩⟩)
@[simp] def r3 (fr : AFr) (H : AHeap) : ARes :=
 areg (q' (bn' .add (fr 0) (.int .i64 1)) H ⟨fun v14 H =>
 q' (abuildR (.str [(.int .i64 0), .nils, .nils] [(0, 1), (1, 1), (2, 1)]) [(0, v14)]) H ⟨fun v15 H =>
 q' (abuildR (.str [(.int .i64 0), .nils, .nils] [(0, 3)]) [(0, v15)]) H ⟨fun v16 H =>
 o' (abox T.ty_isw_maker v16 H) ⟨fun v17 H =>
 o' (aallocR T.ty_p_isw_maker (some .nilp) H) ⟨fun v4 H =>
 w' (astoreR (some 1) v4 v17 H) ⟨fun _ H =>
 e' [(0, fr 0), (2, fr 2), (4, v4)] H⟩⟩⟩⟩⟩⟩)
@[simp] def r4 (fr : AFr) (H : AHeap) : ARes :=
 areg (q' (bn' .add (fr 0) (.int .i64 1)) H ⟨fun v19 H =>
 e' [(0, fr 0), (2, fr 2), (4, fr 4), (19, v19), (20, (.int .i64 0))] H⟩)
@[simp] def r5 (fr : AFr) (H : AHeap) : ARes :=
 areg (q' (bn' .lss (fr 20) (fr 19)) H ⟨fun v21 H =>
 e' [(0, fr 0), (2, fr 2), (4, fr 4), (19, fr 19), (20, fr 20), (21, v21)] H⟩)
@[simp] def r6 (fr : AFr) (H : AHeap) : ARes :=
 areg (e' [(0, fr 0), (2, fr 2), (4, fr 4), (5, (fr 20)), (19, fr 19), (20, fr 20)] H)
@[simp] def r7 (fr : AFr) (H : AHeap) : ARes :=
 areg (q' (ld' (fr 4) H) H ⟨fun v23 H1 =>
 q' (ld' (fr 4) H1) H1 ⟨fun v24 H2 =>
 q' (anil v24) H2 ⟨fun v25 H3 =>
 q' (fa' 0 v25) H3 ⟨fun v26 H4 =>
 q' (fa' 2 v26) H4 ⟨fun v27 H5 =>
 q' (ld' v27 H5) H5 ⟨fun v28 H6 =>
 q' (some (fr 5)) H6 ⟨fun v29 H7 =>
 o' (abuildSliceR (some ⟨T.ty_int, 1, 8, [(.int .i64 0)]⟩) 1 [(0, v29)] H7) ⟨fun v30 H8 =>
 o' (aappendR (some ⟨T.ty_int, 1, 8, [(.int .i64 0)]⟩) v28 v30 H8) ⟨fun v31 H9 =>
 q' (anil v23) H9 ⟨fun v32 H10 =>
 q' (fa' 0 v32) H10 ⟨fun v33 H11 =>
 q' (fa' 2 v33) H11 ⟨fun v34 H12 =>
 w' (astoreR (some 1) v34 v31 H12) ⟨fun _ H13 =>
 withChk [aloadR (some none) (fr 4) H8 = aloadR (some none) (fr 4) H9] (e' [(0, fr 0), (2, fr 2), (4, fr 4), (19, fr 19), (20, fr 20)] H13)⟩⟩⟩⟩⟩⟩⟩⟩⟩⟩⟩⟩⟩)
@[simp] def r8 (fr : AFr) (H : AHeap) : ARes :=
 areg (q' (bn' .add (fr 20) (.int .i64 1)) H ⟨fun v35 H =>
 e' [(0, fr 0), (2, fr 2), (4, fr 4), (19, fr 19), (20, v35)] H⟩)
@[simp] def r9 (s1 : SpecM) (fr : AFr) (H : AHeap) : ARes :=
 areg (o' (callM [false] s1 [[none]] [(fr 0)] H) ⟨fun v37 H =>
 e' [(2, fr 2), (4, fr 4), (37, v37)] H⟩)
@[simp] def r10 (fr : AFr) (H : AHeap) : ARes :=
 areg (e' [(4, fr 4), (6, (fr 38)), (39, fr 39)] H)
@[simp] def r11 (fr : AFr) (H : AHeap) : ARes :=
 areg (e' [(4, fr 4), (6, fr 6), (7, (fr 39))] H)
@[simp] def r12 (s2 : SpecM) (fr : AFr) (H : AHeap) : ARes :=
 areg (q' (ld' (fr 4) H) H ⟨fun v40 H =>
 o' (callM [false, false, true] s2 [[none], [none], [some 1]] [v40, (.int .i64 0), .nils] H) ⟨fun v41 H =>
 e' [(4, fr 4), (6, fr 6), (7, fr 7), (8, v41)] H⟩⟩)
@[simp] def r13 (s2 : SpecM) (fr : AFr) (H : AHeap) : ARes :=
 areg (q' (ld' (fr 4) H) H ⟨fun v42 H1 =>
 q' (anil v42) H1 ⟨fun v43 H2 =>
 q' (fa' 0 v43) H2 ⟨fun v44 H3 =>
 q' (fa' 2 v44) H3 ⟨fun v45 H4 =>
 q' (ld' v45 H4) H4 ⟨fun v46 H5 =>
 q' (some (fr 6)) H5 ⟨fun v47 H6 =>
 q' (ld' (fr 4) H6) H6 ⟨fun v48 H7 =>
 q' (ld' (fr 4) H7) H7 ⟨fun v49 H8 =>
 q' (anil v49) H8 ⟨fun v50 H9 =>
 q' (fa' 0 v50) H9 ⟨fun v51 H10 =>
 q' (fa' 2 v51) H10 ⟨fun v52 H11 =>
 q' (ld' v52 H11) H11 ⟨fun v53 H12 =>
 q' (some (fr 6)) H12 ⟨fun v54 H13 =>
 q' (aindexAddrR (.sl 1) v53 v54) H13 ⟨fun v55 H14 =>
 q' (ld' v55 H14) H14 ⟨fun v56 H15 =>
 q' (some (fr 8)) H15 ⟨fun v57 H16 =>
 o' (abuildSliceR (some ⟨T.ty_int, 1, 8, [(.int .i64 0)]⟩) 2 [(0, v56), (1, v57)] H16) ⟨fun v58 H17 =>
 o' (san H17 (callM [false, false, true] s2 [[none], [none], [some 1]] [v48, (.int .i64 2), v58] H17)) ⟨fun v59 H18 =>
 q' (aindexAddrR (.sl 1) v46 v47) H18 ⟨fun v60 H19 =>
 w' (astoreR (some 1) v60 v59 H19) ⟨fun _ H20 =>
 withChk [aloadR (some none) (fr 4) H17 = aloadR (some none) (fr 4) H18, aloadR (some none) v45 H17 = aloadR (some none) v45 H18] (e' [(4, fr 4), (7, fr 7), (8, fr 8)] H20)⟩⟩⟩⟩⟩⟩⟩⟩⟩⟩⟩⟩⟩⟩⟩⟩⟩⟩⟩⟩)
@[simp] def r14 (s2 : SpecM) (fr : AFr) (H : AHeap) : ARes :=
 areg (q' (ld' (fr 4) H) H ⟨fun v61 H1 =>
 q' (anil v61) H1 ⟨fun v62 H2 =>
 q' (fa' 0 v62) H2 ⟨fun v63 H3 =>
 q' (fa' 2 v63) H3 ⟨fun v64 H4 =>
 q' (ld' v64 H4) H4 ⟨fun v65 H5 =>
 q' (some (fr 7)) H5 ⟨fun v66 H6 =>
 q' (ld' (fr 4) H6) H6 ⟨fun v67 H7 =>
 q' (ld' (fr 4) H7) H7 ⟨fun v68 H8 =>
 q' (anil v68) H8 ⟨fun v69 H9 =>
 q' (fa' 0 v69) H9 ⟨fun v70 H10 =>
 q' (fa' 2 v70) H10 ⟨fun v71 H11 =>
 q' (ld' v71 H11) H11 ⟨fun v72 H12 =>
 q' (some (fr 7)) H12 ⟨fun v73 H13 =>
 q' (aindexAddrR (.sl 1) v72 v73) H13 ⟨fun v74 H14 =>
 q' (ld' v74 H14) H14 ⟨fun v75 H15 =>
 q' (some (fr 8)) H15 ⟨fun v76 H16 =>
 o' (abuildSliceR (some ⟨T.ty_int, 1, 8, [(.int .i64 0)]⟩) 2 [(0, v75), (1, v76)] H16) ⟨fun v77 H17 =>
 o' (san H17 (callM [false, false, true] s2 [[none], [none], [some 1]] [v67, (.int .i64 2), v77] H17)) ⟨fun v78 H18 =>
 q' (aindexAddrR (.sl 1) v65 v66) H18 ⟨fun v79 H19 =>
 w' (astoreR (some 1) v79 v78 H19) ⟨fun _ H20 =>
 withChk [aloadR (some none) (fr 4) H17 = aloadR (some none) (fr 4) H18, aloadR (some none) v64 H17 = aloadR (some none) v64 H18] (e' [] H20)⟩⟩⟩⟩⟩⟩⟩⟩⟩⟩⟩⟩⟩⟩⟩⟩⟩⟩⟩⟩)
@[simp] def r15 (fr : AFr) (H : AHeap) : ARes :=
 areg (q' (ld' (fr 4) H) H ⟨fun v80 H =>
 q' (anil v80) H ⟨fun v81 H =>
 q' (fa' 0 v81) H ⟨fun v82 H =>
 q' (Ld' 3 v82 H) H ⟨fun v83 H =>
 w' (astoreR (some 3) (fr 2) v83 H) ⟨fun _ H =>
 e' [(2, fr 2), (3, (.int .i64 0))] H⟩⟩⟩⟩⟩)
def l0 (s0 : SpecP) (s1 s2 : SpecM) (s3 : SpecI) (fr : AFr) (H : AHeap) : ARes :=
  s' (r5 fr H) ⟨fun fr H =>
 s' (c' (fr 21)
 ⟨some (.normal, fr, H)⟩
 ⟨some (.exit 0, fr, H)⟩) ⟨fun fr H =>
 s' (aexit 1 (s' (r6 fr H) ⟨fun fr H =>
 r7 fr H⟩)) ⟨fun fr H =>
 r8 fr H⟩⟩⟩
def e0 (s0 : SpecP) (s1 s2 : SpecM) (s3 : SpecI) (fr : AFr) (H : AHeap) : ARes :=
  athen (s' (r10 fr H) ⟨fun fr H =>
 r11 fr H⟩) fun fr H =>
  aexit 3 (s' (r12 s2 fr H) ⟨fun fr H =>
 s' (r13 s2 fr H) ⟨fun fr H =>
 r14 s2 fr H⟩⟩)
@[simp] def body (s0 : SpecP) (s1 s2 : SpecM) (s3 : SpecI) (fr : AFr) (H : AHeap) : ARes :=
  s' (r0 fr H) ⟨fun fr H =>
 s' (s' (r1 s0 fr H) ⟨fun fr H =>
 c' (fr 11)
 ⟨s' (r2 fr H) ⟨fun fr H =>
 some (.ret, fr, H)⟩⟩
 ⟨some (.normal, fr, H)⟩⟩) ⟨fun fr H =>
 s' (r3 fr H) ⟨fun fr H =>
 s' (s' (r4 fr H) ⟨fun fr H =>
  aexit 0 (aloop (l0 s0 s1 s2 s3) fr H)⟩) ⟨fun fr H =>
 s' (s' (r9 s1 fr H) ⟨fun fr H =>
  aexit 2 (arange (C s0 s1 s2 s3) (fr 37) [38, 39] (e0 s0 s1 s2 s3) fr H)⟩) ⟨fun fr H =>
 s' (r15 fr H) ⟨fun fr H =>
 some (.ret, fr, H)⟩⟩⟩⟩⟩⟩
@[simp] def res (fr : AFr) (H : AHeap) : Option (List AV) := res2 (aloadR (some (some 3)) (fr 2) H) (res2 (some (fr 3)) (some []))
end isw_Refresh
def isw_Refresh (a0 : AV) : Option AV := closeUpR (some [[none, some 4, some 1], [none]]) (afinR isw_Refresh.res (isw_Refresh.body isw_order.spec isw_pairs.spec isw_maker_add.spec isw_pairs_1.spec (args0 [a0]) AHeap.empty))
def isw_Refresh.spec : List AV → Option AV
  | [a0] => isw_Refresh a0
  | _ => none
namespace isw_number
@[simp] def r0 (fr : AFr) (H : AHeap) : ARes :=
 areg (o' (abox T.ty_api_Op (fr 0) H) ⟨fun v1 H =>
 e' [(1, v1)] H⟩)
@[simp] def r1 (fr : AFr) (H : AHeap) : ARes :=
 areg (q' (fa' 0 (fr 1)) H ⟨fun v3 H =>
 q' (ld' v3 H) H ⟨fun v4 H =>
 e' [(1, fr 1), (4, v4)] H⟩⟩)
@[simp] def r2 (fr : AFr) (H : AHeap) : ARes :=
 areg (q' (bn' .eql (fr 4) (.int .i64 7)) H ⟨fun v6 H =>
 e' [(1, fr 1), (4, fr 4), (5, v6)] H⟩)
@[simp] def r3 (fr : AFr) (H : AHeap) : ARes :=
 areg (e' [(2, (.bool true))] H)
@[simp] def r4 (fr : AFr) (H : AHeap) : ARes :=
 areg (q' (bn' .eql (fr 4) (.int .i64 4)) H ⟨fun v8 H =>
 e' [(1, fr 1), (4, fr 4), (7, v8)] H⟩)
@[simp] def r5 (fr : AFr) (H : AHeap) : ARes :=
 areg (q' (bn' .eql (fr 4) (.int .i64 5)) H ⟨fun v9 H =>
 e' [(1, fr 1), (4, fr 4), (7, v9)] H⟩)
@[simp] def r6 (fr : AFr) (H : AHeap) : ARes :=
 areg (q' (bn' .eql (fr 4) (.int .i64 6)) H ⟨fun v10 H =>
 e' [(1, fr 1), (7, v10)] H⟩)
@[simp] def r7 (fr : AFr) (H : AHeap) : ARes :=
 areg (q' (fa' 3 (fr 1)) H ⟨fun v11 H =>
 q' (ld' v11 H) H ⟨fun v12 H =>
 q' (bn' .lss v12 (W32 32#32)) H ⟨fun v13 H =>
 e' [(2, v13)] H⟩⟩⟩)
@[simp] def r8 (fr : AFr) (H : AHeap) : ARes :=
 areg (q' (fa' 3 (fr 1)) H ⟨fun v14 H =>
 q' (ld' v14 H) H ⟨fun v15 H =>
 q' (bn' .eql v15 (W32 0#32)) H ⟨fun v16 H =>
 e' [(2, v16)] H⟩⟩⟩)
@[simp] def body (fr : AFr) (H : AHeap) : ARes :=
  s' (r0 fr H) ⟨fun fr H =>
 s' (s' (r1 fr H) ⟨fun fr H =>
  aexit 0 (s' (r2 fr H) ⟨fun fr H =>
 c' (fr 5)
 ⟨s' (r3 fr H) ⟨fun fr H =>
 some (.ret, fr, H)⟩⟩
 ⟨s' (s' (r4 fr H) ⟨fun fr H =>
 c' (fr 7)
 ⟨some (.normal, fr, H)⟩
 ⟨s' (r5 fr H) ⟨fun fr H =>
 c' (fr 7)
 ⟨some (.normal, fr, H)⟩
 ⟨r6 fr H⟩⟩⟩⟩) ⟨fun fr H =>
 c' (fr 7)
 ⟨s' (r7 fr H) ⟨fun fr H =>
 some (.ret, fr, H)⟩⟩
 ⟨some (.normal, fr, H)⟩⟩⟩⟩)⟩) ⟨fun fr H =>
 s' (r8 fr H) ⟨fun fr H =>
 some (.ret, fr, H)⟩⟩⟩
@[simp] def res (fr : AFr) (H : AHeap) : Option (List AV) := res2 (some (fr 2)) (some [])
end isw_number
def isw_number (a0 : AV) : Option AV := closeUpR (some [[none]]) (afinR isw_number.res (isw_number.body (args0 [a0]) AHeap.empty))
namespace isw_randoms
def C : Tab := Tab.none
@[simp] def r0 (fr : AFr) (H : AHeap) : ARes :=
 areg (o' (abox T.ty_api_Code (fr 0) H) ⟨fun v1 H =>
 e' [(1, v1)] H⟩)
@[simp] def r1 (fr : AFr) (H : AHeap) : ARes :=
 areg (e' [(1, fr 1), (3, (.int .i64 0))] H)
@[simp] def r2 (fr : AFr) (H : AHeap) : ARes :=
 areg (q' (fa' 1 (fr 1)) H ⟨fun v6 H =>
 q' (ld' v6 H) H ⟨fun v7 H =>
 q' (alenR .sl v7) H ⟨fun v8 H =>
 e' [(3, fr 3), (7, v7), (8, v8), (9, (.int .i64 0))] H⟩⟩⟩)
@[simp] def r3 (fr : AFr) (H : AHeap) : ARes :=
 areg (q' (bn' .lss (fr 9) (fr 8)) H ⟨fun v10 H =>
 e' [(3, fr 3), (7, fr 7), (8, fr 8), (9, fr 9), (10, v10)] H⟩)
@[simp] def r4 (fr : AFr) (H : AHeap) : ARes :=
 areg (q' (aindexAddrR (.sl 4) (fr 7) (fr 9)) H ⟨fun v11 H =>
 q' (Ld' 4 v11 H) H ⟨fun v12 H =>
 o' (aallocR T.ty_api_Op (some (.agg [(.int .i64 0), (.int .i64 0), (.int .i64 0), (W32 0#32)])) H) ⟨fun v5 H =>
 w' (astoreR (some 4) v5 v12 H) ⟨fun _ H =>
 e' [(3, fr 3), (5, v5), (7, fr 7), (8, fr 8), (9, fr 9)] H⟩⟩⟩⟩)
@[simp] def r5 (fr : AFr) (H : AHeap) : ARes :=
 areg (q' (fa' 0 (fr 5)) H ⟨fun v13 H =>
 q' (ld' v13 H) H ⟨fun v14 H =>
 q' (bn' .eql v14 (.int .i64 0)) H ⟨fun v15 H =>
 e' [(3, fr 3), (7, fr 7), (8, fr 8), (9, fr 9), (15, v15)] H⟩⟩⟩)
@[simp] def r6 (fr : AFr) (H : AHeap) : ARes :=
 areg (q' (bn' .add (fr 3) (.int .i64 1)) H ⟨fun v17 H =>
 e' [(3, v17), (7, fr 7), (8, fr 8), (9, fr 9)] H⟩)
@[simp] def r7 (fr : AFr) (H : AHeap) : ARes :=
 areg (q' (bn' .add (fr 9) (.int .i64 1)) H ⟨fun v18 H =>
 e' [(3, fr 3), (7, fr 7), (8, fr 8), (9, v18)] H⟩)
@[simp] def r8 (fr : AFr) (H : AHeap) : ARes :=
 areg (e' [(2, (fr 3))] H)
def l0 (fr : AFr) (H : AHeap) : ARes :=
  s' (r3 fr H) ⟨fun fr H =>
 s' (c' (fr 10)
 ⟨some (.normal, fr, H)⟩
 ⟨some (.exit 0, fr, H)⟩) ⟨fun fr H =>
 s' (aexit 1 (s' (r4 fr H) ⟨fun fr H =>
 s' (r5 fr H) ⟨fun fr H =>
 c' (fr 15)
 ⟨r6 fr H⟩
 ⟨some (.normal, fr, H)⟩⟩⟩)) ⟨fun fr H =>
 r7 fr H⟩⟩⟩
@[simp] def body (fr : AFr) (H : AHeap) : ARes :=
  s' (r0 fr H) ⟨fun fr H =>
 s' (r1 fr H) ⟨fun fr H =>
 s' (s' (r2 fr H) ⟨fun fr H =>
  aexit 0 (aloop (l0) fr H)⟩) ⟨fun fr H =>
 s' (r8 fr H) ⟨fun fr H =>
 some (.ret, fr, H)⟩⟩⟩⟩
@[simp] def res (fr : AFr) (H : AHeap) : Option (List AV) := res2 (some (fr 2)) (some [])
end isw_randoms
def isw_randoms (a0 : AV) : Option AV := closeUpR (some [[none]]) (afinR isw_randoms.res (isw_randoms.body (args0 [a0]) AHeap.empty))
def isw_randoms.spec : List AV → Option AV
  | [a0] => isw_randoms a0
  | _ => none
namespace isw_Randoms
def C (s0 : SpecP) : Tab := (Tab.none.add 57 (.pure false s0))
@[simp] def r0 (fr : AFr) (H : AHeap) : ARes :=
 areg (o' (abox T.ty_api_Code (fr 0) H) ⟨fun v1 H =>
 e' [(1, v1)] H⟩)
@[simp] def r1 (s0 : SpecP) (fr : AFr) (H : AHeap) : ARes :=
 areg (q' (Ld' 3 (fr 1) H) H ⟨fun v3 H =>
 o' (callP false s0 [[none, some 4, some 1]] [v3] H) ⟨fun v4 H =>
 e' [(2, v4)] H⟩⟩)
@[simp] def body (s0 : SpecP) (fr : AFr) (H : AHeap) : ARes :=
  s' (r0 fr H) ⟨fun fr H =>
 s' (r1 s0 fr H) ⟨fun fr H =>
 some (.ret, fr, H)⟩⟩
@[simp] def res (fr : AFr) (H : AHeap) : Option (List AV) := res2 (some (fr 2)) (some [])
end isw_Randoms
def isw_Randoms (a0 : AV) : Option AV := closeUpR (some [[none]]) (afinR isw_Randoms.res (isw_Randoms.body isw_randoms.spec (args0 [a0]) AHeap.empty))
def isw_Randoms.spec : List AV → Option AV
  | [a0] => isw_Randoms a0
  | _ => none
end
end Go.Abs
