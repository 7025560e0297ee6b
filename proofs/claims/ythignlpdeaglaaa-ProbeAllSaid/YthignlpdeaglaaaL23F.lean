/-
  The functions, as they are over abstract values. Printed by gen.py.
-/
import Derived.Test.YthignlpdeaglaaaPrF
import Derived.Test.YthignlpdeaglaaaIrF
import Derived.Test.YthignlpdeaglaaaPbF
import Derived.Test.YthignlpdeaglaaaLoF
set_option linter.unusedVariables false
namespace Go.Abs
noncomputable section
namespace law23_light
def C (s0 s1 : SpecP) : Tab := ((Tab.none.add 23 (.pure false s0)).add 22 (.pure false s1))
@[simp] def r0 (fr : AFr) (H : AHeap) : ARes :=
 areg (o' (abox T.ty_bautalaw23_Case (fr 0) H) ⟨fun v2 H =>
 e' [(1, fr 1), (2, v2)] H⟩)
@[simp] def r1 (s0 s1 : SpecP) (fr : AFr) (H : AHeap) : ARes :=
 areg (q' (fa' 0 (fr 2)) H ⟨fun v5 H1 =>
 q' (fa' 1 v5) H1 ⟨fun v6 H2 =>
 q' (ld' v6 H2) H2 ⟨fun v7 H3 =>
 q' (alenR .sl v7) H3 ⟨fun v8 H4 =>
 q' (bn' .leq v8 (.int .i64 100)) H4 ⟨fun v9 H5 =>
 q' (some v9) H5 ⟨fun v10 H6 =>
 G' v10 true ⟨fa' 0 (fr 2)⟩ H6 ⟨fun v11 H7 =>
 G' v10 true ⟨fa' 2 v11⟩ H7 ⟨fun v12 H8 =>
 G' v10 true ⟨ld' v12 H8⟩ H8 ⟨fun v13 H9 =>
 G' v10 true ⟨alenR .sl v13⟩ H9 ⟨fun v14 H10 =>
 G' v10 true ⟨bn' .leq v14 (.int .i64 100)⟩ H10 ⟨fun v15 H11 =>
 q' (apick v10 v15 (.bool false)) H11 ⟨fun v16 H12 =>
 q' (some v16) H12 ⟨fun v17 H13 =>
 G' v17 true ⟨some (fr 1)⟩ H13 ⟨fun v18 H14 =>
 G' v17 true ⟨alenR .sl v18⟩ H14 ⟨fun v19 H15 =>
 G' v17 true ⟨bn' .leq v19 (.int .i64 8)⟩ H15 ⟨fun v20 H16 =>
 q' (apick v17 v20 (.bool false)) H16 ⟨fun v21 H17 =>
 q' (some v21) H17 ⟨fun v22 H18 =>
 G' v22 true ⟨fa' 0 (fr 2)⟩ H18 ⟨fun v23 H19 =>
 G' v22 true ⟨Ld' 3 v23 H19⟩ H19 ⟨fun v24 H20 =>
 G' v22 true ⟨fa' 3 (fr 2)⟩ H20 ⟨fun v25 H21 =>
 G' v22 true ⟨ld' v25 H21⟩ H21 ⟨fun v26 H22 =>
 G' v22 true ⟨fa' 4 (fr 2)⟩ H22 ⟨fun v27 H23 =>
 G' v22 true ⟨ld' v27 H23⟩ H23 ⟨fun v28 H24 =>
 G' v22 true ⟨some (fr 1)⟩ H24 ⟨fun v29 H25 =>
 o' (g' (gw v22 true) ⟨callP false s0 [[none, some 4, some 1], [none], [none], [some 1]] [v24, v26, v28, v29] H25⟩ H25) ⟨fun v30 H26 =>
 G' v22 true ⟨bn' .neq v30 (.int .i64 0)⟩ H26 ⟨fun v31 H27 =>
 G' v22 true ⟨some v31⟩ H27 ⟨fun v32 H28 =>
 G' v32 false ⟨fa' 3 (fr 2)⟩ H28 ⟨fun v33 H29 =>
 G' v32 false ⟨ld' v33 H29⟩ H29 ⟨fun v34 H30 =>
 G' v32 false ⟨fa' 4 (fr 2)⟩ H30 ⟨fun v35 H31 =>
 G' v32 false ⟨ld' v35 H31⟩ H31 ⟨fun v36 H32 =>
 G' v32 false ⟨bn' .mul v34 v36⟩ H32 ⟨fun v37 H33 =>
 G' v32 false ⟨fa' 0 (fr 2)⟩ H33 ⟨fun v38 H34 =>
 G' v32 false ⟨Ld' 3 v38 H34⟩ H34 ⟨fun v39 H35 =>
 o' (g' (gw v32 false) ⟨callP false s1 [[none, some 4, some 1]] [v39] H35⟩ H35) ⟨fun v40 H36 =>
 G' v32 false ⟨bn' .add v37 v40⟩ H36 ⟨fun v41 H37 =>
 G' v32 false ⟨bn' .leq v41 (.int .i64 7)⟩ H37 ⟨fun v42 H38 =>
 G' v22 true ⟨apick v32 (.bool true) v42⟩ H38 ⟨fun v43 H39 =>
 q' (apick v22 v43 (.bool false)) H39 ⟨fun v44 H40 =>
 q' (some v44) H40 ⟨fun v4 H41 =>
 withChk [aloadR (some none) v33 H35 = aloadR (some none) v33 H36, aloadR (some none) v35 H35 = aloadR (some none) v35 H36] (e' [(4, v4)] H41)⟩⟩⟩⟩⟩⟩⟩⟩⟩⟩⟩⟩⟩⟩⟩⟩⟩⟩⟩⟩⟩⟩⟩⟩⟩⟩⟩⟩⟩⟩⟩⟩⟩⟩⟩⟩⟩⟩⟩⟩⟩)
@[simp] def body (s0 s1 : SpecP) (fr : AFr) (H : AHeap) : ARes :=
  s' (r0 fr H) ⟨fun fr H =>
 s' (r1 s0 s1 fr H) ⟨fun fr H =>
 some (.ret, fr, H)⟩⟩
@[simp] def res (fr : AFr) (H : AHeap) : Option (List AV) := res2 (some (fr 4)) (some [])
end law23_light
def law23_light (a0 a1 : AV) : Option AV := closeUpR (some [[none]]) (afinR law23_light.res (law23_light.body ref23_Looks.spec ref19_Randoms.spec (args0 [a0, a1]) AHeap.empty))
def law23_light.spec : List AV → Option AV
  | [a0, a1] => law23_light a0 a1
  | _ => none
namespace law23_lives
def C (s0 : SpecP) : Tab := (Tab.none.add 16 (.pure false s0))
@[simp] def r0 (fr : AFr) (H : AHeap) : ARes :=
 areg (e' [] H)
@[simp] def r1 (s0 : SpecP) (fr : AFr) (H : AHeap) : ARes :=
 areg (q' (abuildR (.str [(.int .i64 0), .nils, .nils] [(0, 1), (1, 1), (2, 1)]) [(0, (.int .i64 2))]) H ⟨fun v6 H =>
 o' (abuildSliceR (some ⟨T.ty_int, 1, 8, [(.int .i64 0)]⟩) 1 [(0, (.int .i64 1))] H) ⟨fun v7 H =>
 o' (callP false s0 [[none, some 4, some 1], [none], [none], [none], [some 1]] [v6, (.int .i64 1), (.int .i64 1), (W32 0#32), v7] H) ⟨fun v8 H =>
 q' (aextract v8 0) H ⟨fun v9 H =>
 q' (aextract v8 1) H ⟨fun v10 H =>
 e' [(1, v9), (2, v10)] H⟩⟩⟩⟩⟩)
@[simp] def r2 (s0 : SpecP) (fr : AFr) (H : AHeap) : ARes :=
 areg (q' (abuildR (.str [(.int .i64 0), .nils, .nils] [(0, 1), (1, 1), (2, 1)]) [(0, (.int .i64 2))]) H ⟨fun v12 H =>
 o' (abuildSliceR (some ⟨T.ty_int, 1, 8, [(.int .i64 0)]⟩) 2 [(0, (.int .i64 0)), (1, (.int .i64 1))] H) ⟨fun v13 H =>
 o' (callP false s0 [[none, some 4, some 1], [none], [none], [none], [some 1]] [v12, (.int .i64 1), (.int .i64 1), (W32 0#32), v13] H) ⟨fun v14 H =>
 q' (aextract v14 0) H ⟨fun v15 H =>
 q' (aextract v14 1) H ⟨fun v16 H =>
 e' [(1, fr 1), (2, fr 2), (3, v15), (4, v16)] H⟩⟩⟩⟩⟩)
@[simp] def r3 (fr : AFr) (H : AHeap) : ARes :=
 areg (G' (fr 1) true ⟨some (fr 2)⟩ H ⟨fun v19 H =>
 G' (fr 1) true ⟨bn' .eql v19 (.int .i64 0)⟩ H ⟨fun v20 H =>
 q' (apick (fr 1) v20 (.bool false)) H ⟨fun v21 H =>
 G' v21 true ⟨some (fr 3)⟩ H ⟨fun v23 H =>
 G' v21 true ⟨aun .not v23⟩ H ⟨fun v24 H =>
 q' (apick v21 v24 (.bool false)) H ⟨fun v25 H =>
 G' v25 true ⟨some (fr 4)⟩ H ⟨fun v27 H =>
 G' v25 true ⟨bn' .eql v27 (.int .i64 0)⟩ H ⟨fun v28 H =>
 q' (apick v25 v28 (.bool false)) H ⟨fun v29 H =>
 e' [(0, v29)] H⟩⟩⟩⟩⟩⟩⟩⟩⟩)
@[simp] def body (s0 : SpecP) (fr : AFr) (H : AHeap) : ARes :=
  s' (r0 fr H) ⟨fun fr H =>
 s' (r1 s0 fr H) ⟨fun fr H =>
 s' (r2 s0 fr H) ⟨fun fr H =>
 s' (r3 fr H) ⟨fun fr H =>
 some (.ret, fr, H)⟩⟩⟩⟩
@[simp] def res (fr : AFr) (H : AHeap) : Option (List AV) := res2 (some (fr 0)) (some [])
end law23_lives
def law23_lives : Option AV := closeUpR (some [[none]]) (afinR law23_lives.res (law23_lives.body probe_Safe.spec (args0 []) AHeap.empty))
def law23_lives.spec : List AV → Option AV
  | [] => law23_lives
  | _ => none
namespace law23_ProbeSafes
def C (s0 s1 s2 s3 s4 : SpecP) : Tab := (((((Tab.none.add 14 (.pure false s0)).add 15 (.pure false s1)).add 17 (.pure false s2)).add 16 (.pure false s3)).add 18 (.pure false s4))
@[simp] def r0 (fr : AFr) (H : AHeap) : ARes :=
 areg (o' (abox T.ty_bautalaw23_Case (fr 0) H) ⟨fun v3 H =>
 e' [(1, fr 1), (2, fr 2), (3, v3)] H⟩)
@[simp] def r1 (s0 : SpecP) (fr : AFr) (H : AHeap) : ARes :=
 areg (q' (Ld' 5 (fr 3) H) H ⟨fun v11 H =>
 o' (callP false s0 [[none, some 4, some 1, none, none], [some 1]] [v11, (fr 2)] H) ⟨fun v13 H =>
 q' (aun .not v13) H ⟨fun v14 H =>
 e' [(1, fr 1), (2, fr 2), (3, fr 3), (14, v14)] H⟩⟩⟩)
@[simp] def r2 (s1 : SpecP) (fr : AFr) (H : AHeap) : ARes :=
 areg (o' (callP false s1 [] [] H) ⟨fun v15 H =>
 e' [(6, v15)] H⟩)
@[simp] def r3 (s2 s3 : SpecP) (fr : AFr) (H : AHeap) : ARes :=
 areg (q' (fa' 0 (fr 3)) H ⟨fun v17 H1 =>
 q' (Ld' 3 v17 H1) H1 ⟨fun v18 H2 =>
 o' (callP false s2 [[none, some 4, some 1]] [v18] H2) ⟨fun v19 H3 =>
 q' (fa' 3 (fr 3)) H3 ⟨fun v20 H4 =>
 q' (ld' v20 H4) H4 ⟨fun v21 H5 =>
 q' (fa' 4 (fr 3)) H5 ⟨fun v22 H6 =>
 q' (ld' v22 H6) H6 ⟨fun v23 H7 =>
 q' (some (fr 1)) H7 ⟨fun v24 H8 =>
 o' (abuildSliceR (some ⟨T.ty_int, 1, 8, [(.int .i64 0)]⟩) 0 [] H8) ⟨fun v25 H9 =>
 q' (some (fr 2)) H9 ⟨fun v26 H10 =>
 o' (aappendR (some ⟨T.ty_int, 1, 8, [(.int .i64 0)]⟩) v25 v26 H10) ⟨fun v27 H11 =>
 o' (callP false s3 [[none, some 4, some 1], [none], [none], [none], [some 1]] [v19, v21, v23, v24, v27] H11) ⟨fun v28 H12 =>
 q' (some v28) H12 ⟨fun v16 H13 =>
 q' (aextract v16 0) H13 ⟨fun v29 H14 =>
 q' (aextract v16 1) H14 ⟨fun v30 H15 =>
 q' (some v29) H15 ⟨fun v7 H16 =>
 q' (some v30) H16 ⟨fun v8 H17 =>
 withChk [aloadR (some none) v20 H2 = aloadR (some none) v20 H3, aloadR (some none) v20 H10 = aloadR (some none) v20 H11, aloadR (some none) v22 H2 = aloadR (some none) v22 H3, aloadR (some none) v22 H10 = aloadR (some none) v22 H11] (e' [(1, fr 1), (2, fr 2), (3, fr 3), (7, v7), (8, v8)] H17)⟩⟩⟩⟩⟩⟩⟩⟩⟩⟩⟩⟩⟩⟩⟩⟩⟩)
@[simp] def r4 (s4 : SpecP) (fr : AFr) (H : AHeap) : ARes :=
 areg (q' (fa' 0 (fr 3)) H ⟨fun v32 H =>
 q' (Ld' 3 v32 H) H ⟨fun v33 H =>
 q' (fa' 3 (fr 3)) H ⟨fun v34 H =>
 q' (ld' v34 H) H ⟨fun v35 H =>
 q' (fa' 4 (fr 3)) H ⟨fun v36 H =>
 q' (ld' v36 H) H ⟨fun v37 H =>
 o' (callP false s4 [[none, some 4, some 1], [none], [none], [none], [some 1]] [v33, v35, v37, (fr 1), (fr 2)] H) ⟨fun v40 H =>
 q' (aextract v40 0) H ⟨fun v41 H =>
 q' (aextract v40 1) H ⟨fun v42 H =>
 e' [(7, fr 7), (8, fr 8), (9, v41), (10, v42)] H⟩⟩⟩⟩⟩⟩⟩⟩⟩)
@[simp] def r5 (s1 : SpecP) (fr : AFr) (H : AHeap) : ARes :=
 areg (q' (abinR .b .eql (fr 7) (fr 9)) H ⟨fun v45 H =>
 G' v45 true ⟨some (fr 8)⟩ H ⟨fun v47 H =>
 G' v45 true ⟨some (fr 10)⟩ H ⟨fun v48 H =>
 G' v45 true ⟨bn' .eql v47 v48⟩ H ⟨fun v49 H =>
 q' (apick v45 v49 (.bool false)) H ⟨fun v50 H =>
 o' (g' (gw v50 true) ⟨callP false s1 [] [] H⟩ H) ⟨fun v52 H =>
 q' (apick v50 v52 (.bool false)) H ⟨fun v53 H =>
 e' [(6, v53)] H⟩⟩⟩⟩⟩⟩⟩)
@[simp] def body (s0 s1 s2 s3 s4 : SpecP) (fr : AFr) (H : AHeap) : ARes :=
  s' (r0 fr H) ⟨fun fr H =>
 s' (s' (r1 s0 fr H) ⟨fun fr H =>
 c' (fr 14)
 ⟨s' (r2 s1 fr H) ⟨fun fr H =>
 some (.ret, fr, H)⟩⟩
 ⟨some (.normal, fr, H)⟩⟩) ⟨fun fr H =>
 s' (r3 s2 s3 fr H) ⟨fun fr H =>
 s' (r4 s4 fr H) ⟨fun fr H =>
 s' (r5 s1 fr H) ⟨fun fr H =>
 some (.ret, fr, H)⟩⟩⟩⟩⟩
@[simp] def res (fr : AFr) (H : AHeap) : Option (List AV) := res2 (some (fr 6)) (some [])
end law23_ProbeSafes
def law23_ProbeSafes (a0 a1 a2 : AV) : Option AV := closeUpR (some [[none]]) (afinR law23_ProbeSafes.res (law23_ProbeSafes.body law23_light.spec law23_lives.spec ref19_Own.spec probe_Safe.spec ref23_Safe.spec (args0 [a0, a1, a2]) AHeap.empty))
def law23_ProbeSafes.spec : List AV → Option AV
  | [a0, a1, a2] => law23_ProbeSafes a0 a1 a2
  | _ => none
namespace law23_ProbeLess
def C (s0 s1 s2 s3 : SpecP) : Tab := ((((Tab.none.add 14 (.pure false s0)).add 15 (.pure false s1)).add 17 (.pure false s2)).add 16 (.pure false s3))
@[simp] def r0 (fr : AFr) (H : AHeap) : ARes :=
 areg (o' (abox T.ty_bautalaw23_Case (fr 0) H) ⟨fun v3 H =>
 e' [(1, fr 1), (2, fr 2), (3, v3)] H⟩)
@[simp] def r1 (s0 : SpecP) (fr : AFr) (H : AHeap) : ARes :=
 areg (q' (Ld' 5 (fr 3) H) H ⟨fun v12 H =>
 o' (callP false s0 [[none, some 4, some 1, none, none], [some 1]] [v12, (fr 2)] H) ⟨fun v14 H =>
 q' (aun .not v14) H ⟨fun v15 H =>
 G' v15 false ⟨some (fr 2)⟩ H ⟨fun v17 H =>
 G' v15 false ⟨alenR .sl v17⟩ H ⟨fun v18 H =>
 G' v15 false ⟨bn' .eql v18 (.int .i64 0)⟩ H ⟨fun v19 H =>
 q' (apick v15 (.bool true) v19) H ⟨fun v20 H =>
 e' [(1, fr 1), (2, fr 2), (3, fr 3), (20, v20)] H⟩⟩⟩⟩⟩⟩⟩)
@[simp] def r2 (s1 : SpecP) (fr : AFr) (H : AHeap) : ARes :=
 areg (o' (callP false s1 [] [] H) ⟨fun v21 H =>
 e' [(6, v21)] H⟩)
@[simp] def r3 (s2 s3 : SpecP) (fr : AFr) (H : AHeap) : ARes :=
 areg (q' (fa' 0 (fr 3)) H ⟨fun v23 H1 =>
 q' (Ld' 3 v23 H1) H1 ⟨fun v24 H2 =>
 o' (callP false s2 [[none, some 4, some 1]] [v24] H2) ⟨fun v25 H3 =>
 q' (fa' 3 (fr 3)) H3 ⟨fun v26 H4 =>
 q' (ld' v26 H4) H4 ⟨fun v27 H5 =>
 q' (fa' 4 (fr 3)) H5 ⟨fun v28 H6 =>
 q' (ld' v28 H6) H6 ⟨fun v29 H7 =>
 q' (some (fr 1)) H7 ⟨fun v30 H8 =>
 o' (abuildSliceR (some ⟨T.ty_int, 1, 8, [(.int .i64 0)]⟩) 0 [] H8) ⟨fun v31 H9 =>
 q' (some (fr 2)) H9 ⟨fun v32 H10 =>
 o' (aappendR (some ⟨T.ty_int, 1, 8, [(.int .i64 0)]⟩) v31 v32 H10) ⟨fun v33 H11 =>
 o' (callP false s3 [[none, some 4, some 1], [none], [none], [none], [some 1]] [v25, v27, v29, v30, v33] H11) ⟨fun v34 H12 =>
 q' (some v34) H12 ⟨fun v22 H13 =>
 q' (aextract v22 0) H13 ⟨fun v35 H14 =>
 q' (aextract v22 1) H14 ⟨fun v36 H15 =>
 q' (some v35) H15 ⟨fun v7 H16 =>
 q' (some v36) H16 ⟨fun v8 H17 =>
 withChk [aloadR (some none) v26 H2 = aloadR (some none) v26 H3, aloadR (some none) v26 H10 = aloadR (some none) v26 H11, aloadR (some none) v28 H2 = aloadR (some none) v28 H3, aloadR (some none) v28 H10 = aloadR (some none) v28 H11] (e' [(1, fr 1), (2, fr 2), (3, fr 3), (7, v7), (8, v8)] H17)⟩⟩⟩⟩⟩⟩⟩⟩⟩⟩⟩⟩⟩⟩⟩⟩⟩)
@[simp] def r4 (fr : AFr) (H : AHeap) : ARes :=
 areg (q' (bn' .neq (fr 8) (.int .i64 0)) H ⟨fun v38 H =>
 G' v38 false ⟨some (fr 7)⟩ H ⟨fun v40 H =>
 G' v38 false ⟨aun .not v40⟩ H ⟨fun v41 H =>
 q' (apick v38 (.bool true) v41) H ⟨fun v42 H =>
 e' [(1, fr 1), (2, fr 2), (3, fr 3), (7, fr 7), (42, v42)] H⟩⟩⟩⟩)
@[simp] def r5 (s1 : SpecP) (fr : AFr) (H : AHeap) : ARes :=
 areg (q' (aun .not (fr 7)) H ⟨fun v44 H =>
 o' (g' (gw v44 true) ⟨callP false s1 [] [] H⟩ H) ⟨fun v46 H =>
 q' (apick v44 v46 (.bool false)) H ⟨fun v47 H =>
 e' [(6, v47)] H⟩⟩⟩)
@[simp] def r6 (fr : AFr) (H : AHeap) : ARes :=
 areg (e' [(1, fr 1), (2, fr 2), (3, fr 3), (9, (.int .i64 0))] H)
@[simp] def r7 (fr : AFr) (H : AHeap) : ARes :=
 areg (q' (alenR .sl (fr 2)) H ⟨fun v50 H =>
 q' (bn' .lss (fr 9) v50) H ⟨fun v51 H =>
 e' [(1, fr 1), (2, fr 2), (3, fr 3), (9, fr 9), (51, v51)] H⟩⟩)
@[simp] def r9 (s2 s3 : SpecP) (fr : AFr) (H : AHeap) : ARes :=
 areg (q' (fa' 0 (fr 3)) H ⟨fun v55 H1 =>
 q' (Ld' 3 v55 H1) H1 ⟨fun v56 H2 =>
 o' (callP false s2 [[none, some 4, some 1]] [v56] H2) ⟨fun v57 H3 =>
 q' (fa' 3 (fr 3)) H3 ⟨fun v58 H4 =>
 q' (ld' v58 H4) H4 ⟨fun v59 H5 =>
 q' (fa' 4 (fr 3)) H5 ⟨fun v60 H6 =>
 q' (ld' v60 H6) H6 ⟨fun v61 H7 =>
 q' (some (fr 1)) H7 ⟨fun v62 H8 =>
 o' (abuildSliceR (some ⟨T.ty_int, 1, 8, [(.int .i64 0)]⟩) 0 [] H8) ⟨fun v63 H9 =>
 q' (some (fr 2)) H9 ⟨fun v64 H10 =>
 q' (some (fr 9)) H10 ⟨fun v65 H11 =>
 q' (asliceR (.sl 1) v64 none (some v65) none) H11 ⟨fun v66 H12 =>
 o' (aappendR (some ⟨T.ty_int, 1, 8, [(.int .i64 0)]⟩) v63 v66 H12) ⟨fun v67 H13 =>
 q' (some (fr 2)) H13 ⟨fun v68 H14 =>
 q' (some (fr 9)) H14 ⟨fun v69 H15 =>
 q' (bn' .add v69 (.int .i64 1)) H15 ⟨fun v70 H16 =>
 q' (asliceR (.sl 1) v68 (some v70) none none) H16 ⟨fun v71 H17 =>
 o' (aappendR (some ⟨T.ty_int, 1, 8, [(.int .i64 0)]⟩) v67 v71 H17) ⟨fun v72 H18 =>
 o' (callP false s3 [[none, some 4, some 1], [none], [none], [none], [some 1]] [v57, v59, v61, v62, v72] H18) ⟨fun v73 H19 =>
 q' (some v73) H19 ⟨fun v54 H20 =>
 q' (aextract v54 0) H20 ⟨fun v74 H21 =>
 q' (aextract v54 1) H21 ⟨fun v75 H22 =>
 q' (some v74) H22 ⟨fun v10 H23 =>
 q' (some v75) H23 ⟨fun v11 H24 =>
 withChk [aloadR (some none) v58 H2 = aloadR (some none) v58 H3, aloadR (some none) v58 H12 = aloadR (some none) v58 H13, aloadR (some none) v58 H17 = aloadR (some none) v58 H18, aloadR (some none) v60 H2 = aloadR (some none) v60 H3, aloadR (some none) v60 H12 = aloadR (some none) v60 H13, aloadR (some none) v60 H17 = aloadR (some none) v60 H18] (e' [(1, fr 1), (2, fr 2), (3, fr 3), (9, fr 9), (10, v10), (11, v11)] H24)⟩⟩⟩⟩⟩⟩⟩⟩⟩⟩⟩⟩⟩⟩⟩⟩⟩⟩⟩⟩⟩⟩⟩⟩)
@[simp] def r10 (fr : AFr) (H : AHeap) : ARes :=
 areg (q' (aun .not (fr 10)) H ⟨fun v77 H =>
 G' v77 false ⟨some (fr 11)⟩ H ⟨fun v79 H =>
 G' v77 false ⟨bn' .neq v79 (.int .i64 0)⟩ H ⟨fun v80 H =>
 q' (apick v77 (.bool true) v80) H ⟨fun v81 H =>
 e' [(1, fr 1), (2, fr 2), (3, fr 3), (9, fr 9), (81, v81)] H⟩⟩⟩⟩)
@[simp] def r11 (fr : AFr) (H : AHeap) : ARes :=
 areg (e' [(6, (.bool false))] H)
@[simp] def r8 (fr : AFr) (H : AHeap) : ARes :=
 areg (q' (bn' .add (fr 9) (.int .i64 1)) H ⟨fun v53 H =>
 e' [(1, fr 1), (2, fr 2), (3, fr 3), (9, v53)] H⟩)
@[simp] def r12 (s1 : SpecP) (fr : AFr) (H : AHeap) : ARes :=
 areg (o' (callP false s1 [] [] H) ⟨fun v82 H =>
 e' [(6, v82)] H⟩)
def l0 (s0 s1 s2 s3 : SpecP) (fr : AFr) (H : AHeap) : ARes :=
  s' (s' (r7 fr H) ⟨fun fr H =>
 c' (fr 51)
 ⟨some (.normal, fr, H)⟩
 ⟨some (.exit 0, fr, H)⟩⟩) ⟨fun fr H =>
 s' (aexit 1 (s' (r9 s2 s3 fr H) ⟨fun fr H =>
 s' (r10 fr H) ⟨fun fr H =>
 c' (fr 81)
 ⟨s' (r11 fr H) ⟨fun fr H =>
 some (.ret, fr, H)⟩⟩
 ⟨some (.normal, fr, H)⟩⟩⟩)) ⟨fun fr H =>
 r8 fr H⟩⟩
@[simp] def body (s0 s1 s2 s3 : SpecP) (fr : AFr) (H : AHeap) : ARes :=
  s' (r0 fr H) ⟨fun fr H =>
 s' (s' (r1 s0 fr H) ⟨fun fr H =>
 c' (fr 20)
 ⟨s' (r2 s1 fr H) ⟨fun fr H =>
 some (.ret, fr, H)⟩⟩
 ⟨some (.normal, fr, H)⟩⟩) ⟨fun fr H =>
 s' (r3 s2 s3 fr H) ⟨fun fr H =>
 s' (s' (r4 fr H) ⟨fun fr H =>
 c' (fr 42)
 ⟨s' (r5 s1 fr H) ⟨fun fr H =>
 some (.ret, fr, H)⟩⟩
 ⟨some (.normal, fr, H)⟩⟩) ⟨fun fr H =>
 s' (s' (r6 fr H) ⟨fun fr H =>
  aexit 0 (aloop (l0 s0 s1 s2 s3) fr H)⟩) ⟨fun fr H =>
 s' (r12 s1 fr H) ⟨fun fr H =>
 some (.ret, fr, H)⟩⟩⟩⟩⟩⟩
@[simp] def res (fr : AFr) (H : AHeap) : Option (List AV) := res2 (some (fr 6)) (some [])
end law23_ProbeLess
def law23_ProbeLess (a0 a1 a2 : AV) : Option AV := closeUpR (some [[none]]) (afinR law23_ProbeLess.res (law23_ProbeLess.body law23_light.spec law23_lives.spec ref19_Own.spec probe_Safe.spec (args0 [a0, a1, a2]) AHeap.empty))
def law23_ProbeLess.spec : List AV → Option AV
  | [a0, a1, a2] => law23_ProbeLess a0 a1 a2
  | _ => none
namespace law23_ProbeSpreads
def C (s0 s1 s2 s3 s4 s5 : SpecP) : Tab := ((((((Tab.none.add 14 (.pure false s0)).add 15 (.pure false s1)).add 17 (.pure false s2)).add 19 (.pure false s3)).add 20 (.pure false s4)).add 21 (.pure false s5))
@[simp] def r0 (fr : AFr) (H : AHeap) : ARes :=
 areg (o' (abox T.ty_bautalaw23_Case (fr 0) H) ⟨fun v3 H =>
 o' (abox T.ty_2_uint32 (fr 1) H) ⟨fun v4 H =>
 e' [(2, fr 2), (3, v3), (4, v4)] H⟩⟩)
@[simp] def r1 (s0 : SpecP) (fr : AFr) (H : AHeap) : ARes :=
 areg (q' (Ld' 5 (fr 3) H) H ⟨fun v11 H =>
 o' (callP false s0 [[none, some 4, some 1, none, none], [some 1]] [v11, (fr 2)] H) ⟨fun v13 H =>
 q' (aun .not v13) H ⟨fun v14 H =>
 e' [(2, fr 2), (3, fr 3), (4, fr 4), (14, v14)] H⟩⟩⟩)
@[simp] def r2 (s1 : SpecP) (fr : AFr) (H : AHeap) : ARes :=
 areg (o' (callP false s1 [] [] H) ⟨fun v15 H =>
 e' [(6, v15)] H⟩)
@[simp] def r3 (s2 s3 : SpecP) (fr : AFr) (H : AHeap) : ARes :=
 areg (q' (fa' 0 (fr 3)) H ⟨fun v17 H1 =>
 q' (Ld' 3 v17 H1) H1 ⟨fun v18 H2 =>
 o' (callP false s2 [[none, some 4, some 1]] [v18] H2) ⟨fun v19 H3 =>
 q' (fa' 3 (fr 3)) H3 ⟨fun v20 H4 =>
 q' (ld' v20 H4) H4 ⟨fun v21 H5 =>
 q' (fa' 4 (fr 3)) H5 ⟨fun v22 H6 =>
 q' (ld' v22 H6) H6 ⟨fun v23 H7 =>
 q' (aindexAddrR (.arr 2 1) (fr 4) (.int .i64 0)) H7 ⟨fun v24 H8 =>
 q' (ld' v24 H8) H8 ⟨fun v25 H9 =>
 q' (aindexAddrR (.arr 2 1) (fr 4) (.int .i64 1)) H9 ⟨fun v26 H10 =>
 q' (ld' v26 H10) H10 ⟨fun v27 H11 =>
 o' (abuildSliceR (some ⟨T.ty_int, 1, 8, [(.int .i64 0)]⟩) 0 [] H11) ⟨fun v28 H12 =>
 q' (some (fr 2)) H12 ⟨fun v29 H13 =>
 o' (aappendR (some ⟨T.ty_int, 1, 8, [(.int .i64 0)]⟩) v28 v29 H13) ⟨fun v30 H14 =>
 o' (callP false s3 [[none, some 4, some 1], [none], [none], [none], [none], [some 1]] [v19, v21, v23, v25, v27, v30] H14) ⟨fun v31 H15 =>
 q' (some v31) H15 ⟨fun v16 H16 =>
 q' (aextract v16 0) H16 ⟨fun v32 H17 =>
 q' (aextract v16 1) H17 ⟨fun v33 H18 =>
 q' (some v32) H18 ⟨fun v7 H19 =>
 q' (some v33) H19 ⟨fun v8 H20 =>
 withChk [aloadR (some none) v20 H2 = aloadR (some none) v20 H3, aloadR (some none) v20 H13 = aloadR (some none) v20 H14, aloadR (some none) v22 H2 = aloadR (some none) v22 H3, aloadR (some none) v22 H13 = aloadR (some none) v22 H14, aloadR (some none) v24 H2 = aloadR (some none) v24 H3, aloadR (some none) v24 H13 = aloadR (some none) v24 H14, aloadR (some none) v26 H2 = aloadR (some none) v26 H3, aloadR (some none) v26 H13 = aloadR (some none) v26 H14] (e' [(2, fr 2), (3, fr 3), (4, fr 4), (7, v7), (8, v8)] H20)⟩⟩⟩⟩⟩⟩⟩⟩⟩⟩⟩⟩⟩⟩⟩⟩⟩⟩⟩⟩)
@[simp] def r4 (s4 : SpecP) (fr : AFr) (H : AHeap) : ARes :=
 areg (q' (fa' 0 (fr 3)) H ⟨fun v35 H =>
 q' (Ld' 3 v35 H) H ⟨fun v36 H =>
 q' (fa' 3 (fr 3)) H ⟨fun v37 H =>
 q' (ld' v37 H) H ⟨fun v38 H =>
 q' (fa' 4 (fr 3)) H ⟨fun v39 H =>
 q' (ld' v39 H) H ⟨fun v40 H =>
 q' (aindexAddrR (.arr 2 1) (fr 4) (.int .i64 0)) H ⟨fun v41 H =>
 q' (ld' v41 H) H ⟨fun v42 H =>
 q' (aindexAddrR (.arr 2 1) (fr 4) (.int .i64 1)) H ⟨fun v43 H =>
 q' (ld' v43 H) H ⟨fun v44 H =>
 o' (callP false s4 [[none, some 4, some 1], [none], [none], [none], [none], [some 1]] [v36, v38, v40, v42, v44, (fr 2)] H) ⟨fun v46 H =>
 q' (aextract v46 0) H ⟨fun v47 H =>
 q' (aextract v46 1) H ⟨fun v48 H =>
 e' [(7, fr 7), (8, fr 8), (9, v47), (10, v48)] H⟩⟩⟩⟩⟩⟩⟩⟩⟩⟩⟩⟩⟩)
@[simp] def r5 (s1 s5 : SpecP) (fr : AFr) (H : AHeap) : ARes :=
 areg (o' (callP false s5 [[some 1], [some 1]] [(fr 7), (fr 9)] H) ⟨fun v51 H =>
 G' v51 true ⟨some (fr 8)⟩ H ⟨fun v53 H =>
 G' v51 true ⟨some (fr 10)⟩ H ⟨fun v54 H =>
 G' v51 true ⟨bn' .eql v53 v54⟩ H ⟨fun v55 H =>
 q' (apick v51 v55 (.bool false)) H ⟨fun v56 H =>
 o' (g' (gw v56 true) ⟨callP false s1 [] [] H⟩ H) ⟨fun v58 H =>
 q' (apick v56 v58 (.bool false)) H ⟨fun v59 H =>
 e' [(6, v59)] H⟩⟩⟩⟩⟩⟩⟩)
@[simp] def body (s0 s1 s2 s3 s4 s5 : SpecP) (fr : AFr) (H : AHeap) : ARes :=
  s' (r0 fr H) ⟨fun fr H =>
 s' (s' (r1 s0 fr H) ⟨fun fr H =>
 c' (fr 14)
 ⟨s' (r2 s1 fr H) ⟨fun fr H =>
 some (.ret, fr, H)⟩⟩
 ⟨some (.normal, fr, H)⟩⟩) ⟨fun fr H =>
 s' (r3 s2 s3 fr H) ⟨fun fr H =>
 s' (r4 s4 fr H) ⟨fun fr H =>
 s' (r5 s1 s5 fr H) ⟨fun fr H =>
 some (.ret, fr, H)⟩⟩⟩⟩⟩
@[simp] def res (fr : AFr) (H : AHeap) : Option (List AV) := res2 (some (fr 6)) (some [])
end law23_ProbeSpreads
def law23_ProbeSpreads (a0 a1 a2 : AV) : Option AV := closeUpR (some [[none]]) (afinR law23_ProbeSpreads.res (law23_ProbeSpreads.body law23_light.spec law23_lives.spec ref19_Own.spec probe_Spread.spec ref23_Spread.spec ref02_Same.spec (args0 [a0, a1, a2]) AHeap.empty))
def law23_ProbeSpreads.spec : List AV → Option AV
  | [a0, a1, a2] => law23_ProbeSpreads a0 a1 a2
  | _ => none
namespace law23_ProbeAll
def C (s0 s1 s2 s3 s4 : SpecP) : Tab := (((((Tab.none.add 14 (.pure false s0)).add 15 (.pure false s1)).add 17 (.pure false s2)).add 19 (.pure false s3)).add 22 (.pure false s4))
@[simp] def r0 (fr : AFr) (H : AHeap) : ARes :=
 areg (o' (abox T.ty_bautalaw23_Case (fr 0) H) ⟨fun v3 H =>
 o' (abox T.ty_2_uint32 (fr 1) H) ⟨fun v4 H =>
 e' [(2, fr 2), (3, v3), (4, v4)] H⟩⟩)
@[simp] def r1 (s0 : SpecP) (fr : AFr) (H : AHeap) : ARes :=
 areg (q' (Ld' 5 (fr 3) H) H ⟨fun v16 H =>
 o' (callP false s0 [[none, some 4, some 1, none, none], [some 1]] [v16, (fr 2)] H) ⟨fun v18 H =>
 q' (aun .not v18) H ⟨fun v19 H =>
 G' v19 false ⟨some (fr 2)⟩ H ⟨fun v21 H =>
 G' v19 false ⟨alenR .sl v21⟩ H ⟨fun v22 H =>
 G' v19 false ⟨bn' .eql v22 (.int .i64 0)⟩ H ⟨fun v23 H =>
 q' (apick v19 (.bool true) v23) H ⟨fun v24 H =>
 e' [(2, fr 2), (3, fr 3), (4, fr 4), (24, v24)] H⟩⟩⟩⟩⟩⟩⟩)
@[simp] def r2 (s1 : SpecP) (fr : AFr) (H : AHeap) : ARes :=
 areg (o' (callP false s1 [] [] H) ⟨fun v25 H =>
 e' [(6, v25)] H⟩)
@[simp] def r3 (s2 s3 : SpecP) (fr : AFr) (H : AHeap) : ARes :=
 areg (q' (fa' 0 (fr 3)) H ⟨fun v27 H1 =>
 q' (Ld' 3 v27 H1) H1 ⟨fun v28 H2 =>
 o' (callP false s2 [[none, some 4, some 1]] [v28] H2) ⟨fun v29 H3 =>
 q' (fa' 3 (fr 3)) H3 ⟨fun v30 H4 =>
 q' (ld' v30 H4) H4 ⟨fun v31 H5 =>
 q' (fa' 4 (fr 3)) H5 ⟨fun v32 H6 =>
 q' (ld' v32 H6) H6 ⟨fun v33 H7 =>
 q' (aindexAddrR (.arr 2 1) (fr 4) (.int .i64 0)) H7 ⟨fun v34 H8 =>
 q' (ld' v34 H8) H8 ⟨fun v35 H9 =>
 q' (aindexAddrR (.arr 2 1) (fr 4) (.int .i64 1)) H9 ⟨fun v36 H10 =>
 q' (ld' v36 H10) H10 ⟨fun v37 H11 =>
 o' (abuildSliceR (some ⟨T.ty_int, 1, 8, [(.int .i64 0)]⟩) 0 [] H11) ⟨fun v38 H12 =>
 q' (some (fr 2)) H12 ⟨fun v39 H13 =>
 o' (aappendR (some ⟨T.ty_int, 1, 8, [(.int .i64 0)]⟩) v38 v39 H13) ⟨fun v40 H14 =>
 o' (callP false s3 [[none, some 4, some 1], [none], [none], [none], [none], [some 1]] [v29, v31, v33, v35, v37, v40] H14) ⟨fun v41 H15 =>
 q' (some v41) H15 ⟨fun v26 H16 =>
 q' (aextract v26 0) H16 ⟨fun v42 H17 =>
 q' (aextract v26 1) H17 ⟨fun v43 H18 =>
 q' (some v42) H18 ⟨fun v7 H19 =>
 q' (some v43) H19 ⟨fun v8 H20 =>
 withChk [aloadR (some none) v30 H2 = aloadR (some none) v30 H3, aloadR (some none) v30 H13 = aloadR (some none) v30 H14, aloadR (some none) v32 H2 = aloadR (some none) v32 H3, aloadR (some none) v32 H13 = aloadR (some none) v32 H14, aloadR (some none) v34 H2 = aloadR (some none) v34 H3, aloadR (some none) v34 H13 = aloadR (some none) v34 H14, aloadR (some none) v36 H2 = aloadR (some none) v36 H3, aloadR (some none) v36 H13 = aloadR (some none) v36 H14] (e' [(2, fr 2), (3, fr 3), (4, fr 4), (7, v7), (8, v8)] H20)⟩⟩⟩⟩⟩⟩⟩⟩⟩⟩⟩⟩⟩⟩⟩⟩⟩⟩⟩⟩)
@[simp] def r4 (s2 s3 : SpecP) (fr : AFr) (H : AHeap) : ARes :=
 areg (q' (fa' 0 (fr 3)) H ⟨fun v45 H1 =>
 q' (Ld' 3 v45 H1) H1 ⟨fun v46 H2 =>
 o' (callP false s2 [[none, some 4, some 1]] [v46] H2) ⟨fun v47 H3 =>
 q' (fa' 3 (fr 3)) H3 ⟨fun v48 H4 =>
 q' (ld' v48 H4) H4 ⟨fun v49 H5 =>
 q' (fa' 4 (fr 3)) H5 ⟨fun v50 H6 =>
 q' (ld' v50 H6) H6 ⟨fun v51 H7 =>
 q' (aindexAddrR (.arr 2 1) (fr 4) (.int .i64 0)) H7 ⟨fun v52 H8 =>
 q' (ld' v52 H8) H8 ⟨fun v53 H9 =>
 q' (aindexAddrR (.arr 2 1) (fr 4) (.int .i64 1)) H9 ⟨fun v54 H10 =>
 q' (ld' v54 H10) H10 ⟨fun v55 H11 =>
 o' (abuildSliceR (some ⟨T.ty_int, 1, 8, [(.int .i64 0)]⟩) 0 [] H11) ⟨fun v56 H12 =>
 q' (some (fr 2)) H12 ⟨fun v57 H13 =>
 q' (some (fr 2)) H13 ⟨fun v58 H14 =>
 q' (alenR .sl v58) H14 ⟨fun v59 H15 =>
 q' (bn' .sub v59 (.int .i64 1)) H15 ⟨fun v60 H16 =>
 q' (asliceR (.sl 1) v57 none (some v60) none) H16 ⟨fun v61 H17 =>
 o' (aappendR (some ⟨T.ty_int, 1, 8, [(.int .i64 0)]⟩) v56 v61 H17) ⟨fun v62 H18 =>
 o' (callP false s3 [[none, some 4, some 1], [none], [none], [none], [none], [some 1]] [v47, v49, v51, v53, v55, v62] H18) ⟨fun v63 H19 =>
 q' (some v63) H19 ⟨fun v44 H20 =>
 q' (aextract v44 0) H20 ⟨fun v64 H21 =>
 q' (aextract v44 1) H21 ⟨fun v65 H22 =>
 q' (some v64) H22 ⟨fun v9 H23 =>
 q' (some v65) H23 ⟨fun v10 H24 =>
 withChk [aloadR (some none) v48 H2 = aloadR (some none) v48 H3, aloadR (some none) v48 H17 = aloadR (some none) v48 H18, aloadR (some none) v50 H2 = aloadR (some none) v50 H3, aloadR (some none) v50 H17 = aloadR (some none) v50 H18, aloadR (some none) v52 H2 = aloadR (some none) v52 H3, aloadR (some none) v52 H17 = aloadR (some none) v52 H18, aloadR (some none) v54 H2 = aloadR (some none) v54 H3, aloadR (some none) v54 H17 = aloadR (some none) v54 H18] (e' [(3, fr 3), (7, fr 7), (8, fr 8), (9, v9), (10, v10)] H24)⟩⟩⟩⟩⟩⟩⟩⟩⟩⟩⟩⟩⟩⟩⟩⟩⟩⟩⟩⟩⟩⟩⟩⟩)
@[simp] def r5 (fr : AFr) (H : AHeap) : ARes :=
 areg (q' (bn' .neq (fr 8) (.int .i64 0)) H ⟨fun v67 H =>
 e' [(3, fr 3), (7, fr 7), (9, fr 9), (10, fr 10), (67, v67)] H⟩)
@[simp] def r6 (s1 : SpecP) (fr : AFr) (H : AHeap) : ARes :=
 areg (q' (alenR .sl (fr 7)) H ⟨fun v69 H =>
 q' (bn' .eql v69 (.int .i64 0)) H ⟨fun v70 H =>
 o' (g' (gw v70 true) ⟨callP false s1 [] [] H⟩ H) ⟨fun v72 H =>
 q' (apick v70 v72 (.bool false)) H ⟨fun v73 H =>
 e' [(6, v73)] H⟩⟩⟩⟩)
@[simp] def r7 (fr : AFr) (H : AHeap) : ARes :=
 areg (e' [(3, fr 3), (7, fr 7), (9, fr 9), (10, fr 10), (11, (.int .i64 0)), (12, (.int .i64 1))] H)
@[simp] def r8 (fr : AFr) (H : AHeap) : ARes :=
 areg (e' [(3, fr 3), (7, fr 7), (9, fr 9), (10, fr 10), (11, fr 11), (12, fr 12), (13, (.int .i64 0))] H)
@[simp] def r9 (s4 : SpecP) (fr : AFr) (H : AHeap) : ARes :=
 areg (q' (some (fr 13)) H ⟨fun v74 H1 =>
 q' (fa' 3 (fr 3)) H1 ⟨fun v75 H2 =>
 q' (ld' v75 H2) H2 ⟨fun v76 H3 =>
 q' (fa' 4 (fr 3)) H3 ⟨fun v77 H4 =>
 q' (ld' v77 H4) H4 ⟨fun v78 H5 =>
 q' (bn' .mul v76 v78) H5 ⟨fun v79 H6 =>
 q' (fa' 0 (fr 3)) H6 ⟨fun v80 H7 =>
 q' (Ld' 3 v80 H7) H7 ⟨fun v81 H8 =>
 o' (callP false s4 [[none, some 4, some 1]] [v81] H8) ⟨fun v82 H9 =>
 q' (bn' .add v79 v82) H9 ⟨fun v83 H10 =>
 q' (bn' .lss v74 v83) H10 ⟨fun v84 H11 =>
 withChk [aloadR (some none) v75 H8 = aloadR (some none) v75 H9, aloadR (some none) v77 H8 = aloadR (some none) v77 H9] (e' [(3, fr 3), (7, fr 7), (9, fr 9), (10, fr 10), (11, fr 11), (12, fr 12), (13, fr 13), (84, v84)] H11)⟩⟩⟩⟩⟩⟩⟩⟩⟩⟩⟩)
@[simp] def r11 (fr : AFr) (H : AHeap) : ARes :=
 areg (q' (bn' .mul (fr 12) (.int .i64 2)) H ⟨fun v88 H =>
 e' [(3, fr 3), (7, fr 7), (9, fr 9), (10, fr 10), (11, fr 11), (12, v88), (13, fr 13)] H⟩)
@[simp] def r10 (fr : AFr) (H : AHeap) : ARes :=
 areg (q' (bn' .add (fr 13) (.int .i64 1)) H ⟨fun v86 H =>
 e' [(3, fr 3), (7, fr 7), (9, fr 9), (10, fr 10), (11, fr 11), (12, fr 12), (13, v86)] H⟩)
@[simp] def r12 (fr : AFr) (H : AHeap) : ARes :=
 areg (e' [(7, fr 7), (9, fr 9), (10, fr 10), (11, fr 11), (12, fr 12), (14, (.int .i64 0))] H)
@[simp] def r13 (fr : AFr) (H : AHeap) : ARes :=
 areg (q' (alenR .sl (fr 7)) H ⟨fun v91 H =>
 q' (bn' .lss (fr 14) v91) H ⟨fun v92 H =>
 e' [(7, fr 7), (9, fr 9), (10, fr 10), (11, fr 11), (12, fr 12), (14, fr 14), (92, v92)] H⟩⟩)
@[simp] def r15 (fr : AFr) (H : AHeap) : ARes :=
 areg (q' (aindexAddrR (.sl 1) (fr 7) (fr 14)) H ⟨fun v98 H =>
 q' (ld' v98 H) H ⟨fun v99 H =>
 q' (bn' .add (fr 11) v99) H ⟨fun v100 H =>
 e' [(7, fr 7), (9, fr 9), (10, fr 10), (11, v100), (12, fr 12), (14, fr 14)] H⟩⟩⟩)
@[simp] def r14 (fr : AFr) (H : AHeap) : ARes :=
 areg (q' (bn' .add (fr 14) (.int .i64 1)) H ⟨fun v94 H =>
 e' [(7, fr 7), (9, fr 9), (10, fr 10), (11, fr 11), (12, fr 12), (14, v94)] H⟩)
@[simp] def r16 (fr : AFr) (H : AHeap) : ARes :=
 areg (q' (bn' .neq (fr 10) (.int .i64 0)) H ⟨fun v102 H =>
 G' v102 false ⟨some (fr 11)⟩ H ⟨fun v104 H =>
 G' v102 false ⟨some (fr 12)⟩ H ⟨fun v105 H =>
 G' v102 false ⟨bn' .neq v104 v105⟩ H ⟨fun v106 H =>
 q' (apick v102 (.bool true) v106) H ⟨fun v107 H =>
 G' v107 false ⟨some (fr 7)⟩ H ⟨fun v109 H =>
 G' v107 false ⟨alenR .sl v109⟩ H ⟨fun v110 H =>
 G' v107 false ⟨some (fr 9)⟩ H ⟨fun v111 H =>
 G' v107 false ⟨alenR .sl v111⟩ H ⟨fun v112 H =>
 G' v107 false ⟨bn' .mul (.int .i64 2) v112⟩ H ⟨fun v113 H =>
 G' v107 false ⟨bn' .neq v110 v113⟩ H ⟨fun v114 H =>
 q' (apick v107 (.bool true) v114) H ⟨fun v115 H =>
 e' [(7, fr 7), (9, fr 9), (115, v115)] H⟩⟩⟩⟩⟩⟩⟩⟩⟩⟩⟩⟩)
@[simp] def r17 (fr : AFr) (H : AHeap) : ARes :=
 areg (e' [(6, (.bool false))] H)
@[simp] def r18 (fr : AFr) (H : AHeap) : ARes :=
 areg (e' [(7, fr 7), (9, fr 9), (15, (.int .i64 0))] H)
@[simp] def r19 (fr : AFr) (H : AHeap) : ARes :=
 areg (q' (alenR .sl (fr 9)) H ⟨fun v118 H =>
 q' (bn' .lss (fr 15) v118) H ⟨fun v119 H =>
 e' [(7, fr 7), (9, fr 9), (15, fr 15), (119, v119)] H⟩⟩)
@[simp] def r21 (fr : AFr) (H : AHeap) : ARes :=
 areg (q' (some (fr 9)) H ⟨fun v122 H1 =>
 q' (some (fr 15)) H1 ⟨fun v123 H2 =>
 q' (aindexAddrR (.sl 1) v122 v123) H2 ⟨fun v124 H3 =>
 q' (ld' v124 H3) H3 ⟨fun v125 H4 =>
 q' (some (fr 7)) H4 ⟨fun v126 H5 =>
 q' (some (fr 15)) H5 ⟨fun v127 H6 =>
 q' (bn' .mul (.int .i64 2) v127) H6 ⟨fun v128 H7 =>
 q' (aindexAddrR (.sl 1) v126 v128) H7 ⟨fun v129 H8 =>
 q' (ld' v129 H8) H8 ⟨fun v130 H9 =>
 q' (some (fr 7)) H9 ⟨fun v131 H10 =>
 q' (some (fr 15)) H10 ⟨fun v132 H11 =>
 q' (bn' .mul (.int .i64 2) v132) H11 ⟨fun v133 H12 =>
 q' (bn' .add v133 (.int .i64 1)) H12 ⟨fun v134 H13 =>
 q' (aindexAddrR (.sl 1) v131 v134) H13 ⟨fun v135 H14 =>
 q' (ld' v135 H14) H14 ⟨fun v136 H15 =>
 q' (bn' .add v130 v136) H15 ⟨fun v137 H16 =>
 q' (bn' .neq v125 v137) H16 ⟨fun v138 H17 =>
 e' [(7, fr 7), (9, fr 9), (15, fr 15), (138, v138)] H17⟩⟩⟩⟩⟩⟩⟩⟩⟩⟩⟩⟩⟩⟩⟩⟩⟩)
@[simp] def r22 (fr : AFr) (H : AHeap) : ARes :=
 areg (e' [(6, (.bool false))] H)
@[simp] def r20 (fr : AFr) (H : AHeap) : ARes :=
 areg (q' (bn' .add (fr 15) (.int .i64 1)) H ⟨fun v121 H =>
 e' [(7, fr 7), (9, fr 9), (15, v121)] H⟩)
@[simp] def r23 (s1 : SpecP) (fr : AFr) (H : AHeap) : ARes :=
 areg (o' (callP false s1 [] [] H) ⟨fun v139 H =>
 e' [(6, v139)] H⟩)
def l0 (s0 s1 s2 s3 s4 : SpecP) (fr : AFr) (H : AHeap) : ARes :=
  s' (s' (r9 s4 fr H) ⟨fun fr H =>
 c' (fr 84)
 ⟨some (.normal, fr, H)⟩
 ⟨some (.exit 0, fr, H)⟩⟩) ⟨fun fr H =>
 s' (aexit 1 (r11 fr H)) ⟨fun fr H =>
 r10 fr H⟩⟩
def l1 (s0 s1 s2 s3 s4 : SpecP) (fr : AFr) (H : AHeap) : ARes :=
  s' (s' (r13 fr H) ⟨fun fr H =>
 c' (fr 92)
 ⟨some (.normal, fr, H)⟩
 ⟨some (.exit 2, fr, H)⟩⟩) ⟨fun fr H =>
 s' (aexit 3 (r15 fr H)) ⟨fun fr H =>
 r14 fr H⟩⟩
def l2 (s0 s1 s2 s3 s4 : SpecP) (fr : AFr) (H : AHeap) : ARes :=
  s' (s' (r19 fr H) ⟨fun fr H =>
 c' (fr 119)
 ⟨some (.normal, fr, H)⟩
 ⟨some (.exit 4, fr, H)⟩⟩) ⟨fun fr H =>
 s' (aexit 5 (s' (r21 fr H) ⟨fun fr H =>
 c' (fr 138)
 ⟨s' (r22 fr H) ⟨fun fr H =>
 some (.ret, fr, H)⟩⟩
 ⟨some (.normal, fr, H)⟩⟩)) ⟨fun fr H =>
 r20 fr H⟩⟩
@[simp] def body (s0 s1 s2 s3 s4 : SpecP) (fr : AFr) (H : AHeap) : ARes :=
  s' (r0 fr H) ⟨fun fr H =>
 s' (s' (r1 s0 fr H) ⟨fun fr H =>
 c' (fr 24)
 ⟨s' (r2 s1 fr H) ⟨fun fr H =>
 some (.ret, fr, H)⟩⟩
 ⟨some (.normal, fr, H)⟩⟩) ⟨fun fr H =>
 s' (r3 s2 s3 fr H) ⟨fun fr H =>
 s' (r4 s2 s3 fr H) ⟨fun fr H =>
 s' (s' (r5 fr H) ⟨fun fr H =>
 c' (fr 67)
 ⟨s' (r6 s1 fr H) ⟨fun fr H =>
 some (.ret, fr, H)⟩⟩
 ⟨some (.normal, fr, H)⟩⟩) ⟨fun fr H =>
 s' (r7 fr H) ⟨fun fr H =>
 s' (s' (r8 fr H) ⟨fun fr H =>
  aexit 0 (aloop (l0 s0 s1 s2 s3 s4) fr H)⟩) ⟨fun fr H =>
 s' (s' (r12 fr H) ⟨fun fr H =>
  aexit 2 (aloop (l1 s0 s1 s2 s3 s4) fr H)⟩) ⟨fun fr H =>
 s' (s' (r16 fr H) ⟨fun fr H =>
 c' (fr 115)
 ⟨s' (r17 fr H) ⟨fun fr H =>
 some (.ret, fr, H)⟩⟩
 ⟨some (.normal, fr, H)⟩⟩) ⟨fun fr H =>
 s' (s' (r18 fr H) ⟨fun fr H =>
  aexit 4 (aloop (l2 s0 s1 s2 s3 s4) fr H)⟩) ⟨fun fr H =>
 s' (r23 s1 fr H) ⟨fun fr H =>
 some (.ret, fr, H)⟩⟩⟩⟩⟩⟩⟩⟩⟩⟩⟩
@[simp] def res (fr : AFr) (H : AHeap) : Option (List AV) := res2 (some (fr 6)) (some [])
end law23_ProbeAll
def law23_ProbeAll (a0 a1 a2 : AV) : Option AV := closeUpR (some [[none]]) (afinR law23_ProbeAll.res (law23_ProbeAll.body law23_light.spec law23_lives.spec ref19_Own.spec probe_Spread.spec ref19_Randoms.spec (args0 [a0, a1, a2]) AHeap.empty))
def law23_ProbeAll.spec : List AV → Option AV
  | [a0, a1, a2] => law23_ProbeAll a0 a1 a2
  | _ => none
namespace law23_ProbeFirst
def C (s0 s1 s2 s3 s4 s5 s6 s7 : SpecP) : Tab := ((((((((Tab.none.add 14 (.pure false s0)).add 15 (.pure false s1)).add 22 (.pure false s2)).add 23 (.pure false s3)).add 17 (.pure false s4)).add 24 (.pure false s5)).add 25 (.pure false s6)).add 21 (.pure false s7))
@[simp] def r0 (fr : AFr) (H : AHeap) : ARes :=
 areg (o' (abox T.ty_bautalaw23_Case (fr 0) H) ⟨fun v2 H =>
 e' [(1, fr 1), (2, v2)] H⟩)
@[simp] def r1 (s0 : SpecP) (fr : AFr) (H : AHeap) : ARes :=
 areg (q' (Ld' 5 (fr 2) H) H ⟨fun v9 H =>
 o' (abuildSliceR (some ⟨T.ty_int, 1, 8, [(.int .i64 0)]⟩) 0 [] H) ⟨fun v10 H =>
 o' (callP false s0 [[none, some 4, some 1, none, none], [some 1]] [v9, v10] H) ⟨fun v11 H =>
 q' (aun .not v11) H ⟨fun v12 H =>
 G' v12 false ⟨fa' 0 (fr 2)⟩ H ⟨fun v14 H =>
 G' v12 false ⟨fa' 1 v14⟩ H ⟨fun v15 H =>
 G' v12 false ⟨ld' v15 H⟩ H ⟨fun v16 H =>
 G' v12 false ⟨alenR .sl v16⟩ H ⟨fun v17 H =>
 G' v12 false ⟨bn' .gtr v17 (.int .i64 24)⟩ H ⟨fun v18 H =>
 G' v12 false ⟨some v18⟩ H ⟨fun v19 H =>
 G' v19 true ⟨some (fr 1)⟩ H ⟨fun v20 H =>
 G' v19 true ⟨bn' .eql v20 (.int .i64 2)⟩ H ⟨fun v21 H =>
 G' v12 false ⟨apick v19 v21 (.bool false)⟩ H ⟨fun v22 H =>
 q' (apick v12 (.bool true) v22) H ⟨fun v23 H =>
 e' [(1, fr 1), (2, fr 2), (23, v23)] H⟩⟩⟩⟩⟩⟩⟩⟩⟩⟩⟩⟩⟩⟩)
@[simp] def r2 (s1 : SpecP) (fr : AFr) (H : AHeap) : ARes :=
 areg (o' (callP false s1 [] [] H) ⟨fun v24 H =>
 e' [(4, v24)] H⟩)
@[simp] def r3 (s2 s3 : SpecP) (fr : AFr) (H : AHeap) : ARes :=
 areg (q' (fa' 3 (fr 2)) H ⟨fun v25 H1 =>
 q' (ld' v25 H1) H1 ⟨fun v26 H2 =>
 q' (fa' 4 (fr 2)) H2 ⟨fun v27 H3 =>
 q' (ld' v27 H3) H3 ⟨fun v28 H4 =>
 q' (bn' .mul v26 v28) H4 ⟨fun v29 H5 =>
 q' (fa' 0 (fr 2)) H5 ⟨fun v30 H6 =>
 q' (Ld' 3 v30 H6) H6 ⟨fun v31 H7 =>
 o' (callP false s2 [[none, some 4, some 1]] [v31] H7) ⟨fun v32 H8 =>
 q' (bn' .add v29 v32) H8 ⟨fun v33 H9 =>
 q' (bn' .gtr v33 (.int .i64 5)) H9 ⟨fun v34 H10 =>
 q' (some v34) H10 ⟨fun v35 H11 =>
 G' v35 true ⟨fa' 0 (fr 2)⟩ H11 ⟨fun v36 H12 =>
 G' v35 true ⟨Ld' 3 v36 H12⟩ H12 ⟨fun v37 H13 =>
 G' v35 true ⟨fa' 3 (fr 2)⟩ H13 ⟨fun v38 H14 =>
 G' v35 true ⟨ld' v38 H14⟩ H14 ⟨fun v39 H15 =>
 G' v35 true ⟨fa' 4 (fr 2)⟩ H15 ⟨fun v40 H16 =>
 G' v35 true ⟨ld' v40 H16⟩ H16 ⟨fun v41 H17 =>
 o' (g' (gw v35 true) ⟨abuildSliceR (some ⟨T.ty_int, 1, 8, [(.int .i64 0)]⟩) 0 [] H17⟩ H17) ⟨fun v42 H18 =>
 o' (g' (gw v35 true) ⟨callP false s3 [[none, some 4, some 1], [none], [none], [some 1]] [v37, v39, v41, v42] H18⟩ H18) ⟨fun v43 H19 =>
 G' v35 true ⟨bn' .eql v43 (.int .i64 0)⟩ H19 ⟨fun v44 H20 =>
 q' (apick v35 v44 (.bool false)) H20 ⟨fun v45 H21 =>
 withChk [aloadR (some none) v25 H7 = aloadR (some none) v25 H8, aloadR (some none) v27 H7 = aloadR (some none) v27 H8] (e' [(1, fr 1), (2, fr 2), (45, v45)] H21)⟩⟩⟩⟩⟩⟩⟩⟩⟩⟩⟩⟩⟩⟩⟩⟩⟩⟩⟩⟩⟩)
@[simp] def r4 (s1 : SpecP) (fr : AFr) (H : AHeap) : ARes :=
 areg (o' (callP false s1 [] [] H) ⟨fun v46 H =>
 e' [(4, v46)] H⟩)
@[simp] def r5 (s4 s5 : SpecP) (fr : AFr) (H : AHeap) : ARes :=
 areg (q' (fa' 0 (fr 2)) H ⟨fun v48 H1 =>
 q' (Ld' 3 v48 H1) H1 ⟨fun v49 H2 =>
 o' (callP false s4 [[none, some 4, some 1]] [v49] H2) ⟨fun v50 H3 =>
 q' (fa' 3 (fr 2)) H3 ⟨fun v51 H4 =>
 q' (ld' v51 H4) H4 ⟨fun v52 H5 =>
 q' (fa' 4 (fr 2)) H5 ⟨fun v53 H6 =>
 q' (ld' v53 H6) H6 ⟨fun v54 H7 =>
 q' (some (fr 1)) H7 ⟨fun v55 H8 =>
 o' (callP false s5 [[none, some 4, some 1], [none], [none], [none]] [v50, v52, v54, v55] H8) ⟨fun v56 H9 =>
 q' (some v56) H9 ⟨fun v47 H10 =>
 q' (aextract v47 0) H10 ⟨fun v57 H11 =>
 q' (aextract v47 1) H11 ⟨fun v58 H12 =>
 q' (some v57) H12 ⟨fun v5 H13 =>
 q' (some v58) H13 ⟨fun v6 H14 =>
 withChk [aloadR (some none) v51 H2 = aloadR (some none) v51 H3, aloadR (some none) v53 H2 = aloadR (some none) v53 H3] (e' [(1, fr 1), (2, fr 2), (5, v5), (6, v6)] H14)⟩⟩⟩⟩⟩⟩⟩⟩⟩⟩⟩⟩⟩⟩)
@[simp] def r6 (s6 : SpecP) (fr : AFr) (H : AHeap) : ARes :=
 areg (q' (fa' 0 (fr 2)) H ⟨fun v60 H =>
 q' (Ld' 3 v60 H) H ⟨fun v61 H =>
 q' (fa' 3 (fr 2)) H ⟨fun v62 H =>
 q' (ld' v62 H) H ⟨fun v63 H =>
 q' (fa' 4 (fr 2)) H ⟨fun v64 H =>
 q' (ld' v64 H) H ⟨fun v65 H =>
 o' (callP false s6 [[none, some 4, some 1], [none], [none], [none]] [v61, v63, v65, (fr 1)] H) ⟨fun v67 H =>
 q' (aextract v67 0) H ⟨fun v68 H =>
 q' (aextract v67 1) H ⟨fun v69 H =>
 e' [(5, fr 5), (6, fr 6), (7, v68), (8, v69)] H⟩⟩⟩⟩⟩⟩⟩⟩⟩)
@[simp] def r7 (s1 s7 : SpecP) (fr : AFr) (H : AHeap) : ARes :=
 areg (o' (callP false s7 [[some 1], [some 1]] [(fr 5), (fr 7)] H) ⟨fun v72 H =>
 G' v72 true ⟨some (fr 6)⟩ H ⟨fun v74 H =>
 G' v72 true ⟨some (fr 8)⟩ H ⟨fun v75 H =>
 G' v72 true ⟨bn' .eql v74 v75⟩ H ⟨fun v76 H =>
 q' (apick v72 v76 (.bool false)) H ⟨fun v77 H =>
 o' (g' (gw v77 true) ⟨callP false s1 [] [] H⟩ H) ⟨fun v79 H =>
 q' (apick v77 v79 (.bool false)) H ⟨fun v80 H =>
 e' [(4, v80)] H⟩⟩⟩⟩⟩⟩⟩)
@[simp] def body (s0 s1 s2 s3 s4 s5 s6 s7 : SpecP) (fr : AFr) (H : AHeap) : ARes :=
  s' (r0 fr H) ⟨fun fr H =>
 s' (s' (r1 s0 fr H) ⟨fun fr H =>
 c' (fr 23)
 ⟨s' (r2 s1 fr H) ⟨fun fr H =>
 some (.ret, fr, H)⟩⟩
 ⟨some (.normal, fr, H)⟩⟩) ⟨fun fr H =>
 s' (s' (r3 s2 s3 fr H) ⟨fun fr H =>
 c' (fr 45)
 ⟨s' (r4 s1 fr H) ⟨fun fr H =>
 some (.ret, fr, H)⟩⟩
 ⟨some (.normal, fr, H)⟩⟩) ⟨fun fr H =>
 s' (r5 s4 s5 fr H) ⟨fun fr H =>
 s' (r6 s6 fr H) ⟨fun fr H =>
 s' (r7 s1 s7 fr H) ⟨fun fr H =>
 some (.ret, fr, H)⟩⟩⟩⟩⟩⟩
@[simp] def res (fr : AFr) (H : AHeap) : Option (List AV) := res2 (some (fr 4)) (some [])
end law23_ProbeFirst
def law23_ProbeFirst (a0 a1 : AV) : Option AV := closeUpR (some [[none]]) (afinR law23_ProbeFirst.res (law23_ProbeFirst.body law23_light.spec law23_lives.spec ref19_Randoms.spec ref23_Looks.spec ref19_Own.spec probe_First.spec ref23_First.spec ref02_Same.spec (args0 [a0, a1]) AHeap.empty))
def law23_ProbeFirst.spec : List AV → Option AV
  | [a0, a1] => law23_ProbeFirst a0 a1
  | _ => none
end
end Go.Abs
