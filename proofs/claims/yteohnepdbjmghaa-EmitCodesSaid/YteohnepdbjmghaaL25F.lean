/-
  The functions, as they are over abstract values. Printed by gen.py.
-/
import Derived.Test.YteohnepdbjmghaaEmF
import Derived.Test.YteohnepdbjmghaaErF
import Derived.Test.YteohnepdbjmghaaIrF
import Derived.Test.YteohnepdbjmghaaTeF
import Derived.Test.YteohnepdbjmghaaLoF
set_option linter.unusedVariables false
namespace Go.Abs
noncomputable section
namespace law25_lives
def C (s0 s1 : SpecP) : Tab := ((Tab.none.add 22 (.pure false s0)).add 25 (.pure false s1))
@[simp] def r0 (fr : AFr) (H : AHeap) : ARes :=
 areg (e' [] H)
@[simp] def r1 (s0 s1 : SpecP) (fr : AFr) (H : AHeap) : ARes :=
 areg (q' (abuildR (.str [(.int .i64 0), (.int .i64 0), (.int .i64 0), (W32 0#32)] [(0, 1), (1, 1), (2, 1), (3, 1)]) [(0, (.int .i64 3))]) H ⟨fun v1 H =>
 o' (abuildSliceR (some ⟨T.ty_int, 1, 8, [(.int .i64 0)]⟩) 1 [(0, (.int .i64 0))] H) ⟨fun v2 H =>
 o' (callP false s0 [[none, none, none, none], [none], [some 1]] [v1, (.int .i64 1), v2] H) ⟨fun v3 H =>
 o' (abuildSliceR (some ⟨T.ty_string, 1, 16, [(.str (bs []))]⟩) 6 [(0, (.str (bs [109, 111, 118, 115, 32, 114, 48, 44, 32, 35, 48]))), (1, (.str (bs [109, 111, 118, 115, 32, 114, 54, 44, 32, 35, 48]))), (2, (.str (bs [108, 100, 114, 32, 114, 48, 44, 32, 91, 114, 55, 44, 32, 114, 54, 93]))), (3, (.str (bs [109, 118, 110, 115, 32, 114, 48, 44, 32, 114, 48]))), (4, (.str (bs [109, 111, 118, 115, 32, 114, 54, 44, 32, 35, 52]))), (5, (.str (bs [115, 116, 114, 32, 114, 48, 44, 32, 91, 114, 55, 44, 32, 114, 54, 93])))] H) ⟨fun v4 H =>
 o' (callP false s1 [[some 5], [some 1]] [v3, v4] H) ⟨fun v5 H =>
 e' [(0, v5)] H⟩⟩⟩⟩⟩)
@[simp] def body (s0 s1 : SpecP) (fr : AFr) (H : AHeap) : ARes :=
  s' (r0 fr H) ⟨fun fr H =>
 s' (r1 s0 s1 fr H) ⟨fun fr H =>
 some (.ret, fr, H)⟩⟩
@[simp] def res (fr : AFr) (H : AHeap) : Option (List AV) := res2 (some (fr 0)) (some [])
end law25_lives
def law25_lives : Option AV := closeUpR (some [[none]]) (afinR law25_lives.res (law25_lives.body emit_Step.spec ref25_Same.spec (args0 []) AHeap.empty))
def law25_lives.spec : List AV → Option AV
  | [] => law25_lives
  | _ => none
namespace law25_EmitSteps
@[simp] def r0 (fr : AFr) (H : AHeap) : ARes :=
 areg (o' (abox T.ty_api_Op (fr 0) H) ⟨fun v3 H =>
 e' [(1, fr 1), (2, fr 2), (3, v3)] H⟩)
@[simp] def r1 (fr : AFr) (H : AHeap) : ARes :=
 areg (q' (alenR .sl (fr 2)) H ⟨fun v9 H =>
 q' (bn' .gtr v9 (.int .i64 10)) H ⟨fun v10 H =>
 e' [(1, fr 1), (2, fr 2), (3, fr 3), (10, v10)] H⟩⟩)
@[simp] def r2 (fr : AFr) (H : AHeap) : ARes :=
 areg (q' (asliceR (.sl 1) (fr 2) none (some (.int .i64 10)) none) H ⟨fun v12 H =>
 e' [(1, fr 1), (2, v12), (3, fr 3)] H⟩)
@[simp] def r3 (s0 : SpecP) (fr : AFr) (H : AHeap) : ARes :=
 areg (q' (Ld' 4 (fr 3) H) H ⟨fun v13 H1 =>
 q' (some (fr 1)) H1 ⟨fun v14 H2 =>
 o' (abuildSliceR (some ⟨T.ty_int, 1, 8, [(.int .i64 0)]⟩) 0 [] H2) ⟨fun v15 H3 =>
 q' (some (fr 2)) H3 ⟨fun v16 H4 =>
 o' (aappendR (some ⟨T.ty_int, 1, 8, [(.int .i64 0)]⟩) v15 v16 H4) ⟨fun v17 H5 =>
 o' (callP false s0 [[none, none, none, none], [none], [some 1]] [v13, v14, v17] H5) ⟨fun v18 H6 =>
 q' (some v18) H6 ⟨fun v7 H7 =>
 withChk [aloadR (some (some 4)) (fr 3) H4 = aloadR (some (some 4)) (fr 3) H5] (e' [(1, fr 1), (2, fr 2), (3, fr 3), (7, v7)] H7)⟩⟩⟩⟩⟩⟩⟩)
@[simp] def r4 (s1 : SpecP) (fr : AFr) (H : AHeap) : ARes :=
 areg (q' (Ld' 4 (fr 3) H) H ⟨fun v19 H =>
 o' (callP false s1 [[none, none, none, none], [none], [some 1]] [v19, (fr 1), (fr 2)] H) ⟨fun v22 H =>
 q' (aun .not v22) H ⟨fun v23 H =>
 e' [(1, fr 1), (2, fr 2), (3, fr 3), (7, fr 7), (23, v23)] H⟩⟩⟩)
@[simp] def r5 (s2 : SpecP) (fr : AFr) (H : AHeap) : ARes :=
 areg (q' (alenR .sl (fr 7)) H ⟨fun v25 H =>
 q' (bn' .eql v25 (.int .i64 0)) H ⟨fun v26 H =>
 o' (g' (gw v26 true) ⟨callP false s2 [] [] H⟩ H) ⟨fun v28 H =>
 q' (apick v26 v28 (.bool false)) H ⟨fun v29 H =>
 e' [(6, v29)] H⟩⟩⟩⟩)
@[simp] def r6 (s2 s3 s4 : SpecP) (fr : AFr) (H : AHeap) : ARes :=
 areg (q' (Ld' 4 (fr 3) H) H ⟨fun v31 H =>
 o' (callP false s3 [[none, none, none, none], [none], [some 1]] [v31, (fr 1), (fr 2)] H) ⟨fun v34 H =>
 o' (callP false s4 [[some 5], [some 1]] [(fr 7), v34] H) ⟨fun v35 H =>
 o' (g' (gw v35 true) ⟨callP false s2 [] [] H⟩ H) ⟨fun v37 H =>
 q' (apick v35 v37 (.bool false)) H ⟨fun v38 H =>
 e' [(6, v38)] H⟩⟩⟩⟩⟩)
@[simp] def body (s0 s1 s2 s3 s4 : SpecP) (fr : AFr) (H : AHeap) : ARes :=
  s' (r0 fr H) ⟨fun fr H =>
 s' (s' (r1 fr H) ⟨fun fr H =>
 c' (fr 10)
 ⟨r2 fr H⟩
 ⟨some (.normal, fr, H)⟩⟩) ⟨fun fr H =>
 s' (r3 s0 fr H) ⟨fun fr H =>
 s' (s' (r4 s1 fr H) ⟨fun fr H =>
 c' (fr 23)
 ⟨s' (r5 s2 fr H) ⟨fun fr H =>
 some (.ret, fr, H)⟩⟩
 ⟨some (.normal, fr, H)⟩⟩) ⟨fun fr H =>
 s' (r6 s2 s3 s4 fr H) ⟨fun fr H =>
 some (.ret, fr, H)⟩⟩⟩⟩⟩
@[simp] def res (fr : AFr) (H : AHeap) : Option (List AV) := res2 (some (fr 6)) (some [])
end law25_EmitSteps
def law25_EmitSteps (a0 a1 a2 : AV) : Option AV := closeUpR (some [[none]]) (afinR law25_EmitSteps.res (law25_EmitSteps.body emit_Step.spec ref25_Fits.spec law25_lives.spec ref25_Step.spec ref25_Same.spec (args0 [a0, a1, a2]) AHeap.empty))
def law25_EmitSteps.spec : List AV → Option AV
  | [a0, a1, a2] => law25_EmitSteps a0 a1 a2
  | _ => none
namespace law25_EmitSlots
@[simp] def r0 (fr : AFr) (H : AHeap) : ARes :=
 areg (e' [(0, fr 0)] H)
@[simp] def r1 (s0 s1 s2 s3 s4 s5 : SpecP) (fr : AFr) (H : AHeap) : ARes :=
 areg (o' (callP false s0 [[none]] [(fr 0)] H) ⟨fun v4 H =>
 o' (callP false s1 [[none]] [(fr 0)] H) ⟨fun v6 H =>
 o' (callP false s2 [[some 5], [some 1]] [v4, v6] H) ⟨fun v7 H =>
 o' (g' (gw v7 true) ⟨callP false s3 [] [] H⟩ H) ⟨fun v9 H =>
 o' (g' (gw v7 true) ⟨callP false s4 [] [] H⟩ H) ⟨fun v10 H =>
 o' (g' (gw v7 true) ⟨callP false s2 [[some 5], [some 1]] [v9, v10] H⟩ H) ⟨fun v11 H =>
 q' (apick v7 v11 (.bool false)) H ⟨fun v12 H =>
 o' (g' (gw v12 true) ⟨callP false s5 [] [] H⟩ H) ⟨fun v14 H =>
 q' (apick v12 v14 (.bool false)) H ⟨fun v15 H =>
 e' [(2, v15)] H⟩⟩⟩⟩⟩⟩⟩⟩⟩)
@[simp] def body (s0 s1 s2 s3 s4 s5 : SpecP) (fr : AFr) (H : AHeap) : ARes :=
  s' (r0 fr H) ⟨fun fr H =>
 s' (r1 s0 s1 s2 s3 s4 s5 fr H) ⟨fun fr H =>
 some (.ret, fr, H)⟩⟩
@[simp] def res (fr : AFr) (H : AHeap) : Option (List AV) := res2 (some (fr 2)) (some [])
end law25_EmitSlots
def law25_EmitSlots (a0 : AV) : Option AV := closeUpR (some [[none]]) (afinR law25_EmitSlots.res (law25_EmitSlots.body emit_Slot.spec ref25_Slot.spec ref25_Same.spec emit_Begin.spec ref25_Begin.spec law25_lives.spec (args0 [a0]) AHeap.empty))
def law25_EmitSlots.spec : List AV → Option AV
  | [a0] => law25_EmitSlots a0
  | _ => none
namespace law25_few
def C : Tab := Tab.none
@[simp] def r0 (fr : AFr) (H : AHeap) : ARes :=
 areg (o' (abox T.ty_api_Code (fr 0) H) ⟨fun v1 H =>
 e' [(1, v1)] H⟩)
@[simp] def r1 (fr : AFr) (H : AHeap) : ARes :=
 areg (q' (fa' 1 (fr 1)) H ⟨fun v3 H =>
 q' (ld' v3 H) H ⟨fun v4 H =>
 q' (alenR .sl v4) H ⟨fun v5 H =>
 q' (bn' .leq v5 (.int .i64 120)) H ⟨fun v6 H =>
 G' v6 true ⟨fa' 2 (fr 1)⟩ H ⟨fun v8 H =>
 G' v6 true ⟨ld' v8 H⟩ H ⟨fun v9 H =>
 G' v6 true ⟨alenR .sl v9⟩ H ⟨fun v10 H =>
 G' v6 true ⟨bn' .leq v10 (.int .i64 100)⟩ H ⟨fun v11 H =>
 q' (apick v6 v11 (.bool false)) H ⟨fun v12 H =>
 G' v12 true ⟨fa' 0 (fr 1)⟩ H ⟨fun v14 H =>
 G' v12 true ⟨ld' v14 H⟩ H ⟨fun v15 H =>
 G' v12 true ⟨bn' .leq v15 (.int .i64 200)⟩ H ⟨fun v16 H =>
 q' (apick v12 v16 (.bool false)) H ⟨fun v17 H =>
 e' [(2, v17)] H⟩⟩⟩⟩⟩⟩⟩⟩⟩⟩⟩⟩⟩)
@[simp] def body (fr : AFr) (H : AHeap) : ARes :=
  s' (r0 fr H) ⟨fun fr H =>
 s' (r1 fr H) ⟨fun fr H =>
 some (.ret, fr, H)⟩⟩
@[simp] def res (fr : AFr) (H : AHeap) : Option (List AV) := res2 (some (fr 2)) (some [])
end law25_few
def law25_few (a0 : AV) : Option AV := closeUpR (some [[none]]) (afinR law25_few.res (law25_few.body (args0 [a0]) AHeap.empty))
def law25_few.spec : List AV → Option AV
  | [a0] => law25_few a0
  | _ => none
namespace law25_EmitCodes
def C (s0 s1 s2 s3 s4 s5 : SpecP) : Tab := ((((((Tab.none.add 31 (.pure false s0)).add 24 (.pure false s1)).add 33 (.pure false s2)).add 32 (.pure false s3)).add 34 (.pure false s4)).add 35 (.pure false s5))
@[simp] def r0 (fr : AFr) (H : AHeap) : ARes :=
 areg (o' (abox T.ty_api_Code (fr 0) H) ⟨fun v2 H =>
 e' [(1, fr 1), (2, v2)] H⟩)
@[simp] def r1 (s0 : SpecP) (fr : AFr) (H : AHeap) : ARes :=
 areg (q' (Ld' 3 (fr 2) H) H ⟨fun v10 H =>
 o' (callP false s0 [[none, some 4, some 1]] [v10] H) ⟨fun v11 H =>
 q' (aun .not v11) H ⟨fun v12 H =>
 G' v12 false ⟨some (fr 1)⟩ H ⟨fun v14 H =>
 G' v12 false ⟨alenR .sl v14⟩ H ⟨fun v15 H =>
 G' v12 false ⟨bn' .gtr v15 (.int .i64 400)⟩ H ⟨fun v16 H =>
 q' (apick v12 (.bool true) v16) H ⟨fun v17 H =>
 e' [(1, fr 1), (2, fr 2), (17, v17)] H⟩⟩⟩⟩⟩⟩⟩)
@[simp] def r2 (s1 : SpecP) (fr : AFr) (H : AHeap) : ARes :=
 areg (o' (callP false s1 [] [] H) ⟨fun v18 H =>
 e' [(4, v18)] H⟩)
@[simp] def r3 (s2 s3 : SpecP) (fr : AFr) (H : AHeap) : ARes :=
 areg (q' (Ld' 3 (fr 2) H) H ⟨fun v20 H =>
 o' (callP false s2 [[none, some 4, some 1]] [v20] H) ⟨fun v21 H =>
 o' (abuildSliceR (some ⟨T.ty_int, 1, 8, [(.int .i64 0)]⟩) 0 [] H) ⟨fun v22 H =>
 o' (aappendR (some ⟨T.ty_int, 1, 8, [(.int .i64 0)]⟩) v22 (fr 1) H) ⟨fun v24 H =>
 o' (callP false s3 [[none, some 4, some 1], [some 1]] [v21, v24] H) ⟨fun v25 H =>
 q' (aextract v25 0) H ⟨fun v26 H =>
 q' (aextract v25 1) H ⟨fun v27 H =>
 e' [(1, fr 1), (2, fr 2), (5, v26), (6, v27)] H⟩⟩⟩⟩⟩⟩⟩)
@[simp] def r4 (s4 : SpecP) (fr : AFr) (H : AHeap) : ARes :=
 areg (q' (Ld' 3 (fr 2) H) H ⟨fun v29 H =>
 o' (callP false s4 [[none, some 4, some 1], [some 1]] [v29, (fr 1)] H) ⟨fun v31 H =>
 q' (aextract v31 0) H ⟨fun v32 H =>
 q' (aextract v31 1) H ⟨fun v33 H =>
 e' [(5, fr 5), (6, fr 6), (7, v32), (8, v33)] H⟩⟩⟩⟩)
@[simp] def r5 (fr : AFr) (H : AHeap) : ARes :=
 areg (q' (bn' .neq (fr 6) (fr 8)) H ⟨fun v36 H =>
 G' v36 false ⟨some (fr 5)⟩ H ⟨fun v38 H =>
 G' v36 false ⟨alenR .sl v38⟩ H ⟨fun v39 H =>
 G' v36 false ⟨some (fr 7)⟩ H ⟨fun v40 H =>
 G' v36 false ⟨alenR .sl v40⟩ H ⟨fun v41 H =>
 G' v36 false ⟨bn' .neq v39 v41⟩ H ⟨fun v42 H =>
 q' (apick v36 (.bool true) v42) H ⟨fun v43 H =>
 e' [(5, fr 5), (7, fr 7), (43, v43)] H⟩⟩⟩⟩⟩⟩⟩)
@[simp] def r6 (fr : AFr) (H : AHeap) : ARes :=
 areg (e' [(4, (.bool false))] H)
@[simp] def r7 (fr : AFr) (H : AHeap) : ARes :=
 areg (e' [(5, fr 5), (7, fr 7), (9, (.int .i64 0))] H)
@[simp] def r8 (fr : AFr) (H : AHeap) : ARes :=
 areg (q' (alenR .sl (fr 5)) H ⟨fun v46 H =>
 q' (bn' .lss (fr 9) v46) H ⟨fun v47 H =>
 e' [(5, fr 5), (7, fr 7), (9, fr 9), (47, v47)] H⟩⟩)
@[simp] def r10 (s5 : SpecP) (fr : AFr) (H : AHeap) : ARes :=
 areg (q' (some (fr 5)) H ⟨fun v50 H1 =>
 q' (some (fr 9)) H1 ⟨fun v51 H2 =>
 q' (aindexAddrR (.sl 1) v50 v51) H2 ⟨fun v52 H3 =>
 q' (ld' v52 H3) H3 ⟨fun v53 H4 =>
 o' (callP false s5 [[none]] [v53] H4) ⟨fun v54 H5 =>
 q' (some (fr 7)) H5 ⟨fun v55 H6 =>
 q' (some (fr 9)) H6 ⟨fun v56 H7 =>
 q' (aindexAddrR (.sl 1) v55 v56) H7 ⟨fun v57 H8 =>
 q' (ld' v57 H8) H8 ⟨fun v58 H9 =>
 q' (abinR .t .neq v54 v58) H9 ⟨fun v59 H10 =>
 withChk [aloadR (some none) v57 H4 = aloadR (some none) v57 H5] (e' [(5, fr 5), (7, fr 7), (9, fr 9), (59, v59)] H10)⟩⟩⟩⟩⟩⟩⟩⟩⟩⟩)
@[simp] def r11 (fr : AFr) (H : AHeap) : ARes :=
 areg (e' [(4, (.bool false))] H)
@[simp] def r9 (fr : AFr) (H : AHeap) : ARes :=
 areg (q' (bn' .add (fr 9) (.int .i64 1)) H ⟨fun v49 H =>
 e' [(5, fr 5), (7, fr 7), (9, v49)] H⟩)
@[simp] def r12 (s1 : SpecP) (fr : AFr) (H : AHeap) : ARes :=
 areg (o' (callP false s1 [] [] H) ⟨fun v60 H =>
 e' [(4, v60)] H⟩)
def l0 (s0 s1 s2 s3 s4 s5 : SpecP) (fr : AFr) (H : AHeap) : ARes :=
  s' (s' (r8 fr H) ⟨fun fr H =>
 c' (fr 47)
 ⟨some (.normal, fr, H)⟩
 ⟨some (.exit 0, fr, H)⟩⟩) ⟨fun fr H =>
 s' (aexit 1 (s' (r10 s5 fr H) ⟨fun fr H =>
 c' (fr 59)
 ⟨s' (r11 fr H) ⟨fun fr H =>
 some (.ret, fr, H)⟩⟩
 ⟨some (.normal, fr, H)⟩⟩)) ⟨fun fr H =>
 r9 fr H⟩⟩
@[simp] def body (s0 s1 s2 s3 s4 s5 : SpecP) (fr : AFr) (H : AHeap) : ARes :=
  s' (r0 fr H) ⟨fun fr H =>
 s' (s' (r1 s0 fr H) ⟨fun fr H =>
 c' (fr 17)
 ⟨s' (r2 s1 fr H) ⟨fun fr H =>
 some (.ret, fr, H)⟩⟩
 ⟨some (.normal, fr, H)⟩⟩) ⟨fun fr H =>
 s' (r3 s2 s3 fr H) ⟨fun fr H =>
 s' (r4 s4 fr H) ⟨fun fr H =>
 s' (s' (r5 fr H) ⟨fun fr H =>
 c' (fr 43)
 ⟨s' (r6 fr H) ⟨fun fr H =>
 some (.ret, fr, H)⟩⟩
 ⟨some (.normal, fr, H)⟩⟩) ⟨fun fr H =>
 s' (s' (r7 fr H) ⟨fun fr H =>
  aexit 0 (aloop (l0 s0 s1 s2 s3 s4 s5) fr H)⟩) ⟨fun fr H =>
 s' (r12 s1 fr H) ⟨fun fr H =>
 some (.ret, fr, H)⟩⟩⟩⟩⟩⟩⟩
@[simp] def res (fr : AFr) (H : AHeap) : Option (List AV) := res2 (some (fr 4)) (some [])
end law25_EmitCodes
def law25_EmitCodes (a0 a1 : AV) : Option AV := closeUpR (some [[none]]) (afinR law25_EmitCodes.res (law25_EmitCodes.body law25_few.spec law25_lives.spec ref19_Own.spec emit_Code.spec ref25_Lines.spec ref04_Line.spec (args0 [a0, a1]) AHeap.empty))
def law25_EmitCodes.spec : List AV → Option AV
  | [a0, a1] => law25_EmitCodes a0 a1
  | _ => none
end
end Go.Abs
