/-
  The functions, as they are over abstract values. Printed by gen.py.
-/
import Derived.Test.YteohnepdbjmghaaIrF
import Derived.Test.YteohnepdbjmghaaTeF
set_option linter.unusedVariables false
namespace Go.Abs
noncomputable section
namespace ref25_Fits
@[simp] def r0 (fr : AFr) (H : AHeap) : ARes :=
 areg (o' (abox T.ty_api_Op (fr 0) H) ⟨fun v3 H =>
 e' [(1, fr 1), (2, fr 2), (3, v3)] H⟩)
@[simp] def r1 (s0 : SpecP) (fr : AFr) (H : AHeap) : ARes :=
 areg (q' (fa' 0 (fr 3)) H ⟨fun v8 H =>
 q' (ld' v8 H) H ⟨fun v9 H =>
 q' (bn' .lss v9 (.int .i64 0)) H ⟨fun v10 H =>
 G' v10 false ⟨fa' 0 (fr 3)⟩ H ⟨fun v12 H =>
 G' v10 false ⟨ld' v12 H⟩ H ⟨fun v13 H =>
 G' v10 false ⟨bn' .gtr v13 (.int .i64 8)⟩ H ⟨fun v14 H =>
 q' (apick v10 (.bool true) v14) H ⟨fun v15 H =>
 G' v15 false ⟨some (fr 2)⟩ H ⟨fun v17 H =>
 G' v15 false ⟨alenR .sl v17⟩ H ⟨fun v18 H =>
 G' v15 false ⟨fa' 0 (fr 3)⟩ H ⟨fun v19 H =>
 G' v15 false ⟨ld' v19 H⟩ H ⟨fun v20 H =>
 o' (g' (gw v15 false) ⟨callP false s0 [[none]] [v20] H⟩ H) ⟨fun v21 H =>
 G' v15 false ⟨bn' .neq v18 v21⟩ H ⟨fun v22 H =>
 q' (apick v15 (.bool true) v22) H ⟨fun v23 H =>
 G' v23 false ⟨some (fr 1)⟩ H ⟨fun v25 H =>
 G' v23 false ⟨bn' .lss v25 (.int .i64 0)⟩ H ⟨fun v26 H =>
 q' (apick v23 (.bool true) v26) H ⟨fun v27 H =>
 G' v27 false ⟨some (fr 1)⟩ H ⟨fun v29 H =>
 G' v27 false ⟨bn' .gtr v29 (.int .i64 16000)⟩ H ⟨fun v30 H =>
 q' (apick v27 (.bool true) v30) H ⟨fun v31 H =>
 e' [(2, fr 2), (3, fr 3), (31, v31)] H⟩⟩⟩⟩⟩⟩⟩⟩⟩⟩⟩⟩⟩⟩⟩⟩⟩⟩⟩⟩)
@[simp] def r2 (fr : AFr) (H : AHeap) : ARes :=
 areg (e' [(6, (.bool false))] H)
@[simp] def r3 (fr : AFr) (H : AHeap) : ARes :=
 areg (e' [(2, fr 2), (3, fr 3), (7, (.int .i64 0))] H)
@[simp] def r4 (fr : AFr) (H : AHeap) : ARes :=
 areg (q' (alenR .sl (fr 2)) H ⟨fun v34 H =>
 q' (bn' .lss (fr 7) v34) H ⟨fun v35 H =>
 e' [(2, fr 2), (3, fr 3), (7, fr 7), (35, v35)] H⟩⟩)
@[simp] def r6 (fr : AFr) (H : AHeap) : ARes :=
 areg (q' (aindexAddrR (.sl 1) (fr 2) (fr 7)) H ⟨fun v40 H =>
 q' (ld' v40 H) H ⟨fun v41 H =>
 q' (bn' .lss v41 (.int .i64 0)) H ⟨fun v42 H =>
 G' v42 false ⟨some (fr 2)⟩ H ⟨fun v44 H =>
 G' v42 false ⟨some (fr 7)⟩ H ⟨fun v45 H =>
 G' v42 false ⟨aindexAddrR (.sl 1) v44 v45⟩ H ⟨fun v46 H =>
 G' v42 false ⟨ld' v46 H⟩ H ⟨fun v47 H =>
 G' v42 false ⟨bn' .gtr v47 (.int .i64 16000)⟩ H ⟨fun v48 H =>
 q' (apick v42 (.bool true) v48) H ⟨fun v49 H =>
 e' [(2, fr 2), (3, fr 3), (7, fr 7), (49, v49)] H⟩⟩⟩⟩⟩⟩⟩⟩⟩)
@[simp] def r7 (fr : AFr) (H : AHeap) : ARes :=
 areg (e' [(6, (.bool false))] H)
@[simp] def r5 (fr : AFr) (H : AHeap) : ARes :=
 areg (q' (bn' .add (fr 7) (.int .i64 1)) H ⟨fun v37 H =>
 e' [(2, fr 2), (3, fr 3), (7, v37)] H⟩)
@[simp] def r8 (fr : AFr) (H : AHeap) : ARes :=
 areg (q' (fa' 0 (fr 3)) H ⟨fun v50 H =>
 q' (ld' v50 H) H ⟨fun v51 H =>
 q' (bn' .eql v51 (.int .i64 7)) H ⟨fun v52 H =>
 G' v52 false ⟨fa' 3 (fr 3)⟩ H ⟨fun v54 H =>
 G' v52 false ⟨ld' v54 H⟩ H ⟨fun v55 H =>
 G' v52 false ⟨bn' .eql v55 (W32 0#32)⟩ H ⟨fun v56 H =>
 q' (apick v52 (.bool true) v56) H ⟨fun v57 H =>
 G' v57 false ⟨fa' 0 (fr 3)⟩ H ⟨fun v59 H =>
 G' v57 false ⟨ld' v59 H⟩ H ⟨fun v60 H =>
 G' v57 false ⟨bn' .geq v60 (.int .i64 4)⟩ H ⟨fun v61 H =>
 G' v57 false ⟨some v61⟩ H ⟨fun v62 H =>
 G' v62 true ⟨fa' 0 (fr 3)⟩ H ⟨fun v63 H =>
 G' v62 true ⟨ld' v63 H⟩ H ⟨fun v64 H =>
 G' v62 true ⟨bn' .leq v64 (.int .i64 6)⟩ H ⟨fun v65 H =>
 G' v57 false ⟨apick v62 v65 (.bool false)⟩ H ⟨fun v66 H =>
 G' v57 false ⟨some v66⟩ H ⟨fun v67 H =>
 G' v67 true ⟨fa' 3 (fr 3)⟩ H ⟨fun v68 H =>
 G' v67 true ⟨ld' v68 H⟩ H ⟨fun v69 H =>
 G' v67 true ⟨bn' .lss v69 (W32 32#32)⟩ H ⟨fun v70 H =>
 G' v57 false ⟨apick v67 v70 (.bool false)⟩ H ⟨fun v71 H =>
 q' (apick v57 (.bool true) v71) H ⟨fun v72 H =>
 e' [(6, v72)] H⟩⟩⟩⟩⟩⟩⟩⟩⟩⟩⟩⟩⟩⟩⟩⟩⟩⟩⟩⟩⟩)
def l0 (s0 : SpecP) (fr : AFr) (H : AHeap) : ARes :=
  s' (s' (r4 fr H) ⟨fun fr H =>
 c' (fr 35)
 ⟨some (.normal, fr, H)⟩
 ⟨some (.exit 0, fr, H)⟩⟩) ⟨fun fr H =>
 s' (aexit 1 (s' (r6 fr H) ⟨fun fr H =>
 c' (fr 49)
 ⟨s' (r7 fr H) ⟨fun fr H =>
 some (.ret, fr, H)⟩⟩
 ⟨some (.normal, fr, H)⟩⟩)) ⟨fun fr H =>
 r5 fr H⟩⟩
@[simp] def body (s0 : SpecP) (fr : AFr) (H : AHeap) : ARes :=
  s' (r0 fr H) ⟨fun fr H =>
 s' (s' (r1 s0 fr H) ⟨fun fr H =>
 c' (fr 31)
 ⟨s' (r2 fr H) ⟨fun fr H =>
 some (.ret, fr, H)⟩⟩
 ⟨some (.normal, fr, H)⟩⟩) ⟨fun fr H =>
 s' (s' (r3 fr H) ⟨fun fr H =>
  aexit 0 (aloop (l0 s0) fr H)⟩) ⟨fun fr H =>
 s' (r8 fr H) ⟨fun fr H =>
 some (.ret, fr, H)⟩⟩⟩⟩
@[simp] def res (fr : AFr) (H : AHeap) : Option (List AV) := res2 (some (fr 6)) (some [])
end ref25_Fits
def ref25_Fits (a0 a1 a2 : AV) : Option AV := closeUpR (some [[none]]) (afinR ref25_Fits.res (ref25_Fits.body ref19_Takes.spec (args0 [a0, a1, a2]) AHeap.empty))
def ref25_Fits.spec : List AV → Option AV
  | [a0, a1, a2] => ref25_Fits a0 a1 a2
  | _ => none
namespace ref25_Same
def C (s0 : SpecP) : Tab := (Tab.none.add 75 (.pure false s0))
@[simp] def r0 (fr : AFr) (H : AHeap) : ARes :=
 areg (e' [(0, fr 0), (1, fr 1)] H)
@[simp] def r1 (fr : AFr) (H : AHeap) : ARes :=
 areg (q' (alenR .sl (fr 0)) H ⟨fun v9 H =>
 q' (alenR .sl (fr 1)) H ⟨fun v11 H =>
 q' (bn' .neq v9 v11) H ⟨fun v12 H =>
 e' [(0, fr 0), (1, fr 1), (12, v12)] H⟩⟩⟩)
@[simp] def r2 (fr : AFr) (H : AHeap) : ARes :=
 areg (e' [(4, (.bool false))] H)
@[simp] def r3 (fr : AFr) (H : AHeap) : ARes :=
 areg (e' [(0, fr 0), (1, fr 1), (5, (.int .i64 0))] H)
@[simp] def r4 (fr : AFr) (H : AHeap) : ARes :=
 areg (q' (alenR .sl (fr 0)) H ⟨fun v15 H =>
 q' (bn' .lss (fr 5) v15) H ⟨fun v16 H =>
 e' [(0, fr 0), (1, fr 1), (5, fr 5), (16, v16)] H⟩⟩)
@[simp] def r6 (s0 : SpecP) (fr : AFr) (H : AHeap) : ARes :=
 areg (q' (aindexAddrR (.sl 5) (fr 0) (fr 5)) H ⟨fun v22 H =>
 q' (Ld' 5 v22 H) H ⟨fun v23 H =>
 o' (callP false s0 [[none, none, none, none, none]] [v23] H) ⟨fun v24 H =>
 q' (aextract v24 0) H ⟨fun v25 H =>
 q' (aextract v24 1) H ⟨fun v26 H =>
 e' [(0, fr 0), (1, fr 1), (5, fr 5), (6, v25), (7, v26)] H⟩⟩⟩⟩⟩)
@[simp] def r7 (fr : AFr) (H : AHeap) : ARes :=
 areg (q' (aun .not (fr 7)) H ⟨fun v28 H =>
 G' v28 false ⟨some (fr 6)⟩ H ⟨fun v30 H =>
 G' v28 false ⟨some (fr 1)⟩ H ⟨fun v31 H =>
 G' v28 false ⟨some (fr 5)⟩ H ⟨fun v32 H =>
 G' v28 false ⟨aindexAddrR (.sl 1) v31 v32⟩ H ⟨fun v33 H =>
 G' v28 false ⟨ld' v33 H⟩ H ⟨fun v34 H =>
 G' v28 false ⟨abinR .t .neq v30 v34⟩ H ⟨fun v35 H =>
 q' (apick v28 (.bool true) v35) H ⟨fun v36 H =>
 e' [(0, fr 0), (1, fr 1), (5, fr 5), (36, v36)] H⟩⟩⟩⟩⟩⟩⟩⟩)
@[simp] def r8 (fr : AFr) (H : AHeap) : ARes :=
 areg (e' [(4, (.bool false))] H)
@[simp] def r5 (fr : AFr) (H : AHeap) : ARes :=
 areg (q' (bn' .add (fr 5) (.int .i64 1)) H ⟨fun v18 H =>
 e' [(0, fr 0), (1, fr 1), (5, v18)] H⟩)
@[simp] def r9 (fr : AFr) (H : AHeap) : ARes :=
 areg (e' [(4, (.bool true))] H)
def l0 (s0 : SpecP) (fr : AFr) (H : AHeap) : ARes :=
  s' (s' (r4 fr H) ⟨fun fr H =>
 c' (fr 16)
 ⟨some (.normal, fr, H)⟩
 ⟨some (.exit 0, fr, H)⟩⟩) ⟨fun fr H =>
 s' (aexit 1 (s' (r6 s0 fr H) ⟨fun fr H =>
 s' (r7 fr H) ⟨fun fr H =>
 c' (fr 36)
 ⟨s' (r8 fr H) ⟨fun fr H =>
 some (.ret, fr, H)⟩⟩
 ⟨some (.normal, fr, H)⟩⟩⟩)) ⟨fun fr H =>
 r5 fr H⟩⟩
@[simp] def body (s0 : SpecP) (fr : AFr) (H : AHeap) : ARes :=
  s' (r0 fr H) ⟨fun fr H =>
 s' (s' (r1 fr H) ⟨fun fr H =>
 c' (fr 12)
 ⟨s' (r2 fr H) ⟨fun fr H =>
 some (.ret, fr, H)⟩⟩
 ⟨some (.normal, fr, H)⟩⟩) ⟨fun fr H =>
 s' (s' (r3 fr H) ⟨fun fr H =>
  aexit 0 (aloop (l0 s0) fr H)⟩) ⟨fun fr H =>
 s' (r9 fr H) ⟨fun fr H =>
 some (.ret, fr, H)⟩⟩⟩⟩
@[simp] def res (fr : AFr) (H : AHeap) : Option (List AV) := res2 (some (fr 4)) (some [])
end ref25_Same
def ref25_Same (a0 a1 : AV) : Option AV := closeUpR (some [[none]]) (afinR ref25_Same.res (ref25_Same.body ref04_Show.spec (args0 [a0, a1]) AHeap.empty))
def ref25_Same.spec : List AV → Option AV
  | [a0, a1] => ref25_Same a0 a1
  | _ => none
namespace ref25_Slot
def C (s0 : SpecP) : Tab := (Tab.none.add 76 (.pure false s0))
@[simp] def r0 (fr : AFr) (H : AHeap) : ARes :=
 areg (e' [(0, fr 0)] H)
@[simp] def r1 (fr : AFr) (H : AHeap) : ARes :=
 areg (q' (bn' .mul (.int .i64 4) (fr 0)) H ⟨fun v5 H =>
 e' [(0, fr 0), (3, v5)] H⟩)
@[simp] def r2 (fr : AFr) (H : AHeap) : ARes :=
 areg (q' (bn' .lss (fr 0) (.int .i64 0)) H ⟨fun v7 H =>
 G' v7 false ⟨some (fr 0)⟩ H ⟨fun v9 H =>
 G' v7 false ⟨bn' .gtr v9 (.int .i64 16000)⟩ H ⟨fun v10 H =>
 q' (apick v7 (.bool true) v10) H ⟨fun v11 H =>
 e' [(3, fr 3), (11, v11)] H⟩⟩⟩⟩)
@[simp] def r3 (fr : AFr) (H : AHeap) : ARes :=
 areg (o' (abuildSliceR (some ⟨T.ty_string, 1, 16, [(.str (bs []))]⟩) 0 [] H) ⟨fun v12 H =>
 e' [(2, v12)] H⟩)
@[simp] def r4 (fr : AFr) (H : AHeap) : ARes :=
 areg (q' (bn' .lss (fr 3) (.int .i64 256)) H ⟨fun v14 H =>
 e' [(3, fr 3), (14, v14)] H⟩)
@[simp] def r5 (s0 : SpecP) (fr : AFr) (H : AHeap) : ARes :=
 areg (o' (callP false s0 [[none]] [(fr 3)] H) ⟨fun v16 H =>
 q' (abinR .t .add (.str (bs [109, 111, 118, 115, 32, 114, 54, 44, 32, 35])) v16) H ⟨fun v17 H =>
 o' (abuildSliceR (some ⟨T.ty_string, 1, 16, [(.str (bs []))]⟩) 1 [(0, v17)] H) ⟨fun v18 H =>
 e' [(2, v18)] H⟩⟩⟩)
@[simp] def r6 (s0 : SpecP) (fr : AFr) (H : AHeap) : ARes :=
 areg (q' (bn' .quo (fr 3) (.int .i64 256)) H ⟨fun v20 H =>
 o' (callP false s0 [[none]] [v20] H) ⟨fun v21 H =>
 q' (abinR .t .add (.str (bs [109, 111, 118, 115, 32, 114, 54, 44, 32, 35])) v21) H ⟨fun v22 H =>
 q' (bn' .rem (fr 3) (.int .i64 256)) H ⟨fun v24 H =>
 o' (callP false s0 [[none]] [v24] H) ⟨fun v25 H =>
 q' (abinR .t .add (.str (bs [97, 100, 100, 115, 32, 114, 54, 44, 32, 35])) v25) H ⟨fun v26 H =>
 o' (abuildSliceR (some ⟨T.ty_string, 1, 16, [(.str (bs []))]⟩) 3 [(0, v22), (1, (.str (bs [108, 115, 108, 115, 32, 114, 54, 44, 32, 114, 54, 44, 32, 35, 56]))), (2, v26)] H) ⟨fun v27 H =>
 e' [(2, v27)] H⟩⟩⟩⟩⟩⟩⟩)
@[simp] def body (s0 : SpecP) (fr : AFr) (H : AHeap) : ARes :=
  s' (r0 fr H) ⟨fun fr H =>
 s' (r1 fr H) ⟨fun fr H =>
 s' (s' (r2 fr H) ⟨fun fr H =>
 c' (fr 11)
 ⟨s' (r3 fr H) ⟨fun fr H =>
 some (.ret, fr, H)⟩⟩
 ⟨some (.normal, fr, H)⟩⟩) ⟨fun fr H =>
 s' (s' (r4 fr H) ⟨fun fr H =>
 c' (fr 14)
 ⟨s' (r5 s0 fr H) ⟨fun fr H =>
 some (.ret, fr, H)⟩⟩
 ⟨some (.normal, fr, H)⟩⟩) ⟨fun fr H =>
 s' (r6 s0 fr H) ⟨fun fr H =>
 some (.ret, fr, H)⟩⟩⟩⟩⟩
@[simp] def res (fr : AFr) (H : AHeap) : Option (List AV) := res2 (some (fr 2)) (some [])
end ref25_Slot
def ref25_Slot (a0 : AV) : Option AV := closeUpR (some [[some 1]]) (afinR ref25_Slot.res (ref25_Slot.body ref04_Num.spec (args0 [a0]) AHeap.empty))
def ref25_Slot.spec : List AV → Option AV
  | [a0] => ref25_Slot a0
  | _ => none
namespace ref25_Step
def C (s0 s1 : SpecP) : Tab := ((Tab.none.add 28 (.pure false s0)).add 76 (.pure false s1))
@[simp] def r0 (fr : AFr) (H : AHeap) : ARes :=
 areg (o' (abox T.ty_api_Op (fr 0) H) ⟨fun v3 H =>
 e' [(1, fr 1), (2, fr 2), (3, v3)] H⟩)
@[simp] def r1 (fr : AFr) (H : AHeap) : ARes :=
 areg (o' (abuildSliceR (some ⟨T.ty_string, 1, 16, [(.str (bs []))]⟩) 1 [(0, (.str (bs [109, 111, 118, 115, 32, 114, 48, 44, 32, 35, 48])))] H) ⟨fun v13 H =>
 e' [(1, fr 1), (2, fr 2), (3, fr 3), (7, v13)] H⟩)
@[simp] def r2 (fr : AFr) (H : AHeap) : ARes :=
 areg (q' (fa' 0 (fr 3)) H ⟨fun v14 H =>
 q' (ld' v14 H) H ⟨fun v15 H =>
 q' (bn' .eql v15 (.int .i64 1)) H ⟨fun v16 H =>
 G' v16 false ⟨fa' 0 (fr 3)⟩ H ⟨fun v18 H =>
 G' v16 false ⟨ld' v18 H⟩ H ⟨fun v19 H =>
 G' v16 false ⟨bn' .eql v19 (.int .i64 2)⟩ H ⟨fun v20 H =>
 q' (apick v16 (.bool true) v20) H ⟨fun v21 H =>
 e' [(1, fr 1), (2, fr 2), (3, fr 3), (7, fr 7), (21, v21)] H⟩⟩⟩⟩⟩⟩⟩)
@[simp] def r3 (fr : AFr) (H : AHeap) : ARes :=
 areg (o' (abuildSliceR (some ⟨T.ty_string, 1, 16, [(.str (bs []))]⟩) 1 [(0, (.str (bs [109, 111, 118, 115, 32, 114, 49, 44, 32, 35, 48])))] H) ⟨fun v23 H =>
 o' (aappendR (some ⟨T.ty_string, 1, 16, [(.str (bs []))]⟩) (fr 7) v23 H) ⟨fun v24 H =>
 e' [(1, fr 1), (2, fr 2), (3, fr 3), (7, v24)] H⟩⟩)
@[simp] def r4 (fr : AFr) (H : AHeap) : ARes :=
 areg (e' [(1, fr 1), (2, fr 2), (3, fr 3), (7, fr 7), (8, (.int .i64 0))] H)
@[simp] def r5 (fr : AFr) (H : AHeap) : ARes :=
 areg (q' (alenR .sl (fr 2)) H ⟨fun v27 H =>
 q' (bn' .lss (fr 8) v27) H ⟨fun v28 H =>
 e' [(1, fr 1), (2, fr 2), (3, fr 3), (7, fr 7), (8, fr 8), (28, v28)] H⟩⟩)
@[simp] def r7 (s0 s1 : SpecP) (fr : AFr) (H : AHeap) : ARes :=
 areg (q' (aindexAddrR (.sl 1) (fr 2) (fr 8)) H ⟨fun v34 H =>
 q' (ld' v34 H) H ⟨fun v35 H =>
 o' (callP false s0 [[none]] [v35] H) ⟨fun v36 H =>
 o' (aappendR (some ⟨T.ty_string, 1, 16, [(.str (bs []))]⟩) (fr 7) v36 H) ⟨fun v37 H =>
 o' (callP false s1 [[none]] [(fr 8)] H) ⟨fun v39 H =>
 q' (abinR .t .add (.str (bs [108, 100, 114, 32, 114])) v39) H ⟨fun v40 H =>
 q' (abinR .t .add v40 (.str (bs [44, 32, 91, 114, 55, 44, 32, 114, 54, 93]))) H ⟨fun v41 H =>
 o' (abuildSliceR (some ⟨T.ty_string, 1, 16, [(.str (bs []))]⟩) 1 [(0, v41)] H) ⟨fun v42 H =>
 o' (aappendR (some ⟨T.ty_string, 1, 16, [(.str (bs []))]⟩) v37 v42 H) ⟨fun v43 H =>
 e' [(1, fr 1), (2, fr 2), (3, fr 3), (7, v43), (8, fr 8)] H⟩⟩⟩⟩⟩⟩⟩⟩⟩)
@[simp] def r6 (fr : AFr) (H : AHeap) : ARes :=
 areg (q' (bn' .add (fr 8) (.int .i64 1)) H ⟨fun v30 H =>
 e' [(1, fr 1), (2, fr 2), (3, fr 3), (7, fr 7), (8, v30)] H⟩)
@[simp] def r8 (s1 : SpecP) (fr : AFr) (H : AHeap) : ARes :=
 areg (q' (fa' 3 (fr 3)) H ⟨fun v44 H =>
 q' (ld' v44 H) H ⟨fun v45 H =>
 q' (aconvR (some .i64) v45) H ⟨fun v46 H =>
 o' (callP false s1 [[none]] [v46] H) ⟨fun v47 H =>
 e' [(1, fr 1), (3, fr 3), (7, fr 7), (9, v47)] H⟩⟩⟩⟩)
@[simp] def r9 (fr : AFr) (H : AHeap) : ARes :=
 areg (q' (fa' 0 (fr 3)) H ⟨fun v48 H =>
 q' (ld' v48 H) H ⟨fun v49 H =>
 e' [(1, fr 1), (3, fr 3), (7, fr 7), (9, fr 9), (49, v49)] H⟩⟩)
@[simp] def r10 (fr : AFr) (H : AHeap) : ARes :=
 areg (q' (bn' .eql (fr 49) (.int .i64 0)) H ⟨fun v51 H =>
 e' [(1, fr 1), (3, fr 3), (7, fr 7), (9, fr 9), (49, fr 49), (50, v51)] H⟩)
@[simp] def r11 (fr : AFr) (H : AHeap) : ARes :=
 areg (o' (abuildSliceR (some ⟨T.ty_string, 1, 16, [(.str (bs []))]⟩) 1 [(0, (.str (bs [108, 100, 114, 32, 114, 48, 44, 32, 91, 114, 53, 44, 32, 35, 48, 93])))] H) ⟨fun v53 H =>
 o' (aappendR (some ⟨T.ty_string, 1, 16, [(.str (bs []))]⟩) (fr 7) v53 H) ⟨fun v54 H =>
 e' [(1, fr 1), (7, v54)] H⟩⟩)
@[simp] def r12 (fr : AFr) (H : AHeap) : ARes :=
 areg (q' (bn' .eql (fr 49) (.int .i64 1)) H ⟨fun v56 H =>
 e' [(1, fr 1), (3, fr 3), (7, fr 7), (9, fr 9), (49, fr 49), (55, v56)] H⟩)
@[simp] def r13 (fr : AFr) (H : AHeap) : ARes :=
 areg (o' (abuildSliceR (some ⟨T.ty_string, 1, 16, [(.str (bs []))]⟩) 1 [(0, (.str (bs [97, 110, 100, 115, 32, 114, 48, 44, 32, 114, 49])))] H) ⟨fun v58 H =>
 o' (aappendR (some ⟨T.ty_string, 1, 16, [(.str (bs []))]⟩) (fr 7) v58 H) ⟨fun v59 H =>
 e' [(1, fr 1), (7, v59)] H⟩⟩)
@[simp] def r14 (fr : AFr) (H : AHeap) : ARes :=
 areg (q' (bn' .eql (fr 49) (.int .i64 2)) H ⟨fun v61 H =>
 e' [(1, fr 1), (3, fr 3), (7, fr 7), (9, fr 9), (49, fr 49), (60, v61)] H⟩)
@[simp] def r15 (fr : AFr) (H : AHeap) : ARes :=
 areg (o' (abuildSliceR (some ⟨T.ty_string, 1, 16, [(.str (bs []))]⟩) 1 [(0, (.str (bs [101, 111, 114, 115, 32, 114, 48, 44, 32, 114, 49])))] H) ⟨fun v63 H =>
 o' (aappendR (some ⟨T.ty_string, 1, 16, [(.str (bs []))]⟩) (fr 7) v63 H) ⟨fun v64 H =>
 e' [(1, fr 1), (7, v64)] H⟩⟩)
@[simp] def r16 (fr : AFr) (H : AHeap) : ARes :=
 areg (q' (bn' .eql (fr 49) (.int .i64 3)) H ⟨fun v66 H =>
 e' [(1, fr 1), (3, fr 3), (7, fr 7), (9, fr 9), (49, fr 49), (65, v66)] H⟩)
@[simp] def r17 (fr : AFr) (H : AHeap) : ARes :=
 areg (o' (abuildSliceR (some ⟨T.ty_string, 1, 16, [(.str (bs []))]⟩) 1 [(0, (.str (bs [109, 118, 110, 115, 32, 114, 48, 44, 32, 114, 48])))] H) ⟨fun v68 H =>
 o' (aappendR (some ⟨T.ty_string, 1, 16, [(.str (bs []))]⟩) (fr 7) v68 H) ⟨fun v69 H =>
 e' [(1, fr 1), (7, v69)] H⟩⟩)
@[simp] def r18 (fr : AFr) (H : AHeap) : ARes :=
 areg (q' (bn' .eql (fr 49) (.int .i64 4)) H ⟨fun v71 H =>
 e' [(1, fr 1), (3, fr 3), (7, fr 7), (9, fr 9), (49, fr 49), (70, v71)] H⟩)
@[simp] def r19 (fr : AFr) (H : AHeap) : ARes :=
 areg (q' (abinR .t .add (.str (bs [108, 115, 108, 115, 32, 114, 48, 44, 32, 114, 48, 44, 32, 35])) (fr 9)) H ⟨fun v74 H =>
 o' (abuildSliceR (some ⟨T.ty_string, 1, 16, [(.str (bs []))]⟩) 1 [(0, v74)] H) ⟨fun v75 H =>
 o' (aappendR (some ⟨T.ty_string, 1, 16, [(.str (bs []))]⟩) (fr 7) v75 H) ⟨fun v76 H =>
 e' [(1, fr 1), (7, v76)] H⟩⟩⟩)
@[simp] def r20 (fr : AFr) (H : AHeap) : ARes :=
 areg (q' (bn' .eql (fr 49) (.int .i64 5)) H ⟨fun v78 H =>
 e' [(1, fr 1), (3, fr 3), (7, fr 7), (9, fr 9), (49, fr 49), (77, v78)] H⟩)
@[simp] def r21 (fr : AFr) (H : AHeap) : ARes :=
 areg (q' (fa' 3 (fr 3)) H ⟨fun v79 H =>
 q' (ld' v79 H) H ⟨fun v80 H =>
 q' (bn' .eql v80 (W32 0#32)) H ⟨fun v81 H =>
 e' [(1, fr 1), (7, fr 7), (9, fr 9), (81, v81)] H⟩⟩⟩)
@[simp] def r22 (fr : AFr) (H : AHeap) : ARes :=
 areg (o' (abuildSliceR (some ⟨T.ty_string, 1, 16, [(.str (bs []))]⟩) 1 [(0, (.str (bs [108, 115, 108, 115, 32, 114, 48, 44, 32, 114, 48, 44, 32, 35, 48])))] H) ⟨fun v83 H =>
 o' (aappendR (some ⟨T.ty_string, 1, 16, [(.str (bs []))]⟩) (fr 7) v83 H) ⟨fun v84 H =>
 e' [(1, fr 1), (7, v84)] H⟩⟩)
@[simp] def r23 (fr : AFr) (H : AHeap) : ARes :=
 areg (q' (abinR .t .add (.str (bs [108, 115, 114, 115, 32, 114, 48, 44, 32, 114, 48, 44, 32, 35])) (fr 9)) H ⟨fun v87 H =>
 o' (abuildSliceR (some ⟨T.ty_string, 1, 16, [(.str (bs []))]⟩) 1 [(0, v87)] H) ⟨fun v88 H =>
 o' (aappendR (some ⟨T.ty_string, 1, 16, [(.str (bs []))]⟩) (fr 7) v88 H) ⟨fun v89 H =>
 e' [(1, fr 1), (7, v89)] H⟩⟩⟩)
@[simp] def r24 (fr : AFr) (H : AHeap) : ARes :=
 areg (q' (bn' .eql (fr 49) (.int .i64 6)) H ⟨fun v91 H =>
 e' [(1, fr 1), (3, fr 3), (7, fr 7), (49, fr 49), (90, v91)] H⟩)
@[simp] def r25 (s1 : SpecP) (fr : AFr) (H : AHeap) : ARes :=
 areg (q' (fa' 3 (fr 3)) H ⟨fun v93 H =>
 q' (ld' v93 H) H ⟨fun v94 H =>
 q' (bn' .sub (W32 32#32) v94) H ⟨fun v95 H =>
 q' (aconvR (some .i64) v95) H ⟨fun v96 H =>
 q' (bn' .rem v96 (.int .i64 32)) H ⟨fun v97 H =>
 o' (callP false s1 [[none]] [v97] H) ⟨fun v98 H =>
 q' (abinR .t .add (.str (bs [109, 111, 118, 115, 32, 114, 50, 44, 32, 35])) v98) H ⟨fun v99 H =>
 o' (abuildSliceR (some ⟨T.ty_string, 1, 16, [(.str (bs []))]⟩) 2 [(0, v99), (1, (.str (bs [114, 111, 114, 115, 32, 114, 48, 44, 32, 114, 50])))] H) ⟨fun v100 H =>
 o' (aappendR (some ⟨T.ty_string, 1, 16, [(.str (bs []))]⟩) (fr 7) v100 H) ⟨fun v101 H =>
 e' [(1, fr 1), (7, v101)] H⟩⟩⟩⟩⟩⟩⟩⟩⟩)
@[simp] def r26 (fr : AFr) (H : AHeap) : ARes :=
 areg (q' (bn' .eql (fr 49) (.int .i64 7)) H ⟨fun v103 H =>
 e' [(1, fr 1), (3, fr 3), (7, fr 7), (102, v103)] H⟩)
@[simp] def r27 (fr : AFr) (H : AHeap) : ARes :=
 areg (o' (abuildSliceR (some ⟨T.ty_int, 1, 8, [(.int .i64 0)]⟩) 0 [] H) ⟨fun v104 H1 =>
 q' (fa' 3 (fr 3)) H1 ⟨fun v105 H2 =>
 q' (ld' v105 H2) H2 ⟨fun v106 H3 =>
 q' (aconvR (some .i64) v106) H3 ⟨fun v107 H4 =>
 q' (some v104) H4 ⟨fun v10 H5 =>
 q' (some v107) H5 ⟨fun v11 H6 =>
 e' [(1, fr 1), (7, fr 7), (10, v10), (11, v11)] H6⟩⟩⟩⟩⟩⟩)
@[simp] def r28 (fr : AFr) (H : AHeap) : ARes :=
 areg (q' (bn' .gtr (fr 11) (.int .i64 0)) H ⟨fun v109 H =>
 G' v109 false ⟨some (fr 10)⟩ H ⟨fun v111 H =>
 G' v109 false ⟨alenR .sl v111⟩ H ⟨fun v112 H =>
 G' v109 false ⟨bn' .eql v112 (.int .i64 0)⟩ H ⟨fun v113 H =>
 q' (apick v109 (.bool true) v113) H ⟨fun v114 H =>
 e' [(1, fr 1), (7, fr 7), (10, fr 10), (11, fr 11), (114, v114)] H⟩⟩⟩⟩⟩)
@[simp] def r29 (fr : AFr) (H : AHeap) : ARes :=
 areg (q' (bn' .rem (fr 11) (.int .i64 256)) H ⟨fun v117 H =>
 o' (abuildSliceR (some ⟨T.ty_int, 1, 8, [(.int .i64 0)]⟩) 1 [(0, v117)] H) ⟨fun v118 H =>
 o' (aappendR (some ⟨T.ty_int, 1, 8, [(.int .i64 0)]⟩) (fr 10) v118 H) ⟨fun v119 H =>
 q' (bn' .quo (fr 11) (.int .i64 256)) H ⟨fun v121 H =>
 e' [(1, fr 1), (7, fr 7), (10, v119), (11, v121)] H⟩⟩⟩⟩)
@[simp] def r30 (s1 : SpecP) (fr : AFr) (H : AHeap) : ARes :=
 areg (q' (alenR .sl (fr 10)) H ⟨fun v125 H =>
 q' (bn' .sub v125 (.int .i64 1)) H ⟨fun v126 H =>
 q' (aindexAddrR (.sl 1) (fr 10) v126) H ⟨fun v127 H =>
 q' (ld' v127 H) H ⟨fun v128 H =>
 o' (callP false s1 [[none]] [v128] H) ⟨fun v129 H =>
 q' (abinR .t .add (.str (bs [109, 111, 118, 115, 32, 114, 48, 44, 32, 35])) v129) H ⟨fun v130 H =>
 o' (abuildSliceR (some ⟨T.ty_string, 1, 16, [(.str (bs []))]⟩) 1 [(0, v130)] H) ⟨fun v131 H =>
 o' (aappendR (some ⟨T.ty_string, 1, 16, [(.str (bs []))]⟩) (fr 7) v131 H) ⟨fun v132 H =>
 e' [(1, fr 1), (7, v132), (10, fr 10)] H⟩⟩⟩⟩⟩⟩⟩⟩)
@[simp] def r31 (fr : AFr) (H : AHeap) : ARes :=
 areg (q' (alenR .sl (fr 10)) H ⟨fun v134 H =>
 q' (bn' .sub v134 (.int .i64 2)) H ⟨fun v135 H =>
 e' [(1, fr 1), (7, fr 7), (10, fr 10), (12, v135)] H⟩⟩)
@[simp] def r32 (fr : AFr) (H : AHeap) : ARes :=
 areg (q' (bn' .geq (fr 12) (.int .i64 0)) H ⟨fun v137 H =>
 e' [(1, fr 1), (7, fr 7), (10, fr 10), (12, fr 12), (137, v137)] H⟩)
@[simp] def r34 (s1 : SpecP) (fr : AFr) (H : AHeap) : ARes :=
 areg (q' (aindexAddrR (.sl 1) (fr 10) (fr 12)) H ⟨fun v143 H =>
 q' (ld' v143 H) H ⟨fun v144 H =>
 o' (callP false s1 [[none]] [v144] H) ⟨fun v145 H =>
 q' (abinR .t .add (.str (bs [97, 100, 100, 115, 32, 114, 48, 44, 32, 35])) v145) H ⟨fun v146 H =>
 o' (abuildSliceR (some ⟨T.ty_string, 1, 16, [(.str (bs []))]⟩) 2 [(0, (.str (bs [108, 115, 108, 115, 32, 114, 48, 44, 32, 114, 48, 44, 32, 35, 56]))), (1, v146)] H) ⟨fun v147 H =>
 o' (aappendR (some ⟨T.ty_string, 1, 16, [(.str (bs []))]⟩) (fr 7) v147 H) ⟨fun v148 H =>
 e' [(1, fr 1), (7, v148), (10, fr 10), (12, fr 12)] H⟩⟩⟩⟩⟩⟩)
@[simp] def r33 (fr : AFr) (H : AHeap) : ARes :=
 areg (q' (bn' .sub (fr 12) (.int .i64 1)) H ⟨fun v139 H =>
 e' [(1, fr 1), (7, fr 7), (10, fr 10), (12, v139)] H⟩)
@[simp] def r35 (s0 : SpecP) (fr : AFr) (H : AHeap) : ARes :=
 areg (o' (callP false s0 [[none]] [(fr 1)] H) ⟨fun v151 H =>
 o' (aappendR (some ⟨T.ty_string, 1, 16, [(.str (bs []))]⟩) (fr 7) v151 H) ⟨fun v152 H =>
 o' (abuildSliceR (some ⟨T.ty_string, 1, 16, [(.str (bs []))]⟩) 1 [(0, (.str (bs [115, 116, 114, 32, 114, 48, 44, 32, 91, 114, 55, 44, 32, 114, 54, 93])))] H) ⟨fun v153 H =>
 o' (aappendR (some ⟨T.ty_string, 1, 16, [(.str (bs []))]⟩) v152 v153 H) ⟨fun v154 H =>
 e' [(6, v154)] H⟩⟩⟩⟩)
def l0 (s0 s1 : SpecP) (fr : AFr) (H : AHeap) : ARes :=
  s' (s' (r5 fr H) ⟨fun fr H =>
 c' (fr 28)
 ⟨some (.normal, fr, H)⟩
 ⟨some (.exit 0, fr, H)⟩⟩) ⟨fun fr H =>
 s' (aexit 1 (r7 s0 s1 fr H)) ⟨fun fr H =>
 r6 fr H⟩⟩
def l1 (s0 s1 : SpecP) (fr : AFr) (H : AHeap) : ARes :=
  s' (s' (r28 fr H) ⟨fun fr H =>
 c' (fr 114)
 ⟨some (.normal, fr, H)⟩
 ⟨some (.exit 3, fr, H)⟩⟩) ⟨fun fr H =>
  aexit 4 (r29 fr H)⟩
def l2 (s0 s1 : SpecP) (fr : AFr) (H : AHeap) : ARes :=
  s' (s' (r32 fr H) ⟨fun fr H =>
 c' (fr 137)
 ⟨some (.normal, fr, H)⟩
 ⟨some (.exit 5, fr, H)⟩⟩) ⟨fun fr H =>
 s' (aexit 6 (r34 s1 fr H)) ⟨fun fr H =>
 r33 fr H⟩⟩
@[simp] def body (s0 s1 : SpecP) (fr : AFr) (H : AHeap) : ARes :=
  s' (r0 fr H) ⟨fun fr H =>
 s' (r1 fr H) ⟨fun fr H =>
 s' (s' (r2 fr H) ⟨fun fr H =>
 c' (fr 21)
 ⟨r3 fr H⟩
 ⟨some (.normal, fr, H)⟩⟩) ⟨fun fr H =>
 s' (s' (r4 fr H) ⟨fun fr H =>
  aexit 0 (aloop (l0 s0 s1) fr H)⟩) ⟨fun fr H =>
 s' (r8 s1 fr H) ⟨fun fr H =>
 s' (s' (r9 fr H) ⟨fun fr H =>
  aexit 2 (s' (r10 fr H) ⟨fun fr H =>
 c' (fr 50)
 ⟨r11 fr H⟩
 ⟨s' (r12 fr H) ⟨fun fr H =>
 c' (fr 55)
 ⟨r13 fr H⟩
 ⟨s' (r14 fr H) ⟨fun fr H =>
 c' (fr 60)
 ⟨r15 fr H⟩
 ⟨s' (r16 fr H) ⟨fun fr H =>
 c' (fr 65)
 ⟨r17 fr H⟩
 ⟨s' (r18 fr H) ⟨fun fr H =>
 c' (fr 70)
 ⟨r19 fr H⟩
 ⟨s' (r20 fr H) ⟨fun fr H =>
 c' (fr 77)
 ⟨s' (r21 fr H) ⟨fun fr H =>
 c' (fr 81)
 ⟨r22 fr H⟩
 ⟨r23 fr H⟩⟩⟩
 ⟨s' (r24 fr H) ⟨fun fr H =>
 c' (fr 90)
 ⟨r25 s1 fr H⟩
 ⟨s' (r26 fr H) ⟨fun fr H =>
 c' (fr 102)
 ⟨s' (r27 fr H) ⟨fun fr H =>
 s' (aexit 3 (aloop (l1 s0 s1) fr H)) ⟨fun fr H =>
 s' (r30 s1 fr H) ⟨fun fr H =>
 s' (r31 fr H) ⟨fun fr H =>
                  aexit 5 (aloop (l2 s0 s1) fr H)⟩⟩⟩⟩⟩
 ⟨some (.normal, fr, H)⟩⟩⟩⟩⟩⟩⟩⟩⟩⟩⟩⟩⟩⟩⟩⟩)⟩) ⟨fun fr H =>
 s' (r35 s0 fr H) ⟨fun fr H =>
 some (.ret, fr, H)⟩⟩⟩⟩⟩⟩⟩
@[simp] def res (fr : AFr) (H : AHeap) : Option (List AV) := res2 (some (fr 6)) (some [])
end ref25_Step
def ref25_Step (a0 a1 a2 : AV) : Option AV := closeUpR (some [[some 1]]) (afinR ref25_Step.res (ref25_Step.body ref25_Slot.spec ref04_Num.spec (args0 [a0, a1, a2]) AHeap.empty))
def ref25_Step.spec : List AV → Option AV
  | [a0, a1, a2] => ref25_Step a0 a1 a2
  | _ => none
namespace ref25_Begin
@[simp] def r0 (fr : AFr) (H : AHeap) : ARes :=
 areg (e' [] H)
@[simp] def r1 (fr : AFr) (H : AHeap) : ARes :=
 areg (o' (abuildSliceR (some ⟨T.ty_string, 1, 16, [(.str (bs []))]⟩) 4 [(0, (.str (bs [109, 111, 118, 115, 32, 114, 55, 44, 32, 35, 51, 50]))), (1, (.str (bs [108, 115, 108, 115, 32, 114, 55, 44, 32, 114, 55, 44, 32, 35, 50, 52]))), (2, (.str (bs [109, 111, 118, 115, 32, 114, 53, 44, 32, 35, 54, 52]))), (3, (.str (bs [108, 115, 108, 115, 32, 114, 53, 44, 32, 114, 53, 44, 32, 35, 50, 52])))] H) ⟨fun v1 H =>
 e' [(0, v1)] H⟩)
@[simp] def body (fr : AFr) (H : AHeap) : ARes :=
  s' (r0 fr H) ⟨fun fr H =>
 s' (r1 fr H) ⟨fun fr H =>
 some (.ret, fr, H)⟩⟩
@[simp] def res (fr : AFr) (H : AHeap) : Option (List AV) := res2 (some (fr 0)) (some [])
end ref25_Begin
def ref25_Begin : Option AV := closeUpR (some [[some 1]]) (afinR ref25_Begin.res (ref25_Begin.body (args0 []) AHeap.empty))
def ref25_Begin.spec : List AV → Option AV
  | [] => ref25_Begin
  | _ => none
namespace ref25_Begin_ref
def C : Tab := Tab.none
@[simp] def r0 (fr : AFr) (H : AHeap) : ARes :=
 areg (e' [] H)
@[simp] def r1 (fr : AFr) (H : AHeap) : ARes :=
 areg (o' (abuildSliceR (some ⟨T.ty_string, 1, 16, [(.str (bs []))]⟩) 4 [(0, (.str (bs [109, 111, 118, 115, 32, 114, 55, 44, 32, 35, 51, 50]))), (1, (.str (bs [108, 115, 108, 115, 32, 114, 55, 44, 32, 114, 55, 44, 32, 35, 50, 52]))), (2, (.str (bs [109, 111, 118, 115, 32, 114, 53, 44, 32, 35, 54, 52]))), (3, (.str (bs [108, 115, 108, 115, 32, 114, 53, 44, 32, 114, 53, 44, 32, 35, 50, 52])))] H) ⟨fun v1 H =>
 e' [(0, v1)] H⟩)
@[simp] def body (fr : AFr) (H : AHeap) : ARes :=
  s' (r0 fr H) ⟨fun fr H =>
 s' (r1 fr H) ⟨fun fr H =>
 some (.ret, fr, H)⟩⟩
@[simp] def res (fr : AFr) (H : AHeap) : Option (List AV) := res2 (some (fr 0)) (some [])
end ref25_Begin_ref
def ref25_Begin_ref (H : AHeap) : Option (AV × AHeap) := raw (afinR ref25_Begin_ref.res (ref25_Begin_ref.body (args0 []) H))
def ref25_Begin_ref.spec : List AV → AHeap → Option (AV × AHeap)
  | [], H => ref25_Begin_ref H
  | _, _ => none
namespace ref25_Lines
def C (s0 : SpecP) (s1 : SpecM) (s2 s3 : SpecP) : Tab := ((((Tab.none.add 82 (.pure false s0)).add 30 (.ref [] s1)).add 74 (.pure false s2)).add 26 (.pure false s3))
@[simp] def r0 (fr : AFr) (H : AHeap) : ARes :=
 areg (o' (abox T.ty_api_Code (fr 0) H) ⟨fun v2 H =>
 e' [(1, fr 1), (2, v2)] H⟩)
@[simp] def r1 (s0 : SpecP) (fr : AFr) (H : AHeap) : ARes :=
 areg (q' (Ld' 3 (fr 2) H) H ⟨fun v11 H =>
 o' (callP false s0 [[none, some 4, some 1]] [v11] H) ⟨fun v12 H =>
 q' (aun .not v12) H ⟨fun v13 H =>
 G' v13 false ⟨some (fr 1)⟩ H ⟨fun v15 H =>
 G' v13 false ⟨alenR .sl v15⟩ H ⟨fun v16 H =>
 G' v13 false ⟨fa' 0 (fr 2)⟩ H ⟨fun v17 H =>
 G' v13 false ⟨ld' v17 H⟩ H ⟨fun v18 H =>
 G' v13 false ⟨fa' 1 (fr 2)⟩ H ⟨fun v19 H =>
 G' v13 false ⟨ld' v19 H⟩ H ⟨fun v20 H =>
 G' v13 false ⟨alenR .sl v20⟩ H ⟨fun v21 H =>
 G' v13 false ⟨bn' .add v18 v21⟩ H ⟨fun v22 H =>
 G' v13 false ⟨bn' .neq v16 v22⟩ H ⟨fun v23 H =>
 q' (apick v13 (.bool true) v23) H ⟨fun v24 H =>
 e' [(1, fr 1), (2, fr 2), (24, v24)] H⟩⟩⟩⟩⟩⟩⟩⟩⟩⟩⟩⟩⟩)
@[simp] def r2 (fr : AFr) (H : AHeap) : ARes :=
 areg (o' (abuildSliceR (some ⟨T.ty_string, 1, 16, [(.str (bs []))]⟩) 0 [] H) ⟨fun v25 H =>
 e' [(4, v25), (5, (.int .i64 1))] H⟩)
@[simp] def r3 (fr : AFr) (H : AHeap) : ARes :=
 areg (e' [(1, fr 1), (2, fr 2), (6, (.int .i64 0))] H)
@[simp] def r4 (fr : AFr) (H : AHeap) : ARes :=
 areg (q' (alenR .sl (fr 1)) H ⟨fun v28 H =>
 q' (bn' .lss (fr 6) v28) H ⟨fun v29 H =>
 e' [(1, fr 1), (2, fr 2), (6, fr 6), (29, v29)] H⟩⟩)
@[simp] def r6 (fr : AFr) (H : AHeap) : ARes :=
 areg (q' (aindexAddrR (.sl 1) (fr 1) (fr 6)) H ⟨fun v34 H =>
 q' (ld' v34 H) H ⟨fun v35 H =>
 q' (bn' .lss v35 (.int .i64 0)) H ⟨fun v36 H =>
 G' v36 false ⟨some (fr 1)⟩ H ⟨fun v38 H =>
 G' v36 false ⟨some (fr 6)⟩ H ⟨fun v39 H =>
 G' v36 false ⟨aindexAddrR (.sl 1) v38 v39⟩ H ⟨fun v40 H =>
 G' v36 false ⟨ld' v40 H⟩ H ⟨fun v41 H =>
 G' v36 false ⟨bn' .gtr v41 (.int .i64 16000)⟩ H ⟨fun v42 H =>
 q' (apick v36 (.bool true) v42) H ⟨fun v43 H =>
 e' [(1, fr 1), (2, fr 2), (6, fr 6), (43, v43)] H⟩⟩⟩⟩⟩⟩⟩⟩⟩)
@[simp] def r7 (fr : AFr) (H : AHeap) : ARes :=
 areg (o' (abuildSliceR (some ⟨T.ty_string, 1, 16, [(.str (bs []))]⟩) 0 [] H) ⟨fun v44 H =>
 e' [(4, v44), (5, (.int .i64 1))] H⟩)
@[simp] def r5 (fr : AFr) (H : AHeap) : ARes :=
 areg (q' (bn' .add (fr 6) (.int .i64 1)) H ⟨fun v31 H =>
 e' [(1, fr 1), (2, fr 2), (6, v31)] H⟩)
@[simp] def r8 (s1 : SpecM) (fr : AFr) (H : AHeap) : ARes :=
 areg (o' (callM [] s1 [] [] H) ⟨fun v45 H =>
 e' [(1, fr 1), (2, fr 2), (7, v45)] H⟩)
@[simp] def r9 (fr : AFr) (H : AHeap) : ARes :=
 areg (e' [(1, fr 1), (2, fr 2), (7, fr 7), (8, (.int .i64 0))] H)
@[simp] def r10 (fr : AFr) (H : AHeap) : ARes :=
 areg (q' (fa' 1 (fr 2)) H ⟨fun v47 H =>
 q' (ld' v47 H) H ⟨fun v48 H =>
 q' (alenR .sl v48) H ⟨fun v49 H =>
 q' (bn' .lss (fr 8) v49) H ⟨fun v50 H =>
 e' [(1, fr 1), (2, fr 2), (7, fr 7), (8, fr 8), (50, v50)] H⟩⟩⟩⟩)
@[simp] def r12 (fr : AFr) (H : AHeap) : ARes :=
 areg (q' (fa' 1 (fr 2)) H ⟨fun v53 H =>
 q' (ld' v53 H) H ⟨fun v54 H =>
 q' (aindexAddrR (.sl 4) v54 (fr 8)) H ⟨fun v56 H =>
 q' (Ld' 4 v56 H) H ⟨fun v57 H =>
 o' (abuildSliceR (some ⟨T.ty_int, 1, 8, [(.int .i64 0)]⟩) 0 [] H) ⟨fun v58 H =>
 o' (aallocR T.ty_api_Op (some (.agg [(.int .i64 0), (.int .i64 0), (.int .i64 0), (W32 0#32)])) H) ⟨fun v9 H =>
 w' (astoreR (some 4) v9 v57 H) ⟨fun _ H =>
 e' [(1, fr 1), (2, fr 2), (7, fr 7), (8, fr 8), (9, v9), (10, v58)] H⟩⟩⟩⟩⟩⟩⟩)
@[simp] def r13 (s2 : SpecP) (fr : AFr) (H : AHeap) : ARes :=
 areg (q' (fa' 0 (fr 9)) H ⟨fun v59 H =>
 q' (ld' v59 H) H ⟨fun v60 H =>
 o' (callP false s2 [[none]] [v60] H) ⟨fun v61 H =>
 q' (bn' .gtr v61 (.int .i64 0)) H ⟨fun v62 H =>
 e' [(1, fr 1), (2, fr 2), (7, fr 7), (8, fr 8), (9, fr 9), (10, fr 10), (62, v62)] H⟩⟩⟩⟩)
@[simp] def r14 (fr : AFr) (H : AHeap) : ARes :=
 areg (q' (fa' 1 (fr 9)) H ⟨fun v65 H =>
 q' (ld' v65 H) H ⟨fun v66 H =>
 q' (aindexAddrR (.sl 1) (fr 1) v66) H ⟨fun v67 H =>
 q' (ld' v67 H) H ⟨fun v68 H =>
 o' (abuildSliceR (some ⟨T.ty_int, 1, 8, [(.int .i64 0)]⟩) 1 [(0, v68)] H) ⟨fun v69 H =>
 o' (aappendR (some ⟨T.ty_int, 1, 8, [(.int .i64 0)]⟩) (fr 10) v69 H) ⟨fun v70 H =>
 e' [(1, fr 1), (2, fr 2), (7, fr 7), (8, fr 8), (9, fr 9), (10, v70)] H⟩⟩⟩⟩⟩⟩)
@[simp] def r15 (s2 : SpecP) (fr : AFr) (H : AHeap) : ARes :=
 areg (q' (fa' 0 (fr 9)) H ⟨fun v71 H =>
 q' (ld' v71 H) H ⟨fun v72 H =>
 o' (callP false s2 [[none]] [v72] H) ⟨fun v73 H =>
 q' (bn' .gtr v73 (.int .i64 1)) H ⟨fun v74 H =>
 e' [(1, fr 1), (2, fr 2), (7, fr 7), (8, fr 8), (9, fr 9), (10, fr 10), (74, v74)] H⟩⟩⟩⟩)
@[simp] def r16 (fr : AFr) (H : AHeap) : ARes :=
 areg (q' (fa' 2 (fr 9)) H ⟨fun v77 H =>
 q' (ld' v77 H) H ⟨fun v78 H =>
 q' (aindexAddrR (.sl 1) (fr 1) v78) H ⟨fun v79 H =>
 q' (ld' v79 H) H ⟨fun v80 H =>
 o' (abuildSliceR (some ⟨T.ty_int, 1, 8, [(.int .i64 0)]⟩) 1 [(0, v80)] H) ⟨fun v81 H =>
 o' (aappendR (some ⟨T.ty_int, 1, 8, [(.int .i64 0)]⟩) (fr 10) v81 H) ⟨fun v82 H =>
 e' [(1, fr 1), (2, fr 2), (7, fr 7), (8, fr 8), (9, fr 9), (10, v82)] H⟩⟩⟩⟩⟩⟩)
@[simp] def r17 (s3 : SpecP) (fr : AFr) (H : AHeap) : ARes :=
 areg (q' (some (fr 7)) H ⟨fun v83 H1 =>
 q' (Ld' 4 (fr 9) H1) H1 ⟨fun v84 H2 =>
 q' (some (fr 1)) H2 ⟨fun v85 H3 =>
 q' (fa' 0 (fr 2)) H3 ⟨fun v86 H4 =>
 q' (ld' v86 H4) H4 ⟨fun v87 H5 =>
 q' (some (fr 8)) H5 ⟨fun v88 H6 =>
 q' (bn' .add v87 v88) H6 ⟨fun v89 H7 =>
 q' (aindexAddrR (.sl 1) v85 v89) H7 ⟨fun v90 H8 =>
 q' (ld' v90 H8) H8 ⟨fun v91 H9 =>
 q' (some (fr 10)) H9 ⟨fun v92 H10 =>
 o' (callP false s3 [[none, none, none, none], [none], [some 1]] [v84, v91, v92] H10) ⟨fun v93 H11 =>
 o' (aappendR (some ⟨T.ty_string, 1, 16, [(.str (bs []))]⟩) v83 v93 H11) ⟨fun v94 H12 =>
 q' (some v94) H12 ⟨fun v7 H13 =>
 e' [(1, fr 1), (2, fr 2), (7, v7), (8, fr 8)] H13⟩⟩⟩⟩⟩⟩⟩⟩⟩⟩⟩⟩⟩)
@[simp] def r18 (fr : AFr) (H : AHeap) : ARes :=
 areg (q' (alenR .sl (fr 7)) H ⟨fun v96 H =>
 q' (bn' .gtr v96 (.int .i64 59999)) H ⟨fun v97 H =>
 e' [(1, fr 1), (2, fr 2), (7, fr 7), (8, fr 8), (97, v97)] H⟩⟩)
@[simp] def r19 (fr : AFr) (H : AHeap) : ARes :=
 areg (o' (abuildSliceR (some ⟨T.ty_string, 1, 16, [(.str (bs []))]⟩) 0 [] H) ⟨fun v98 H =>
 e' [(4, v98), (5, (.int .i64 150))] H⟩)
@[simp] def r11 (fr : AFr) (H : AHeap) : ARes :=
 areg (q' (bn' .add (fr 8) (.int .i64 1)) H ⟨fun v52 H =>
 e' [(1, fr 1), (2, fr 2), (7, fr 7), (8, v52)] H⟩)
@[simp] def r20 (fr : AFr) (H : AHeap) : ARes :=
 areg (o' (abuildSliceR (some ⟨T.ty_string, 1, 16, [(.str (bs []))]⟩) 1 [(0, (.str (bs [98, 107, 112, 116, 32, 35, 48])))] H) ⟨fun v100 H =>
 o' (aappendR (some ⟨T.ty_string, 1, 16, [(.str (bs []))]⟩) (fr 7) v100 H) ⟨fun v101 H =>
 e' [(4, v101), (5, (.int .i64 0))] H⟩⟩)
def l0 (s0 : SpecP) (s1 : SpecM) (s2 s3 : SpecP) (fr : AFr) (H : AHeap) : ARes :=
  s' (s' (r4 fr H) ⟨fun fr H =>
 c' (fr 29)
 ⟨some (.normal, fr, H)⟩
 ⟨some (.exit 0, fr, H)⟩⟩) ⟨fun fr H =>
 s' (aexit 1 (s' (r6 fr H) ⟨fun fr H =>
 c' (fr 43)
 ⟨s' (r7 fr H) ⟨fun fr H =>
 some (.ret, fr, H)⟩⟩
 ⟨some (.normal, fr, H)⟩⟩)) ⟨fun fr H =>
 r5 fr H⟩⟩
def l1 (s0 : SpecP) (s1 : SpecM) (s2 s3 : SpecP) (fr : AFr) (H : AHeap) : ARes :=
  s' (s' (r10 fr H) ⟨fun fr H =>
 c' (fr 50)
 ⟨some (.normal, fr, H)⟩
 ⟨some (.exit 2, fr, H)⟩⟩) ⟨fun fr H =>
 s' (aexit 3 (s' (r12 fr H) ⟨fun fr H =>
 s' (s' (r13 s2 fr H) ⟨fun fr H =>
 c' (fr 62)
 ⟨r14 fr H⟩
 ⟨some (.normal, fr, H)⟩⟩) ⟨fun fr H =>
 s' (s' (r15 s2 fr H) ⟨fun fr H =>
 c' (fr 74)
 ⟨r16 fr H⟩
 ⟨some (.normal, fr, H)⟩⟩) ⟨fun fr H =>
 s' (r17 s3 fr H) ⟨fun fr H =>
 s' (r18 fr H) ⟨fun fr H =>
 c' (fr 97)
 ⟨s' (r19 fr H) ⟨fun fr H =>
 some (.ret, fr, H)⟩⟩
 ⟨some (.normal, fr, H)⟩⟩⟩⟩⟩⟩)) ⟨fun fr H =>
 r11 fr H⟩⟩
@[simp] def body (s0 : SpecP) (s1 : SpecM) (s2 s3 : SpecP) (fr : AFr) (H : AHeap) : ARes :=
  s' (r0 fr H) ⟨fun fr H =>
 s' (s' (r1 s0 fr H) ⟨fun fr H =>
 c' (fr 24)
 ⟨s' (r2 fr H) ⟨fun fr H =>
 some (.ret, fr, H)⟩⟩
 ⟨some (.normal, fr, H)⟩⟩) ⟨fun fr H =>
 s' (s' (r3 fr H) ⟨fun fr H =>
  aexit 0 (aloop (l0 s0 s1 s2 s3) fr H)⟩) ⟨fun fr H =>
 s' (r8 s1 fr H) ⟨fun fr H =>
 s' (s' (r9 fr H) ⟨fun fr H =>
  aexit 2 (aloop (l1 s0 s1 s2 s3) fr H)⟩) ⟨fun fr H =>
 s' (r20 fr H) ⟨fun fr H =>
 some (.ret, fr, H)⟩⟩⟩⟩⟩⟩
@[simp] def res (fr : AFr) (H : AHeap) : Option (List AV) := res2 (some (fr 4)) (res2 (some (fr 5)) (some []))
end ref25_Lines
def ref25_Lines (a0 a1 : AV) : Option AV := closeUpR (some [[some 1], [none]]) (afinR ref25_Lines.res (ref25_Lines.body ref19_Can.spec ref25_Begin_ref.spec ref19_Takes.spec ref25_Step.spec (args0 [a0, a1]) AHeap.empty))
def ref25_Lines.spec : List AV → Option AV
  | [a0, a1] => ref25_Lines a0 a1
  | _ => none
end
end Go.Abs
