/-
  The functions, as they are over abstract values. Printed by gen.py.
-/
import Derived.Test.YteohnepdbjmghaaLoF
import Derived.Test.YteohnepdbjmghaaTh2F
set_option linter.unusedVariables false
namespace Go.Abs
noncomputable section
namespace law02_lives
def C (s0 s1 : SpecP) : Tab := ((Tab.none.add 63 (.pure false s0)).add 64 (.pure false s1))
@[simp] def r0 (fr : AFr) (H : AHeap) : ARes :=
 areg (e' [] H)
@[simp] def r1 (s0 : SpecP) (fr : AFr) (H : AHeap) : ARes :=
 areg (q' (abuildR (.str [(.int .i64 0), (.int .i64 0), (.int .i64 0), (.int .i64 0), (.int .i64 0)] [(0, 1), (1, 1), (2, 1), (3, 1), (4, 1)]) [(0, (.int .i64 0)), (1, (.int .i64 1)), (4, (.int .i64 5))]) H ⟨fun v4 H =>
 o' (callP false s0 [[none, none, none, none, none]] [v4] H) ⟨fun v5 H =>
 q' (aextract v5 0) H ⟨fun v6 H =>
 q' (aextract v5 1) H ⟨fun v7 H =>
 e' [(1, v6), (2, v7)] H⟩⟩⟩⟩)
@[simp] def r2 (s1 : SpecP) (fr : AFr) (H : AHeap) : ARes :=
 areg (q' (bn' .eql (fr 1) (W16 8453#16)) H ⟨fun v9 H =>
 G' v9 true ⟨some (fr 2)⟩ H ⟨fun v11 H =>
 G' v9 true ⟨bn' .eql v11 (.int .i64 0)⟩ H ⟨fun v12 H =>
 q' (apick v9 v12 (.bool false)) H ⟨fun v13 H =>
 G' v13 true ⟨abuildR (.str [(.int .i64 0), (.int .i64 0), (.int .i64 0), (.int .i64 0), (.int .i64 0)] [(0, 1), (1, 1), (2, 1), (3, 1), (4, 1)]) [(0, (.int .i64 19))]⟩ H ⟨fun v15 H =>
 o' (g' (gw v13 true) ⟨callP false s1 [[none, none, none, none, none]] [v15] H⟩ H) ⟨fun v16 H =>
 q' (apick v13 v16 (.bool false)) H ⟨fun v17 H =>
 e' [(0, v17)] H⟩⟩⟩⟩⟩⟩⟩)
@[simp] def body (s0 s1 : SpecP) (fr : AFr) (H : AHeap) : ARes :=
  s' (r0 fr H) ⟨fun fr H =>
 s' (r1 s0 fr H) ⟨fun fr H =>
 s' (r2 s1 fr H) ⟨fun fr H =>
 some (.ret, fr, H)⟩⟩⟩
@[simp] def res (fr : AFr) (H : AHeap) : Option (List AV) := res2 (some (fr 0)) (some [])
end law02_lives
def law02_lives : Option AV := closeUpR (some [[none]]) (afinR law02_lives.res (law02_lives.body thumb_Put.spec thumb_Can.spec (args0 []) AHeap.empty))
def law02_lives.spec : List AV → Option AV
  | [] => law02_lives
  | _ => none
namespace law02_ThumbRegs
def C (s0 s1 s2 s3 s4 s5 : SpecP) : Tab := ((((((Tab.none.add 15 (.pure false s0)).add 16 (.pure false s1)).add 18 (.pure false s2)).add 19 (.pure false s3)).add 17 (.pure false s4)).add 20 (.pure false s5))
@[simp] def r0 (fr : AFr) (H : AHeap) : ARes :=
 areg (o' (abox T.ty_api_Ins (fr 0) H) ⟨fun v1 H =>
 e' [(1, v1)] H⟩)
@[simp] def r1 (s0 : SpecP) (fr : AFr) (H : AHeap) : ARes :=
 areg (q' (Ld' 5 (fr 1) H) H ⟨fun v8 H =>
 o' (callP false s0 [[none, none, none, none, none]] [v8] H) ⟨fun v9 H =>
 q' (aextract v9 0) H ⟨fun v10 H =>
 q' (aextract v9 1) H ⟨fun v11 H =>
 e' [(1, fr 1), (3, v10), (4, v11)] H⟩⟩⟩⟩)
@[simp] def r2 (s1 : SpecP) (fr : AFr) (H : AHeap) : ARes :=
 areg (q' (Ld' 5 (fr 1) H) H ⟨fun v13 H =>
 o' (callP false s1 [[none, none, none, none, none]] [v13] H) ⟨fun v14 H =>
 q' (aextract v14 0) H ⟨fun v15 H =>
 q' (aextract v14 1) H ⟨fun v16 H =>
 e' [(1, fr 1), (3, fr 3), (4, fr 4), (5, v15), (6, v16)] H⟩⟩⟩⟩)
@[simp] def r3 (s2 s3 s4 s5 : SpecP) (fr : AFr) (H : AHeap) : ARes :=
 areg (q' (Ld' 5 (fr 1) H) H ⟨fun v17 H1 =>
 o' (callP false s2 [[none, none, none, none, none]] [v17] H1) ⟨fun v18 H2 =>
 q' (Ld' 5 (fr 1) H2) H2 ⟨fun v19 H3 =>
 o' (callP false s3 [[none, none, none, none, none]] [v19] H3) ⟨fun v20 H4 =>
 o' (callP false s4 [[some 1], [some 1]] [v18, v20] H4) ⟨fun v21 H5 =>
 q' (some v21) H5 ⟨fun v22 H6 =>
 G' v22 true ⟨some (fr 3)⟩ H6 ⟨fun v23 H7 =>
 G' v22 true ⟨some (fr 5)⟩ H7 ⟨fun v24 H8 =>
 G' v22 true ⟨bn' .eql v23 v24⟩ H8 ⟨fun v25 H9 =>
 q' (apick v22 v25 (.bool false)) H9 ⟨fun v26 H10 =>
 q' (some v26) H10 ⟨fun v27 H11 =>
 G' v27 true ⟨some (fr 4)⟩ H11 ⟨fun v28 H12 =>
 G' v27 true ⟨some (fr 6)⟩ H12 ⟨fun v29 H13 =>
 G' v27 true ⟨abinR .b .eql v28 v29⟩ H13 ⟨fun v30 H14 =>
 q' (apick v27 v30 (.bool false)) H14 ⟨fun v31 H15 =>
 q' (some v31) H15 ⟨fun v32 H16 =>
 o' (g' (gw v32 true) ⟨callP false s5 [] [] H16⟩ H16) ⟨fun v33 H17 =>
 q' (apick v32 v33 (.bool false)) H17 ⟨fun v34 H18 =>
 q' (some v34) H18 ⟨fun v2 H19 =>
 withChk [aloadR (some (some 5)) (fr 1) H1 = aloadR (some (some 5)) (fr 1) H2] (e' [(2, v2)] H19)⟩⟩⟩⟩⟩⟩⟩⟩⟩⟩⟩⟩⟩⟩⟩⟩⟩⟩⟩)
@[simp] def body (s0 s1 s2 s3 s4 s5 : SpecP) (fr : AFr) (H : AHeap) : ARes :=
  s' (r0 fr H) ⟨fun fr H =>
 s' (r1 s0 fr H) ⟨fun fr H =>
 s' (r2 s1 fr H) ⟨fun fr H =>
 s' (r3 s2 s3 s4 s5 fr H) ⟨fun fr H =>
 some (.ret, fr, H)⟩⟩⟩⟩
@[simp] def res (fr : AFr) (H : AHeap) : Option (List AV) := res2 (some (fr 2)) (some [])
end law02_ThumbRegs
def law02_ThumbRegs (a0 : AV) : Option AV := closeUpR (some [[none]]) (afinR law02_ThumbRegs.res (law02_ThumbRegs.body thumb_Writes.spec ref02_Writes.spec thumb_Reads.spec ref02_Reads.spec ref02_Same.spec law02_lives.spec (args0 [a0]) AHeap.empty))
def law02_ThumbRegs.spec : List AV → Option AV
  | [a0] => law02_ThumbRegs a0
  | _ => none
namespace law02_ThumbRises
def C (s0 s1 s2 s3 : SpecP) : Tab := ((((Tab.none.add 21 (.pure false s0)).add 18 (.pure false s1)).add 15 (.pure false s2)).add 20 (.pure false s3))
@[simp] def r0 (fr : AFr) (H : AHeap) : ARes :=
 areg (e' [(0, fr 0)] H)
@[simp] def r1 (s0 : SpecP) (fr : AFr) (H : AHeap) : ARes :=
 areg (o' (callP false s0 [[none]] [(fr 0)] H) ⟨fun v11 H =>
 q' (aextract v11 0) H ⟨fun v12 H =>
 q' (aextract v11 1) H ⟨fun v13 H =>
 o' (aallocR T.ty_api_Ins (some (.agg [(.int .i64 0), (.int .i64 0), (.int .i64 0), (.int .i64 0), (.int .i64 0)])) H) ⟨fun v3 H =>
 w' (astoreR (some 5) v3 v12 H) ⟨fun _ H =>
 e' [(3, v3), (4, v13)] H⟩⟩⟩⟩⟩)
@[simp] def r2 (s1 : SpecP) (fr : AFr) (H : AHeap) : ARes :=
 areg (q' (Ld' 5 (fr 3) H) H ⟨fun v14 H =>
 o' (callP false s1 [[none, none, none, none, none]] [v14] H) ⟨fun v15 H =>
 e' [(3, fr 3), (4, fr 4), (5, v15)] H⟩⟩)
@[simp] def r3 (s2 : SpecP) (fr : AFr) (H : AHeap) : ARes :=
 areg (q' (Ld' 5 (fr 3) H) H ⟨fun v17 H =>
 o' (callP false s2 [[none, none, none, none, none]] [v17] H) ⟨fun v18 H =>
 q' (aextract v18 0) H ⟨fun v19 H =>
 q' (aextract v18 1) H ⟨fun v20 H =>
 e' [(3, fr 3), (4, fr 4), (5, fr 5), (6, v19), (7, v20)] H⟩⟩⟩⟩)
@[simp] def r4 (fr : AFr) (H : AHeap) : ARes :=
 areg (e' [(3, fr 3), (4, fr 4), (5, fr 5), (6, fr 6), (7, fr 7), (8, (.int .i64 0))] H)
@[simp] def r5 (fr : AFr) (H : AHeap) : ARes :=
 areg (q' (alenR .sl (fr 5)) H ⟨fun v23 H =>
 q' (bn' .lss (fr 8) v23) H ⟨fun v24 H =>
 e' [(3, fr 3), (4, fr 4), (5, fr 5), (6, fr 6), (7, fr 7), (8, fr 8), (24, v24)] H⟩⟩)
@[simp] def r7 (fr : AFr) (H : AHeap) : ARes :=
 areg (q' (some (fr 5)) H ⟨fun v27 H1 =>
 q' (some (fr 8)) H1 ⟨fun v28 H2 =>
 q' (aindexAddrR (.sl 1) v27 v28) H2 ⟨fun v29 H3 =>
 q' (ld' v29 H3) H3 ⟨fun v30 H4 =>
 q' (bn' .lss v30 (.int .i64 0)) H4 ⟨fun v31 H5 =>
 q' (some v31) H5 ⟨fun v32 H6 =>
 G' v32 false ⟨some (fr 5)⟩ H6 ⟨fun v33 H7 =>
 G' v32 false ⟨some (fr 8)⟩ H7 ⟨fun v34 H8 =>
 G' v32 false ⟨aindexAddrR (.sl 1) v33 v34⟩ H8 ⟨fun v35 H9 =>
 G' v32 false ⟨ld' v35 H9⟩ H9 ⟨fun v36 H10 =>
 G' v32 false ⟨bn' .gtr v36 (.int .i64 7)⟩ H10 ⟨fun v37 H11 =>
 q' (apick v32 (.bool true) v37) H11 ⟨fun v38 H12 =>
 q' (some v38) H12 ⟨fun v39 H13 =>
 G' v39 false ⟨some (fr 8)⟩ H13 ⟨fun v40 H14 =>
 G' v39 false ⟨bn' .gtr v40 (.int .i64 0)⟩ H14 ⟨fun v41 H15 =>
 G' v39 false ⟨some v41⟩ H15 ⟨fun v42 H16 =>
 G' v42 true ⟨some (fr 5)⟩ H16 ⟨fun v43 H17 =>
 G' v42 true ⟨some (fr 8)⟩ H17 ⟨fun v44 H18 =>
 G' v42 true ⟨aindexAddrR (.sl 1) v43 v44⟩ H18 ⟨fun v45 H19 =>
 G' v42 true ⟨ld' v45 H19⟩ H19 ⟨fun v46 H20 =>
 G' v42 true ⟨some (fr 5)⟩ H20 ⟨fun v47 H21 =>
 G' v42 true ⟨some (fr 8)⟩ H21 ⟨fun v48 H22 =>
 G' v42 true ⟨bn' .sub v48 (.int .i64 1)⟩ H22 ⟨fun v49 H23 =>
 G' v42 true ⟨aindexAddrR (.sl 1) v47 v49⟩ H23 ⟨fun v50 H24 =>
 G' v42 true ⟨ld' v50 H24⟩ H24 ⟨fun v51 H25 =>
 G' v42 true ⟨bn' .leq v46 v51⟩ H25 ⟨fun v52 H26 =>
 G' v39 false ⟨apick v42 v52 (.bool false)⟩ H26 ⟨fun v53 H27 =>
 q' (apick v39 (.bool true) v53) H27 ⟨fun v54 H28 =>
 e' [(3, fr 3), (4, fr 4), (5, fr 5), (6, fr 6), (7, fr 7), (8, fr 8), (54, v54)] H28⟩⟩⟩⟩⟩⟩⟩⟩⟩⟩⟩⟩⟩⟩⟩⟩⟩⟩⟩⟩⟩⟩⟩⟩⟩⟩⟩⟩)
@[simp] def r8 (fr : AFr) (H : AHeap) : ARes :=
 areg (e' [(2, (.bool false))] H)
@[simp] def r6 (fr : AFr) (H : AHeap) : ARes :=
 areg (q' (bn' .add (fr 8) (.int .i64 1)) H ⟨fun v26 H =>
 e' [(3, fr 3), (4, fr 4), (5, fr 5), (6, fr 6), (7, fr 7), (8, v26)] H⟩)
@[simp] def r9 (s3 : SpecP) (fr : AFr) (H : AHeap) : ARes :=
 areg (q' (alenR .sl (fr 5)) H ⟨fun v56 H =>
 q' (bn' .leq v56 (.int .i64 3)) H ⟨fun v57 H =>
 G' v57 true ⟨some (fr 6)⟩ H ⟨fun v59 H =>
 G' v57 true ⟨bn' .geq v59 (.int .i64 0)⟩ H ⟨fun v60 H =>
 q' (apick v57 v60 (.bool false)) H ⟨fun v61 H =>
 G' v61 true ⟨some (fr 6)⟩ H ⟨fun v63 H =>
 G' v61 true ⟨bn' .leq v63 (.int .i64 7)⟩ H ⟨fun v64 H =>
 q' (apick v61 v64 (.bool false)) H ⟨fun v65 H =>
 G' v65 true ⟨some (fr 7)⟩ H ⟨fun v67 H =>
 G' v65 true ⟨some v67⟩ H ⟨fun v68 H =>
 G' v68 false ⟨some (fr 6)⟩ H ⟨fun v69 H =>
 G' v68 false ⟨bn' .eql v69 (.int .i64 0)⟩ H ⟨fun v70 H =>
 G' v65 true ⟨apick v68 (.bool true) v70⟩ H ⟨fun v71 H =>
 q' (apick v65 v71 (.bool false)) H ⟨fun v72 H =>
 G' v72 true ⟨some (fr 4)⟩ H ⟨fun v74 H =>
 G' v72 true ⟨bn' .eql v74 (.int .i64 0)⟩ H ⟨fun v75 H =>
 G' v72 true ⟨some v75⟩ H ⟨fun v76 H =>
 G' v76 false ⟨Ld' 5 (fr 3) H⟩ H ⟨fun v77 H =>
 G' v76 false ⟨abuildR (.str [(.int .i64 0), (.int .i64 0), (.int .i64 0), (.int .i64 0), (.int .i64 0)] [(0, 1), (1, 1), (2, 1), (3, 1), (4, 1)]) []⟩ H ⟨fun v78 H =>
 G' v76 false ⟨abinR (.c [.i, .i, .i, .i, .i]) .eql v77 v78⟩ H ⟨fun v79 H =>
 G' v72 true ⟨apick v76 (.bool true) v79⟩ H ⟨fun v80 H =>
 q' (apick v72 v80 (.bool false)) H ⟨fun v81 H =>
 o' (g' (gw v81 true) ⟨callP false s3 [] [] H⟩ H) ⟨fun v83 H =>
 q' (apick v81 v83 (.bool false)) H ⟨fun v84 H =>
 e' [(2, v84)] H⟩⟩⟩⟩⟩⟩⟩⟩⟩⟩⟩⟩⟩⟩⟩⟩⟩⟩⟩⟩⟩⟩⟩⟩)
def l0 (s0 s1 s2 s3 : SpecP) (fr : AFr) (H : AHeap) : ARes :=
  s' (s' (r5 fr H) ⟨fun fr H =>
 c' (fr 24)
 ⟨some (.normal, fr, H)⟩
 ⟨some (.exit 0, fr, H)⟩⟩) ⟨fun fr H =>
 s' (aexit 1 (s' (r7 fr H) ⟨fun fr H =>
 c' (fr 54)
 ⟨s' (r8 fr H) ⟨fun fr H =>
 some (.ret, fr, H)⟩⟩
 ⟨some (.normal, fr, H)⟩⟩)) ⟨fun fr H =>
 r6 fr H⟩⟩
@[simp] def body (s0 s1 s2 s3 : SpecP) (fr : AFr) (H : AHeap) : ARes :=
  s' (r0 fr H) ⟨fun fr H =>
 s' (r1 s0 fr H) ⟨fun fr H =>
 s' (r2 s1 fr H) ⟨fun fr H =>
 s' (r3 s2 fr H) ⟨fun fr H =>
 s' (s' (r4 fr H) ⟨fun fr H =>
  aexit 0 (aloop (l0 s0 s1 s2 s3) fr H)⟩) ⟨fun fr H =>
 s' (r9 s3 fr H) ⟨fun fr H =>
 some (.ret, fr, H)⟩⟩⟩⟩⟩⟩
@[simp] def res (fr : AFr) (H : AHeap) : Option (List AV) := res2 (some (fr 2)) (some [])
end law02_ThumbRises
def law02_ThumbRises (a0 : AV) : Option AV := closeUpR (some [[none]]) (afinR law02_ThumbRises.res (law02_ThumbRises.body thumb_Take.spec thumb_Reads.spec thumb_Writes.spec law02_lives.spec (args0 [a0]) AHeap.empty))
def law02_ThumbRises.spec : List AV → Option AV
  | [a0] => law02_ThumbRises a0
  | _ => none
end
end Go.Abs
