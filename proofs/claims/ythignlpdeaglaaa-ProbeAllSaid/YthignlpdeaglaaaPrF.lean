/-
  The functions, as they are over abstract values. Printed by gen.py.
-/
import Derived.Test.YthignlpdeaglaaaIrF
import Derived.Test.YthignlpdeaglaaaLoF
set_option linter.unusedVariables false
namespace Go.Abs
noncomputable section
namespace ref23_Looks
def C (s0 s1 : SpecP) : Tab := ((Tab.none.add 27 (.pure false s0)).add 22 (.pure false s1))
@[simp] def r0 (fr : AFr) (H : AHeap) : ARes :=
 areg (o' (abox T.ty_api_Code (fr 0) H) ⟨fun v4 H =>
 e' [(1, fr 1), (2, fr 2), (3, fr 3), (4, v4)] H⟩)
@[simp] def r1 (s0 : SpecP) (fr : AFr) (H : AHeap) : ARes :=
 areg (q' (Ld' 3 (fr 4) H) H ⟨fun v10 H =>
 o' (callP false s0 [[none, some 4, some 1]] [v10] H) ⟨fun v11 H =>
 q' (aun .not v11) H ⟨fun v12 H =>
 G' v12 false ⟨some (fr 1)⟩ H ⟨fun v14 H =>
 G' v12 false ⟨bn' .lss v14 (.int .i64 0)⟩ H ⟨fun v15 H =>
 q' (apick v12 (.bool true) v15) H ⟨fun v16 H =>
 G' v16 false ⟨some (fr 1)⟩ H ⟨fun v18 H =>
 G' v16 false ⟨bn' .gtr v18 (.int .i64 4)⟩ H ⟨fun v19 H =>
 q' (apick v16 (.bool true) v19) H ⟨fun v20 H =>
 G' v20 false ⟨some (fr 2)⟩ H ⟨fun v22 H =>
 G' v20 false ⟨bn' .lss v22 (.int .i64 0)⟩ H ⟨fun v23 H =>
 q' (apick v20 (.bool true) v23) H ⟨fun v24 H =>
 G' v24 false ⟨some (fr 2)⟩ H ⟨fun v26 H =>
 G' v24 false ⟨bn' .gtr v26 (.int .i64 6)⟩ H ⟨fun v27 H =>
 q' (apick v24 (.bool true) v27) H ⟨fun v28 H =>
 G' v28 false ⟨some (fr 1)⟩ H ⟨fun v30 H =>
 G' v28 false ⟨some (fr 2)⟩ H ⟨fun v31 H =>
 G' v28 false ⟨bn' .add v31 (.int .i64 1)⟩ H ⟨fun v32 H =>
 G' v28 false ⟨bn' .mul v30 v32⟩ H ⟨fun v33 H =>
 G' v28 false ⟨fa' 0 (fr 4)⟩ H ⟨fun v34 H =>
 G' v28 false ⟨ld' v34 H⟩ H ⟨fun v35 H =>
 G' v28 false ⟨bn' .gtr v33 v35⟩ H ⟨fun v36 H =>
 q' (apick v28 (.bool true) v36) H ⟨fun v37 H =>
 e' [(1, fr 1), (2, fr 2), (3, fr 3), (4, fr 4), (37, v37)] H⟩⟩⟩⟩⟩⟩⟩⟩⟩⟩⟩⟩⟩⟩⟩⟩⟩⟩⟩⟩⟩⟩⟩)
@[simp] def r2 (fr : AFr) (H : AHeap) : ARes :=
 areg (e' [(8, (.int .i64 1))] H)
@[simp] def r3 (fr : AFr) (H : AHeap) : ARes :=
 areg (e' [(1, fr 1), (2, fr 2), (3, fr 3), (4, fr 4), (9, (.int .i64 0))] H)
@[simp] def r4 (fr : AFr) (H : AHeap) : ARes :=
 areg (q' (alenR .sl (fr 3)) H ⟨fun v40 H =>
 q' (bn' .lss (fr 9) v40) H ⟨fun v41 H =>
 e' [(1, fr 1), (2, fr 2), (3, fr 3), (4, fr 4), (9, fr 9), (41, v41)] H⟩⟩)
@[simp] def r6 (fr : AFr) (H : AHeap) : ARes :=
 areg (q' (some (fr 3)) H ⟨fun v44 H1 =>
 q' (some (fr 9)) H1 ⟨fun v45 H2 =>
 q' (aindexAddrR (.sl 1) v44 v45) H2 ⟨fun v46 H3 =>
 q' (ld' v46 H3) H3 ⟨fun v47 H4 =>
 q' (bn' .lss v47 (.int .i64 0)) H4 ⟨fun v48 H5 =>
 q' (some v48) H5 ⟨fun v49 H6 =>
 G' v49 false ⟨some (fr 3)⟩ H6 ⟨fun v50 H7 =>
 G' v49 false ⟨some (fr 9)⟩ H7 ⟨fun v51 H8 =>
 G' v49 false ⟨aindexAddrR (.sl 1) v50 v51⟩ H8 ⟨fun v52 H9 =>
 G' v49 false ⟨ld' v52 H9⟩ H9 ⟨fun v53 H10 =>
 G' v49 false ⟨fa' 0 (fr 4)⟩ H10 ⟨fun v54 H11 =>
 G' v49 false ⟨ld' v54 H11⟩ H11 ⟨fun v55 H12 =>
 G' v49 false ⟨fa' 1 (fr 4)⟩ H12 ⟨fun v56 H13 =>
 G' v49 false ⟨ld' v56 H13⟩ H13 ⟨fun v57 H14 =>
 G' v49 false ⟨alenR .sl v57⟩ H14 ⟨fun v58 H15 =>
 G' v49 false ⟨bn' .add v55 v58⟩ H15 ⟨fun v59 H16 =>
 G' v49 false ⟨bn' .geq v53 v59⟩ H16 ⟨fun v60 H17 =>
 q' (apick v49 (.bool true) v60) H17 ⟨fun v61 H18 =>
 e' [(1, fr 1), (2, fr 2), (3, fr 3), (4, fr 4), (9, fr 9), (61, v61)] H18⟩⟩⟩⟩⟩⟩⟩⟩⟩⟩⟩⟩⟩⟩⟩⟩⟩⟩)
@[simp] def r7 (fr : AFr) (H : AHeap) : ARes :=
 areg (e' [(8, (.int .i64 1))] H)
@[simp] def r5 (fr : AFr) (H : AHeap) : ARes :=
 areg (q' (bn' .add (fr 9) (.int .i64 1)) H ⟨fun v43 H =>
 e' [(1, fr 1), (2, fr 2), (3, fr 3), (4, fr 4), (9, v43)] H⟩)
@[simp] def r8 (s1 : SpecP) (fr : AFr) (H : AHeap) : ARes :=
 areg (q' (bn' .mul (fr 1) (fr 2)) H ⟨fun v64 H =>
 q' (Ld' 3 (fr 4) H) H ⟨fun v65 H =>
 o' (callP false s1 [[none, some 4, some 1]] [v65] H) ⟨fun v66 H =>
 q' (bn' .add v64 v66) H ⟨fun v67 H =>
 q' (bn' .gtr v67 (.int .i64 12)) H ⟨fun v68 H =>
 G' v68 false ⟨some (fr 3)⟩ H ⟨fun v70 H =>
 G' v68 false ⟨alenR .sl v70⟩ H ⟨fun v71 H =>
 G' v68 false ⟨bn' .gtr v71 (.int .i64 5)⟩ H ⟨fun v72 H =>
 q' (apick v68 (.bool true) v72) H ⟨fun v73 H =>
 e' [(73, v73)] H⟩⟩⟩⟩⟩⟩⟩⟩⟩)
@[simp] def r9 (fr : AFr) (H : AHeap) : ARes :=
 areg (e' [(8, (.int .i64 150))] H)
@[simp] def r10 (fr : AFr) (H : AHeap) : ARes :=
 areg (e' [(8, (.int .i64 0))] H)
def l0 (s0 s1 : SpecP) (fr : AFr) (H : AHeap) : ARes :=
  s' (s' (r4 fr H) ⟨fun fr H =>
 c' (fr 41)
 ⟨some (.normal, fr, H)⟩
 ⟨some (.exit 0, fr, H)⟩⟩) ⟨fun fr H =>
 s' (aexit 1 (s' (r6 fr H) ⟨fun fr H =>
 c' (fr 61)
 ⟨s' (r7 fr H) ⟨fun fr H =>
 some (.ret, fr, H)⟩⟩
 ⟨some (.normal, fr, H)⟩⟩)) ⟨fun fr H =>
 r5 fr H⟩⟩
@[simp] def body (s0 s1 : SpecP) (fr : AFr) (H : AHeap) : ARes :=
  s' (r0 fr H) ⟨fun fr H =>
 s' (s' (r1 s0 fr H) ⟨fun fr H =>
 c' (fr 37)
 ⟨s' (r2 fr H) ⟨fun fr H =>
 some (.ret, fr, H)⟩⟩
 ⟨some (.normal, fr, H)⟩⟩) ⟨fun fr H =>
 s' (s' (r3 fr H) ⟨fun fr H =>
  aexit 0 (aloop (l0 s0 s1) fr H)⟩) ⟨fun fr H =>
 s' (s' (r8 s1 fr H) ⟨fun fr H =>
 c' (fr 73)
 ⟨s' (r9 fr H) ⟨fun fr H =>
 some (.ret, fr, H)⟩⟩
 ⟨some (.normal, fr, H)⟩⟩) ⟨fun fr H =>
 s' (r10 fr H) ⟨fun fr H =>
 some (.ret, fr, H)⟩⟩⟩⟩⟩
@[simp] def res (fr : AFr) (H : AHeap) : Option (List AV) := res2 (some (fr 8)) (some [])
end ref23_Looks
def ref23_Looks (a0 a1 a2 a3 : AV) : Option AV := closeUpR (some [[none]]) (afinR ref23_Looks.res (ref23_Looks.body ref19_Can.spec ref19_Randoms.spec (args0 [a0, a1, a2, a3]) AHeap.empty))
def ref23_Looks.spec : List AV → Option AV
  | [a0, a1, a2, a3] => ref23_Looks a0 a1 a2 a3
  | _ => none
namespace ref23_bit
def C : Tab := Tab.none
@[simp] def r0 (fr : AFr) (H : AHeap) : ARes :=
 areg (e' [(0, fr 0), (1, fr 1)] H)
@[simp] def r1 (fr : AFr) (H : AHeap) : ARes :=
 areg (q' (bn' .rem (fr 1) (.int .i64 32)) H ⟨fun v7 H =>
 q' (aconvR (some .u64) v7) H ⟨fun v8 H =>
 q' (bn' .shr (fr 0) v8) H ⟨fun v9 H =>
 q' (bn' .rem v9 (W32 2#32)) H ⟨fun v10 H =>
 e' [(4, v10)] H⟩⟩⟩⟩)
@[simp] def body (fr : AFr) (H : AHeap) : ARes :=
  s' (r0 fr H) ⟨fun fr H =>
 s' (r1 fr H) ⟨fun fr H =>
 some (.ret, fr, H)⟩⟩
@[simp] def res (fr : AFr) (H : AHeap) : Option (List AV) := res2 (some (fr 4)) (some [])
end ref23_bit
def ref23_bit (a0 a1 : AV) : Option AV := closeUpR (some [[none]]) (afinR ref23_bit.res (ref23_bit.body (args0 [a0, a1]) AHeap.empty))
def ref23_bit.spec : List AV → Option AV
  | [a0, a1] => ref23_bit a0 a1
  | _ => none
namespace ref23_Spread
def C (s0 s1 s2 s3 : SpecP) : Tab := ((((Tab.none.add 23 (.pure false s0)).add 47 (.pure false s1)).add 48 (.pure false s2)).add 49 (.pure false s3))
@[simp] def r0 (fr : AFr) (H : AHeap) : ARes :=
 areg (o' (abox T.ty_api_Code (fr 0) H) ⟨fun v6 H =>
 e' [(1, fr 1), (2, fr 2), (3, fr 3), (4, fr 4), (5, fr 5), (6, v6)] H⟩)
@[simp] def r1 (s0 : SpecP) (fr : AFr) (H : AHeap) : ARes :=
 areg (q' (Ld' 3 (fr 6) H) H ⟨fun v27 H =>
 o' (callP false s0 [[none, some 4, some 1], [none], [none], [some 1]] [v27, (fr 1), (fr 2), (fr 5)] H) ⟨fun v31 H =>
 e' [(1, fr 1), (2, fr 2), (3, fr 3), (4, fr 4), (5, fr 5), (6, fr 6), (14, v31)] H⟩⟩)
@[simp] def r2 (fr : AFr) (H : AHeap) : ARes :=
 areg (q' (bn' .neq (fr 14) (.int .i64 0)) H ⟨fun v33 H =>
 e' [(1, fr 1), (2, fr 2), (3, fr 3), (4, fr 4), (5, fr 5), (6, fr 6), (14, fr 14), (33, v33)] H⟩)
@[simp] def r3 (fr : AFr) (H : AHeap) : ARes :=
 areg (o' (abuildSliceR (some ⟨T.ty_int, 1, 8, [(.int .i64 0)]⟩) 0 [] H) ⟨fun v34 H =>
 e' [(12, v34), (13, (fr 14))] H⟩)
@[simp] def r4 (fr : AFr) (H : AHeap) : ARes :=
 areg (o' (abuildSliceR (some ⟨T.ty_int, 1, 8, [(.int .i64 0)]⟩) 0 [] H) ⟨fun v36 H =>
 e' [(1, fr 1), (2, fr 2), (3, fr 3), (4, fr 4), (5, fr 5), (6, fr 6), (15, v36), (16, (.int .i64 1))] H⟩)
@[simp] def r5 (fr : AFr) (H : AHeap) : ARes :=
 areg (e' [(1, fr 1), (2, fr 2), (3, fr 3), (4, fr 4), (5, fr 5), (6, fr 6), (15, fr 15), (16, fr 16), (17, (.int .i64 0))] H)
@[simp] def r6 (fr : AFr) (H : AHeap) : ARes :=
 areg (q' (bn' .mul (fr 1) (fr 2)) H ⟨fun v40 H =>
 q' (bn' .lss (fr 17) v40) H ⟨fun v41 H =>
 e' [(1, fr 1), (2, fr 2), (3, fr 3), (4, fr 4), (5, fr 5), (6, fr 6), (15, fr 15), (16, fr 16), (17, fr 17), (41, v41)] H⟩⟩)
@[simp] def r8 (fr : AFr) (H : AHeap) : ARes :=
 areg (q' (bn' .mul (fr 16) (.int .i64 2)) H ⟨fun v45 H =>
 e' [(1, fr 1), (2, fr 2), (3, fr 3), (4, fr 4), (5, fr 5), (6, fr 6), (15, fr 15), (16, v45), (17, fr 17)] H⟩)
@[simp] def r7 (fr : AFr) (H : AHeap) : ARes :=
 areg (q' (bn' .add (fr 17) (.int .i64 1)) H ⟨fun v43 H =>
 e' [(1, fr 1), (2, fr 2), (3, fr 3), (4, fr 4), (5, fr 5), (6, fr 6), (15, fr 15), (16, fr 16), (17, v43)] H⟩)
@[simp] def r9 (fr : AFr) (H : AHeap) : ARes :=
 areg (e' [(1, fr 1), (2, fr 2), (3, fr 3), (4, fr 4), (5, fr 5), (6, fr 6), (15, fr 15), (16, fr 16), (18, (.int .i64 0))] H)
@[simp] def r10 (fr : AFr) (H : AHeap) : ARes :=
 areg (q' (bn' .lss (fr 18) (fr 16)) H ⟨fun v48 H =>
 e' [(1, fr 1), (2, fr 2), (3, fr 3), (4, fr 4), (5, fr 5), (6, fr 6), (15, fr 15), (16, fr 16), (18, fr 18), (48, v48)] H⟩)
@[simp] def r12 (s1 : SpecP) (fr : AFr) (H : AHeap) : ARes :=
 areg (q' (bn' .mul (fr 1) (fr 2)) H ⟨fun v54 H =>
 o' (callP false s1 [[none], [none]] [(fr 18), v54] H) ⟨fun v55 H =>
 o' (abuildSliceR (some ⟨T.ty_uint32, 1, 4, [(W32 0#32)]⟩) 0 [] H) ⟨fun v56 H =>
 e' [(1, fr 1), (2, fr 2), (3, fr 3), (4, fr 4), (5, fr 5), (6, fr 6), (15, fr 15), (16, fr 16), (18, fr 18), (19, v55), (20, v56)] H⟩⟩⟩)
@[simp] def r13 (fr : AFr) (H : AHeap) : ARes :=
 areg (e' [(1, fr 1), (2, fr 2), (3, fr 3), (4, fr 4), (5, fr 5), (6, fr 6), (15, fr 15), (16, fr 16), (18, fr 18), (19, fr 19), (20, fr 20), (21, (.int .i64 0))] H)
@[simp] def r14 (fr : AFr) (H : AHeap) : ARes :=
 areg (q' (bn' .lss (fr 21) (fr 1)) H ⟨fun v59 H =>
 e' [(1, fr 1), (2, fr 2), (3, fr 3), (4, fr 4), (5, fr 5), (6, fr 6), (15, fr 15), (16, fr 16), (18, fr 18), (19, fr 19), (20, fr 20), (21, fr 21), (59, v59)] H⟩)
@[simp] def r16 (s2 : SpecP) (fr : AFr) (H : AHeap) : ARes :=
 areg (o' (callP false s2 [[none], [none]] [(fr 3), (fr 21)] H) ⟨fun v64 H =>
 e' [(1, fr 1), (2, fr 2), (3, fr 3), (4, fr 4), (5, fr 5), (6, fr 6), (15, fr 15), (16, fr 16), (18, fr 18), (19, fr 19), (20, fr 20), (21, fr 21), (22, v64)] H⟩)
@[simp] def r17 (fr : AFr) (H : AHeap) : ARes :=
 areg (e' [(1, fr 1), (2, fr 2), (3, fr 3), (4, fr 4), (5, fr 5), (6, fr 6), (15, fr 15), (16, fr 16), (18, fr 18), (19, fr 19), (20, fr 20), (21, fr 21), (22, fr 22), (23, (.int .i64 0))] H)
@[simp] def r18 (fr : AFr) (H : AHeap) : ARes :=
 areg (q' (bn' .lss (fr 23) (fr 2)) H ⟨fun v67 H =>
 e' [(1, fr 1), (2, fr 2), (3, fr 3), (4, fr 4), (5, fr 5), (6, fr 6), (15, fr 15), (16, fr 16), (18, fr 18), (19, fr 19), (20, fr 20), (21, fr 21), (22, fr 22), (23, fr 23), (67, v67)] H⟩)
@[simp] def r20 (fr : AFr) (H : AHeap) : ARes :=
 areg (q' (bn' .mul (fr 21) (fr 2)) H ⟨fun v74 H =>
 q' (bn' .add v74 (fr 23)) H ⟨fun v76 H =>
 q' (aindexAddrR (.sl 1) (fr 19) v76) H ⟨fun v77 H =>
 q' (ld' v77 H) H ⟨fun v78 H =>
 q' (bn' .xor (fr 22) v78) H ⟨fun v79 H =>
 e' [(1, fr 1), (2, fr 2), (3, fr 3), (4, fr 4), (5, fr 5), (6, fr 6), (15, fr 15), (16, fr 16), (18, fr 18), (19, fr 19), (20, fr 20), (21, fr 21), (22, v79), (23, fr 23)] H⟩⟩⟩⟩⟩)
@[simp] def r19 (fr : AFr) (H : AHeap) : ARes :=
 areg (q' (bn' .add (fr 23) (.int .i64 1)) H ⟨fun v69 H =>
 e' [(1, fr 1), (2, fr 2), (3, fr 3), (4, fr 4), (5, fr 5), (6, fr 6), (15, fr 15), (16, fr 16), (18, fr 18), (19, fr 19), (20, fr 20), (21, fr 21), (22, fr 22), (23, v69)] H⟩)
@[simp] def r21 (fr : AFr) (H : AHeap) : ARes :=
 areg (q' (some (fr 20)) H ⟨fun v80 H1 =>
 q' (some (fr 22)) H1 ⟨fun v81 H2 =>
 o' (abuildSliceR (some ⟨T.ty_uint32, 1, 4, [(W32 0#32)]⟩) 1 [(0, v81)] H2) ⟨fun v82 H3 =>
 o' (aappendR (some ⟨T.ty_uint32, 1, 4, [(W32 0#32)]⟩) v80 v82 H3) ⟨fun v83 H4 =>
 q' (some (fr 19)) H4 ⟨fun v84 H5 =>
 q' (some (fr 21)) H5 ⟨fun v85 H6 =>
 q' (some (fr 2)) H6 ⟨fun v86 H7 =>
 q' (bn' .mul v85 v86) H7 ⟨fun v87 H8 =>
 q' (some (fr 21)) H8 ⟨fun v88 H9 =>
 q' (some (fr 2)) H9 ⟨fun v89 H10 =>
 q' (bn' .mul v88 v89) H10 ⟨fun v90 H11 =>
 q' (some (fr 2)) H11 ⟨fun v91 H12 =>
 q' (bn' .add v90 v91) H12 ⟨fun v92 H13 =>
 q' (asliceR (.sl 1) v84 (some v87) (some v92) none) H13 ⟨fun v93 H14 =>
 o' (aappendR (some ⟨T.ty_uint32, 1, 4, [(W32 0#32)]⟩) v83 v93 H14) ⟨fun v94 H15 =>
 q' (some v94) H15 ⟨fun v20 H16 =>
 e' [(1, fr 1), (2, fr 2), (3, fr 3), (4, fr 4), (5, fr 5), (6, fr 6), (15, fr 15), (16, fr 16), (18, fr 18), (19, fr 19), (20, v20), (21, fr 21)] H16⟩⟩⟩⟩⟩⟩⟩⟩⟩⟩⟩⟩⟩⟩⟩⟩)
@[simp] def r15 (fr : AFr) (H : AHeap) : ARes :=
 areg (q' (bn' .add (fr 21) (.int .i64 1)) H ⟨fun v61 H =>
 e' [(1, fr 1), (2, fr 2), (3, fr 3), (4, fr 4), (5, fr 5), (6, fr 6), (15, fr 15), (16, fr 16), (18, fr 18), (19, fr 19), (20, fr 20), (21, v61)] H⟩)
@[simp] def r22 (fr : AFr) (H : AHeap) : ARes :=
 areg (q' (alenR .sl (fr 20)) H ⟨fun v96 H =>
 q' (fa' 0 (fr 6)) H ⟨fun v97 H =>
 q' (ld' v97 H) H ⟨fun v98 H =>
 q' (bn' .lss v96 v98) H ⟨fun v99 H =>
 e' [(1, fr 1), (2, fr 2), (3, fr 3), (4, fr 4), (5, fr 5), (6, fr 6), (15, fr 15), (16, fr 16), (18, fr 18), (20, fr 20), (99, v99)] H⟩⟩⟩⟩)
@[simp] def r23 (s2 : SpecP) (fr : AFr) (H : AHeap) : ARes :=
 areg (q' (alenR .sl (fr 20)) H ⟨fun v102 H =>
 o' (callP false s2 [[none], [none]] [(fr 4), v102] H) ⟨fun v103 H =>
 e' [(1, fr 1), (2, fr 2), (3, fr 3), (4, fr 4), (5, fr 5), (6, fr 6), (15, fr 15), (16, fr 16), (18, fr 18), (20, fr 20), (24, v103)] H⟩⟩)
@[simp] def r24 (fr : AFr) (H : AHeap) : ARes :=
 areg (o' (abuildSliceR (some ⟨T.ty_uint32, 1, 4, [(W32 0#32)]⟩) 1 [(0, (fr 24))] H) ⟨fun v106 H =>
 o' (aappendR (some ⟨T.ty_uint32, 1, 4, [(W32 0#32)]⟩) (fr 20) v106 H) ⟨fun v107 H =>
 e' [(1, fr 1), (2, fr 2), (3, fr 3), (4, fr 4), (5, fr 5), (6, fr 6), (15, fr 15), (16, fr 16), (18, fr 18), (20, v107)] H⟩⟩)
@[simp] def r25 (s3 : SpecP) (fr : AFr) (H : AHeap) : ARes :=
 areg (q' (Ld' 3 (fr 6) H) H ⟨fun v108 H =>
 o' (callP false s3 [[none, some 4, some 1], [some 1], [some 1]] [v108, (fr 20), (fr 5)] H) ⟨fun v111 H =>
 e' [(1, fr 1), (2, fr 2), (3, fr 3), (4, fr 4), (5, fr 5), (6, fr 6), (15, fr 15), (16, fr 16), (18, fr 18), (25, v111)] H⟩⟩)
@[simp] def r26 (fr : AFr) (H : AHeap) : ARes :=
 areg (e' [(1, fr 1), (2, fr 2), (3, fr 3), (4, fr 4), (5, fr 5), (6, fr 6), (15, fr 15), (16, fr 16), (18, fr 18), (25, fr 25), (26, (.int .i64 0))] H)
@[simp] def r27 (fr : AFr) (H : AHeap) : ARes :=
 areg (q' (alenR .sl (fr 25)) H ⟨fun v114 H =>
 q' (bn' .lss (fr 26) v114) H ⟨fun v115 H =>
 e' [(1, fr 1), (2, fr 2), (3, fr 3), (4, fr 4), (5, fr 5), (6, fr 6), (15, fr 15), (16, fr 16), (18, fr 18), (25, fr 25), (26, fr 26), (115, v115)] H⟩⟩)
@[simp] def r29 (fr : AFr) (H : AHeap) : ARes :=
 areg (q' (bn' .eql (fr 18) (.int .i64 0)) H ⟨fun v119 H =>
 e' [(1, fr 1), (2, fr 2), (3, fr 3), (4, fr 4), (5, fr 5), (6, fr 6), (15, fr 15), (16, fr 16), (18, fr 18), (25, fr 25), (26, fr 26), (119, v119)] H⟩)
@[simp] def r30 (fr : AFr) (H : AHeap) : ARes :=
 areg (o' (abuildSliceR (some ⟨T.ty_int, 1, 8, [(.int .i64 0)]⟩) 1 [(0, (.int .i64 0))] H) ⟨fun v121 H =>
 o' (aappendR (some ⟨T.ty_int, 1, 8, [(.int .i64 0)]⟩) (fr 15) v121 H) ⟨fun v122 H =>
 e' [(1, fr 1), (2, fr 2), (3, fr 3), (4, fr 4), (5, fr 5), (6, fr 6), (15, v122), (16, fr 16), (18, fr 18), (25, fr 25), (26, fr 26)] H⟩⟩)
@[simp] def r31 (fr : AFr) (H : AHeap) : ARes :=
 areg (q' (some (fr 15)) H ⟨fun v123 H1 =>
 q' (some (fr 26)) H1 ⟨fun v124 H2 =>
 q' (some (fr 15)) H2 ⟨fun v125 H3 =>
 q' (some (fr 26)) H3 ⟨fun v126 H4 =>
 q' (aindexAddrR (.sl 1) v125 v126) H4 ⟨fun v127 H5 =>
 q' (ld' v127 H5) H5 ⟨fun v128 H6 =>
 q' (some (fr 25)) H6 ⟨fun v129 H7 =>
 q' (some (fr 26)) H7 ⟨fun v130 H8 =>
 q' (aindexAddrR (.sl 1) v129 v130) H8 ⟨fun v131 H9 =>
 q' (ld' v131 H9) H9 ⟨fun v132 H10 =>
 q' (bn' .add v128 v132) H10 ⟨fun v133 H11 =>
 q' (aindexAddrR (.sl 1) v123 v124) H11 ⟨fun v134 H12 =>
 w' (astoreR (some 1) v134 v133 H12) ⟨fun _ H13 =>
 e' [(1, fr 1), (2, fr 2), (3, fr 3), (4, fr 4), (5, fr 5), (6, fr 6), (15, fr 15), (16, fr 16), (18, fr 18), (25, fr 25), (26, fr 26)] H13⟩⟩⟩⟩⟩⟩⟩⟩⟩⟩⟩⟩⟩)
@[simp] def r28 (fr : AFr) (H : AHeap) : ARes :=
 areg (q' (bn' .add (fr 26) (.int .i64 1)) H ⟨fun v117 H =>
 e' [(1, fr 1), (2, fr 2), (3, fr 3), (4, fr 4), (5, fr 5), (6, fr 6), (15, fr 15), (16, fr 16), (18, fr 18), (25, fr 25), (26, v117)] H⟩)
@[simp] def r11 (fr : AFr) (H : AHeap) : ARes :=
 areg (q' (bn' .add (fr 18) (.int .i64 1)) H ⟨fun v50 H =>
 e' [(1, fr 1), (2, fr 2), (3, fr 3), (4, fr 4), (5, fr 5), (6, fr 6), (15, fr 15), (16, fr 16), (18, v50)] H⟩)
@[simp] def r32 (fr : AFr) (H : AHeap) : ARes :=
 areg (e' [(12, (fr 15)), (13, (.int .i64 0))] H)
def l0 (s0 s1 s2 s3 : SpecP) (fr : AFr) (H : AHeap) : ARes :=
  s' (s' (r6 fr H) ⟨fun fr H =>
 c' (fr 41)
 ⟨some (.normal, fr, H)⟩
 ⟨some (.exit 0, fr, H)⟩⟩) ⟨fun fr H =>
 s' (aexit 1 (r8 fr H)) ⟨fun fr H =>
 r7 fr H⟩⟩
def l3 (s0 s1 s2 s3 : SpecP) (fr : AFr) (H : AHeap) : ARes :=
  s' (s' (r18 fr H) ⟨fun fr H =>
 c' (fr 67)
 ⟨some (.normal, fr, H)⟩
 ⟨some (.exit 6, fr, H)⟩⟩) ⟨fun fr H =>
 s' (aexit 7 (r20 fr H)) ⟨fun fr H =>
 r19 fr H⟩⟩
def l2 (s0 s1 s2 s3 : SpecP) (fr : AFr) (H : AHeap) : ARes :=
  s' (s' (r14 fr H) ⟨fun fr H =>
 c' (fr 59)
 ⟨some (.normal, fr, H)⟩
 ⟨some (.exit 4, fr, H)⟩⟩) ⟨fun fr H =>
 s' (aexit 5 (s' (r16 s2 fr H) ⟨fun fr H =>
 s' (s' (r17 fr H) ⟨fun fr H =>
  aexit 6 (aloop (l3 s0 s1 s2 s3) fr H)⟩) ⟨fun fr H =>
 r21 fr H⟩⟩)) ⟨fun fr H =>
 r15 fr H⟩⟩
def l4 (s0 s1 s2 s3 : SpecP) (fr : AFr) (H : AHeap) : ARes :=
  s' (s' (r22 fr H) ⟨fun fr H =>
 c' (fr 99)
 ⟨some (.normal, fr, H)⟩
 ⟨some (.exit 8, fr, H)⟩⟩) ⟨fun fr H =>
  aexit 9 (s' (r23 s2 fr H) ⟨fun fr H =>
 r24 fr H⟩)⟩
def l5 (s0 s1 s2 s3 : SpecP) (fr : AFr) (H : AHeap) : ARes :=
  s' (s' (r27 fr H) ⟨fun fr H =>
 c' (fr 115)
 ⟨some (.normal, fr, H)⟩
 ⟨some (.exit 10, fr, H)⟩⟩) ⟨fun fr H =>
 s' (aexit 11 (s' (s' (r29 fr H) ⟨fun fr H =>
 c' (fr 119)
 ⟨r30 fr H⟩
 ⟨some (.normal, fr, H)⟩⟩) ⟨fun fr H =>
 r31 fr H⟩)) ⟨fun fr H =>
 r28 fr H⟩⟩
def l1 (s0 s1 s2 s3 : SpecP) (fr : AFr) (H : AHeap) : ARes :=
  s' (s' (r10 fr H) ⟨fun fr H =>
 c' (fr 48)
 ⟨some (.normal, fr, H)⟩
 ⟨some (.exit 2, fr, H)⟩⟩) ⟨fun fr H =>
 s' (aexit 3 (s' (r12 s1 fr H) ⟨fun fr H =>
 s' (s' (r13 fr H) ⟨fun fr H =>
  aexit 4 (aloop (l2 s0 s1 s2 s3) fr H)⟩) ⟨fun fr H =>
 s' (aexit 8 (aloop (l4 s0 s1 s2 s3) fr H)) ⟨fun fr H =>
 s' (r25 s3 fr H) ⟨fun fr H =>
 s' (r26 fr H) ⟨fun fr H =>
  aexit 10 (aloop (l5 s0 s1 s2 s3) fr H)⟩⟩⟩⟩⟩)) ⟨fun fr H =>
 r11 fr H⟩⟩
@[simp] def body (s0 s1 s2 s3 : SpecP) (fr : AFr) (H : AHeap) : ARes :=
  s' (r0 fr H) ⟨fun fr H =>
 s' (s' (r1 s0 fr H) ⟨fun fr H =>
 s' (r2 fr H) ⟨fun fr H =>
 c' (fr 33)
 ⟨s' (r3 fr H) ⟨fun fr H =>
 some (.ret, fr, H)⟩⟩
 ⟨some (.normal, fr, H)⟩⟩⟩) ⟨fun fr H =>
 s' (r4 fr H) ⟨fun fr H =>
 s' (s' (r5 fr H) ⟨fun fr H =>
  aexit 0 (aloop (l0 s0 s1 s2 s3) fr H)⟩) ⟨fun fr H =>
 s' (s' (r9 fr H) ⟨fun fr H =>
  aexit 2 (aloop (l1 s0 s1 s2 s3) fr H)⟩) ⟨fun fr H =>
 s' (r32 fr H) ⟨fun fr H =>
 some (.ret, fr, H)⟩⟩⟩⟩⟩⟩
@[simp] def res (fr : AFr) (H : AHeap) : Option (List AV) := res2 (some (fr 12)) (res2 (some (fr 13)) (some []))
end ref23_Spread
def ref23_Spread (a0 a1 a2 a3 a4 a5 : AV) : Option AV := closeUpR (some [[some 1], [none]]) (afinR ref23_Spread.res (ref23_Spread.body ref23_Looks.spec ref19_Bits.spec ref23_bit.spec ref19_Spread.spec (args0 [a0, a1, a2, a3, a4, a5]) AHeap.empty))
def ref23_Spread.spec : List AV → Option AV
  | [a0, a1, a2, a3, a4, a5] => ref23_Spread a0 a1 a2 a3 a4 a5
  | _ => none
namespace ref23_Safe
def C (s0 s1 : SpecP) : Tab := ((Tab.none.add 20 (.pure false s0)).add 21 (.pure false s1))
@[simp] def r0 (fr : AFr) (H : AHeap) : ARes :=
 areg (o' (abox T.ty_api_Code (fr 0) H) ⟨fun v5 H =>
 e' [(1, fr 1), (2, fr 2), (3, fr 3), (4, fr 4), (5, v5)] H⟩)
@[simp] def r1 (s0 : SpecP) (fr : AFr) (H : AHeap) : ARes :=
 areg (q' (Ld' 3 (fr 5) H) H ⟨fun v20 H =>
 o' (callP false s0 [[none, some 4, some 1], [none], [none], [none], [none], [some 1]] [v20, (fr 1), (fr 2), (W32 0#32), (fr 3), (fr 4)] H) ⟨fun v25 H =>
 q' (aextract v25 0) H ⟨fun v26 H =>
 q' (aextract v25 1) H ⟨fun v27 H =>
 e' [(1, fr 1), (2, fr 2), (3, fr 3), (4, fr 4), (5, fr 5), (12, v26), (13, v27)] H⟩⟩⟩⟩)
@[simp] def r2 (fr : AFr) (H : AHeap) : ARes :=
 areg (q' (bn' .neq (fr 13) (.int .i64 0)) H ⟨fun v29 H =>
 e' [(1, fr 1), (2, fr 2), (3, fr 3), (4, fr 4), (5, fr 5), (12, fr 12), (13, fr 13), (29, v29)] H⟩)
@[simp] def r3 (fr : AFr) (H : AHeap) : ARes :=
 areg (e' [(10, (.bool false)), (11, (fr 13))] H)
@[simp] def r4 (fr : AFr) (H : AHeap) : ARes :=
 areg (e' [(1, fr 1), (2, fr 2), (3, fr 3), (4, fr 4), (5, fr 5), (12, fr 12), (14, (W32 1#32))] H)
@[simp] def r5 (fr : AFr) (H : AHeap) : ARes :=
 areg (e' [(1, fr 1), (2, fr 2), (3, fr 3), (4, fr 4), (5, fr 5), (12, fr 12), (14, fr 14), (15, (.int .i64 0))] H)
@[simp] def r6 (fr : AFr) (H : AHeap) : ARes :=
 areg (q' (bn' .lss (fr 15) (fr 1)) H ⟨fun v33 H =>
 e' [(1, fr 1), (2, fr 2), (3, fr 3), (4, fr 4), (5, fr 5), (12, fr 12), (14, fr 14), (15, fr 15), (33, v33)] H⟩)
@[simp] def r8 (fr : AFr) (H : AHeap) : ARes :=
 areg (q' (bn' .mul (fr 14) (W32 2#32)) H ⟨fun v37 H =>
 e' [(1, fr 1), (2, fr 2), (3, fr 3), (4, fr 4), (5, fr 5), (12, fr 12), (14, v37), (15, fr 15)] H⟩)
@[simp] def r7 (fr : AFr) (H : AHeap) : ARes :=
 areg (q' (bn' .add (fr 15) (.int .i64 1)) H ⟨fun v35 H =>
 e' [(1, fr 1), (2, fr 2), (3, fr 3), (4, fr 4), (5, fr 5), (12, fr 12), (14, fr 14), (15, v35)] H⟩)
@[simp] def r9 (fr : AFr) (H : AHeap) : ARes :=
 areg (e' [(1, fr 1), (2, fr 2), (3, fr 3), (4, fr 4), (5, fr 5), (12, fr 12), (14, fr 14), (16, (W32 1#32))] H)
@[simp] def r10 (fr : AFr) (H : AHeap) : ARes :=
 areg (q' (bn' .lss (fr 16) (fr 14)) H ⟨fun v40 H =>
 e' [(1, fr 1), (2, fr 2), (3, fr 3), (4, fr 4), (5, fr 5), (12, fr 12), (14, fr 14), (16, fr 16), (40, v40)] H⟩)
@[simp] def r12 (s0 : SpecP) (fr : AFr) (H : AHeap) : ARes :=
 areg (q' (Ld' 3 (fr 5) H) H ⟨fun v44 H =>
 o' (callP false s0 [[none, some 4, some 1], [none], [none], [none], [none], [some 1]] [v44, (fr 1), (fr 2), (fr 16), (fr 3), (fr 4)] H) ⟨fun v50 H =>
 q' (aextract v50 0) H ⟨fun v51 H =>
 q' (aextract v50 1) H ⟨fun v52 H =>
 e' [(1, fr 1), (2, fr 2), (3, fr 3), (4, fr 4), (5, fr 5), (12, fr 12), (14, fr 14), (16, fr 16), (17, v51)] H⟩⟩⟩⟩)
@[simp] def r13 (s1 : SpecP) (fr : AFr) (H : AHeap) : ARes :=
 areg (o' (callP false s1 [[some 1], [some 1]] [(fr 12), (fr 17)] H) ⟨fun v55 H =>
 q' (aun .not v55) H ⟨fun v56 H =>
 e' [(1, fr 1), (2, fr 2), (3, fr 3), (4, fr 4), (5, fr 5), (12, fr 12), (14, fr 14), (16, fr 16), (56, v56)] H⟩⟩)
@[simp] def r14 (fr : AFr) (H : AHeap) : ARes :=
 areg (e' [(10, (.bool false)), (11, (.int .i64 0))] H)
@[simp] def r11 (fr : AFr) (H : AHeap) : ARes :=
 areg (q' (bn' .add (fr 16) (W32 1#32)) H ⟨fun v42 H =>
 e' [(1, fr 1), (2, fr 2), (3, fr 3), (4, fr 4), (5, fr 5), (12, fr 12), (14, fr 14), (16, v42)] H⟩)
@[simp] def r15 (fr : AFr) (H : AHeap) : ARes :=
 areg (e' [(10, (.bool true)), (11, (.int .i64 0))] H)
def l0 (s0 s1 : SpecP) (fr : AFr) (H : AHeap) : ARes :=
  s' (s' (r6 fr H) ⟨fun fr H =>
 c' (fr 33)
 ⟨some (.normal, fr, H)⟩
 ⟨some (.exit 0, fr, H)⟩⟩) ⟨fun fr H =>
 s' (aexit 1 (r8 fr H)) ⟨fun fr H =>
 r7 fr H⟩⟩
def l1 (s0 s1 : SpecP) (fr : AFr) (H : AHeap) : ARes :=
  s' (s' (r10 fr H) ⟨fun fr H =>
 c' (fr 40)
 ⟨some (.normal, fr, H)⟩
 ⟨some (.exit 2, fr, H)⟩⟩) ⟨fun fr H =>
 s' (aexit 3 (s' (r12 s0 fr H) ⟨fun fr H =>
 s' (r13 s1 fr H) ⟨fun fr H =>
 c' (fr 56)
 ⟨s' (r14 fr H) ⟨fun fr H =>
 some (.ret, fr, H)⟩⟩
 ⟨some (.normal, fr, H)⟩⟩⟩)) ⟨fun fr H =>
 r11 fr H⟩⟩
@[simp] def body (s0 s1 : SpecP) (fr : AFr) (H : AHeap) : ARes :=
  s' (r0 fr H) ⟨fun fr H =>
 s' (r1 s0 fr H) ⟨fun fr H =>
 s' (s' (r2 fr H) ⟨fun fr H =>
 c' (fr 29)
 ⟨s' (r3 fr H) ⟨fun fr H =>
 some (.ret, fr, H)⟩⟩
 ⟨some (.normal, fr, H)⟩⟩) ⟨fun fr H =>
 s' (r4 fr H) ⟨fun fr H =>
 s' (s' (r5 fr H) ⟨fun fr H =>
  aexit 0 (aloop (l0 s0 s1) fr H)⟩) ⟨fun fr H =>
 s' (s' (r9 fr H) ⟨fun fr H =>
  aexit 2 (aloop (l1 s0 s1) fr H)⟩) ⟨fun fr H =>
 s' (r15 fr H) ⟨fun fr H =>
 some (.ret, fr, H)⟩⟩⟩⟩⟩⟩⟩
@[simp] def res (fr : AFr) (H : AHeap) : Option (List AV) := res2 (some (fr 10)) (res2 (some (fr 11)) (some []))
end ref23_Safe
def ref23_Safe (a0 a1 a2 a3 a4 : AV) : Option AV := closeUpR (some [[none], [none]]) (afinR ref23_Safe.res (ref23_Safe.body ref23_Spread.spec ref02_Same.spec (args0 [a0, a1, a2, a3, a4]) AHeap.empty))
def ref23_Safe.spec : List AV → Option AV
  | [a0, a1, a2, a3, a4] => ref23_Safe a0 a1 a2 a3 a4
  | _ => none
namespace ref23_First
def C (s0 s1 : SpecP) : Tab := ((Tab.none.add 23 (.pure false s0)).add 18 (.pure false s1))
@[simp] def r0 (fr : AFr) (H : AHeap) : ARes :=
 areg (o' (abox T.ty_api_Code (fr 0) H) ⟨fun v4 H =>
 e' [(1, fr 1), (2, fr 2), (3, fr 3), (4, v4)] H⟩)
@[simp] def r1 (s0 : SpecP) (fr : AFr) (H : AHeap) : ARes :=
 areg (q' (Ld' 3 (fr 4) H) H ⟨fun v17 H =>
 o' (abuildSliceR (some ⟨T.ty_int, 1, 8, [(.int .i64 0)]⟩) 0 [] H) ⟨fun v20 H =>
 o' (callP false s0 [[none, some 4, some 1], [none], [none], [some 1]] [v17, (fr 1), (fr 2), v20] H) ⟨fun v21 H =>
 e' [(1, fr 1), (2, fr 2), (3, fr 3), (4, fr 4), (10, v21)] H⟩⟩⟩)
@[simp] def r2 (fr : AFr) (H : AHeap) : ARes :=
 areg (q' (bn' .neq (fr 10) (.int .i64 0)) H ⟨fun v23 H =>
 e' [(1, fr 1), (2, fr 2), (3, fr 3), (4, fr 4), (10, fr 10), (23, v23)] H⟩)
@[simp] def r3 (fr : AFr) (H : AHeap) : ARes :=
 areg (o' (abuildSliceR (some ⟨T.ty_int, 1, 8, [(.int .i64 0)]⟩) 0 [] H) ⟨fun v24 H =>
 e' [(8, v24), (9, (fr 10))] H⟩)
@[simp] def r4 (fr : AFr) (H : AHeap) : ARes :=
 areg (q' (fa' 0 (fr 4)) H ⟨fun v26 H =>
 q' (ld' v26 H) H ⟨fun v27 H =>
 q' (fa' 1 (fr 4)) H ⟨fun v28 H =>
 q' (ld' v28 H) H ⟨fun v29 H =>
 q' (alenR .sl v29) H ⟨fun v30 H =>
 q' (bn' .add v27 v30) H ⟨fun v31 H =>
 e' [(1, fr 1), (2, fr 2), (3, fr 3), (4, fr 4), (11, v31)] H⟩⟩⟩⟩⟩⟩)
@[simp] def r5 (fr : AFr) (H : AHeap) : ARes :=
 areg (q' (bn' .lss (fr 3) (.int .i64 1)) H ⟨fun v33 H =>
 G' v33 false ⟨some (fr 3)⟩ H ⟨fun v35 H =>
 G' v33 false ⟨bn' .gtr v35 (.int .i64 2)⟩ H ⟨fun v36 H =>
 q' (apick v33 (.bool true) v36) H ⟨fun v37 H =>
 G' v37 false ⟨some (fr 11)⟩ H ⟨fun v39 H =>
 G' v37 false ⟨bn' .gtr v39 (.int .i64 60)⟩ H ⟨fun v40 H =>
 q' (apick v37 (.bool true) v40) H ⟨fun v41 H =>
 e' [(1, fr 1), (2, fr 2), (3, fr 3), (4, fr 4), (11, fr 11), (41, v41)] H⟩⟩⟩⟩⟩⟩⟩)
@[simp] def r6 (fr : AFr) (H : AHeap) : ARes :=
 areg (o' (abuildSliceR (some ⟨T.ty_int, 1, 8, [(.int .i64 0)]⟩) 0 [] H) ⟨fun v42 H =>
 e' [(8, v42), (9, (.int .i64 1))] H⟩)
@[simp] def r7 (fr : AFr) (H : AHeap) : ARes :=
 areg (e' [(1, fr 1), (2, fr 2), (3, fr 3), (4, fr 4), (11, fr 11), (12, (.int .i64 0))] H)
@[simp] def r8 (fr : AFr) (H : AHeap) : ARes :=
 areg (q' (bn' .lss (fr 12) (fr 11)) H ⟨fun v45 H =>
 e' [(1, fr 1), (2, fr 2), (3, fr 3), (4, fr 4), (11, fr 11), (12, fr 12), (45, v45)] H⟩)
@[simp] def r10 (fr : AFr) (H : AHeap) : ARes :=
 areg (o' (abuildSliceR (some ⟨T.ty_int, 1, 8, [(.int .i64 0)]⟩) 1 [(0, (fr 12))] H) ⟨fun v49 H =>
 e' [(1, fr 1), (2, fr 2), (3, fr 3), (4, fr 4), (11, fr 11), (12, fr 12), (13, v49)] H⟩)
@[simp] def r11 (fr : AFr) (H : AHeap) : ARes :=
 areg (q' (bn' .add (fr 12) (.int .i64 1)) H ⟨fun v51 H =>
 e' [(1, fr 1), (2, fr 2), (3, fr 3), (4, fr 4), (11, fr 11), (12, fr 12), (13, fr 13), (14, v51)] H⟩)
@[simp] def r12 (fr : AFr) (H : AHeap) : ARes :=
 areg (q' (bn' .lss (fr 14) (fr 11)) H ⟨fun v54 H =>
 G' v54 false ⟨some (fr 3)⟩ H ⟨fun v56 H =>
 G' v54 false ⟨bn' .eql v56 (.int .i64 1)⟩ H ⟨fun v57 H =>
 G' v54 false ⟨some v57⟩ H ⟨fun v58 H =>
 G' v58 true ⟨some (fr 14)⟩ H ⟨fun v59 H =>
 G' v58 true ⟨some (fr 12)⟩ H ⟨fun v60 H =>
 G' v58 true ⟨bn' .add v60 (.int .i64 1)⟩ H ⟨fun v61 H =>
 G' v58 true ⟨bn' .eql v59 v61⟩ H ⟨fun v62 H =>
 G' v54 false ⟨apick v58 v62 (.bool false)⟩ H ⟨fun v63 H =>
 q' (apick v54 (.bool true) v63) H ⟨fun v64 H =>
 e' [(1, fr 1), (2, fr 2), (3, fr 3), (4, fr 4), (11, fr 11), (12, fr 12), (13, fr 13), (14, fr 14), (64, v64)] H⟩⟩⟩⟩⟩⟩⟩⟩⟩⟩)
@[simp] def r14 (fr : AFr) (H : AHeap) : ARes :=
 areg (q' (bn' .eql (fr 3) (.int .i64 2)) H ⟨fun v68 H =>
 e' [(1, fr 1), (2, fr 2), (3, fr 3), (4, fr 4), (11, fr 11), (12, fr 12), (13, fr 13), (14, fr 14), (68, v68)] H⟩)
@[simp] def r15 (fr : AFr) (H : AHeap) : ARes :=
 areg (o' (abuildSliceR (some ⟨T.ty_int, 1, 8, [(.int .i64 0)]⟩) 2 [(0, (fr 12)), (1, (fr 14))] H) ⟨fun v71 H =>
 e' [(1, fr 1), (2, fr 2), (3, fr 3), (4, fr 4), (11, fr 11), (12, fr 12), (13, v71), (14, fr 14)] H⟩)
@[simp] def r16 (s1 : SpecP) (fr : AFr) (H : AHeap) : ARes :=
 areg (q' (Ld' 3 (fr 4) H) H ⟨fun v73 H =>
 o' (callP false s1 [[none, some 4, some 1], [none], [none], [none], [some 1]] [v73, (fr 1), (fr 2), (W32 0#32), (fr 13)] H) ⟨fun v77 H =>
 q' (aextract v77 0) H ⟨fun v78 H =>
 q' (aextract v77 1) H ⟨fun v79 H =>
 e' [(1, fr 1), (2, fr 2), (3, fr 3), (4, fr 4), (11, fr 11), (12, fr 12), (13, fr 13), (14, fr 14), (15, v78)] H⟩⟩⟩⟩)
@[simp] def r17 (fr : AFr) (H : AHeap) : ARes :=
 areg (q' (aun .not (fr 15)) H ⟨fun v81 H =>
 e' [(1, fr 1), (2, fr 2), (3, fr 3), (4, fr 4), (11, fr 11), (12, fr 12), (13, fr 13), (14, fr 14), (81, v81)] H⟩)
@[simp] def r18 (fr : AFr) (H : AHeap) : ARes :=
 areg (e' [(8, (fr 13)), (9, (.int .i64 0))] H)
@[simp] def r13 (fr : AFr) (H : AHeap) : ARes :=
 areg (q' (bn' .add (fr 14) (.int .i64 1)) H ⟨fun v66 H =>
 e' [(1, fr 1), (2, fr 2), (3, fr 3), (4, fr 4), (11, fr 11), (12, fr 12), (13, fr 13), (14, v66)] H⟩)
@[simp] def r9 (fr : AFr) (H : AHeap) : ARes :=
 areg (q' (bn' .add (fr 12) (.int .i64 1)) H ⟨fun v47 H =>
 e' [(1, fr 1), (2, fr 2), (3, fr 3), (4, fr 4), (11, fr 11), (12, v47)] H⟩)
@[simp] def r19 (fr : AFr) (H : AHeap) : ARes :=
 areg (o' (abuildSliceR (some ⟨T.ty_int, 1, 8, [(.int .i64 0)]⟩) 0 [] H) ⟨fun v83 H =>
 e' [(8, v83), (9, (.int .i64 0))] H⟩)
def l1 (s0 s1 : SpecP) (fr : AFr) (H : AHeap) : ARes :=
  s' (s' (r12 fr H) ⟨fun fr H =>
 c' (fr 64)
 ⟨some (.normal, fr, H)⟩
 ⟨some (.exit 2, fr, H)⟩⟩) ⟨fun fr H =>
 s' (aexit 3 (s' (s' (r14 fr H) ⟨fun fr H =>
 c' (fr 68)
 ⟨r15 fr H⟩
 ⟨some (.normal, fr, H)⟩⟩) ⟨fun fr H =>
 s' (r16 s1 fr H) ⟨fun fr H =>
 s' (r17 fr H) ⟨fun fr H =>
 c' (fr 81)
 ⟨s' (r18 fr H) ⟨fun fr H =>
 some (.ret, fr, H)⟩⟩
 ⟨some (.normal, fr, H)⟩⟩⟩⟩)) ⟨fun fr H =>
 r13 fr H⟩⟩
def l0 (s0 s1 : SpecP) (fr : AFr) (H : AHeap) : ARes :=
  s' (s' (r8 fr H) ⟨fun fr H =>
 c' (fr 45)
 ⟨some (.normal, fr, H)⟩
 ⟨some (.exit 0, fr, H)⟩⟩) ⟨fun fr H =>
 s' (aexit 1 (s' (r10 fr H) ⟨fun fr H =>
 s' (r11 fr H) ⟨fun fr H =>
  aexit 2 (aloop (l1 s0 s1) fr H)⟩⟩)) ⟨fun fr H =>
 r9 fr H⟩⟩
@[simp] def body (s0 s1 : SpecP) (fr : AFr) (H : AHeap) : ARes :=
  s' (r0 fr H) ⟨fun fr H =>
 s' (s' (r1 s0 fr H) ⟨fun fr H =>
 s' (r2 fr H) ⟨fun fr H =>
 c' (fr 23)
 ⟨s' (r3 fr H) ⟨fun fr H =>
 some (.ret, fr, H)⟩⟩
 ⟨some (.normal, fr, H)⟩⟩⟩) ⟨fun fr H =>
 s' (r4 fr H) ⟨fun fr H =>
 s' (s' (r5 fr H) ⟨fun fr H =>
 c' (fr 41)
 ⟨s' (r6 fr H) ⟨fun fr H =>
 some (.ret, fr, H)⟩⟩
 ⟨some (.normal, fr, H)⟩⟩) ⟨fun fr H =>
 s' (s' (r7 fr H) ⟨fun fr H =>
  aexit 0 (aloop (l0 s0 s1) fr H)⟩) ⟨fun fr H =>
 s' (r19 fr H) ⟨fun fr H =>
 some (.ret, fr, H)⟩⟩⟩⟩⟩⟩
@[simp] def res (fr : AFr) (H : AHeap) : Option (List AV) := res2 (some (fr 8)) (res2 (some (fr 9)) (some []))
end ref23_First
def ref23_First (a0 a1 a2 a3 : AV) : Option AV := closeUpR (some [[some 1], [none]]) (afinR ref23_First.res (ref23_First.body ref23_Looks.spec ref23_Safe.spec (args0 [a0, a1, a2, a3]) AHeap.empty))
def ref23_First.spec : List AV → Option AV
  | [a0, a1, a2, a3] => ref23_First a0 a1 a2 a3
  | _ => none
end
end Go.Abs
