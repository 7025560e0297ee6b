/-
  The functions, as they are over abstract values. Printed by gen.py.
-/
import Derived.Test.YteohnepdbjmghaaLoF
import Derived.Test.YteohnepdbjmghaaSoF
set_option linter.unusedVariables false
namespace Go.Abs
noncomputable section
namespace slices_Compact_int
def C : Tab := Tab.none
@[simp] def r0 (fr : AFr) (H : AHeap) : ARes :=
 areg (e' [(0, fr 0)] H)
@[simp] def r1 (fr : AFr) (H : AHeap) : ARes :=
 areg (q' (alenR .sl (fr 0)) H ⟨fun v7 H =>
 q' (bn' .lss v7 (.int .i64 2)) H ⟨fun v8 H =>
 e' [(0, fr 0), (8, v8)] H⟩⟩)
@[simp] def r2 (fr : AFr) (H : AHeap) : ARes :=
 areg (e' [(2, (fr 0))] H)
@[simp] def r3 (fr : AFr) (H : AHeap) : ARes :=
 areg (e' [(0, fr 0), (3, (.int .i64 1))] H)
@[simp] def r4 (fr : AFr) (H : AHeap) : ARes :=
 areg (q' (alenR .sl (fr 0)) H ⟨fun v12 H =>
 q' (bn' .lss (fr 3) v12) H ⟨fun v13 H =>
 e' [(0, fr 0), (3, fr 3), (13, v13)] H⟩⟩)
@[simp] def r6 (fr : AFr) (H : AHeap) : ARes :=
 areg (q' (some (fr 0)) H ⟨fun v16 H1 =>
 q' (some (fr 3)) H1 ⟨fun v17 H2 =>
 q' (aindexAddrR (.sl 1) v16 v17) H2 ⟨fun v18 H3 =>
 q' (ld' v18 H3) H3 ⟨fun v19 H4 =>
 q' (some (fr 0)) H4 ⟨fun v20 H5 =>
 q' (some (fr 3)) H5 ⟨fun v21 H6 =>
 q' (bn' .sub v21 (.int .i64 1)) H6 ⟨fun v22 H7 =>
 q' (aindexAddrR (.sl 1) v20 v22) H7 ⟨fun v23 H8 =>
 q' (ld' v23 H8) H8 ⟨fun v24 H9 =>
 q' (bn' .eql v19 v24) H9 ⟨fun v25 H10 =>
 e' [(0, fr 0), (3, fr 3), (25, v25)] H10⟩⟩⟩⟩⟩⟩⟩⟩⟩⟩)
@[simp] def r7 (fr : AFr) (H : AHeap) : ARes :=
 areg (q' (asliceR (.sl 1) (fr 0) (some (fr 3)) none none) H ⟨fun v28 H =>
 e' [(0, fr 0), (3, fr 3), (4, v28)] H⟩)
@[simp] def r8 (fr : AFr) (H : AHeap) : ARes :=
 areg (e' [(0, fr 0), (3, fr 3), (4, fr 4), (5, (.int .i64 1))] H)
@[simp] def r9 (fr : AFr) (H : AHeap) : ARes :=
 areg (q' (alenR .sl (fr 4)) H ⟨fun v31 H =>
 q' (bn' .lss (fr 5) v31) H ⟨fun v32 H =>
 e' [(0, fr 0), (3, fr 3), (4, fr 4), (5, fr 5), (32, v32)] H⟩⟩)
@[simp] def r11 (fr : AFr) (H : AHeap) : ARes :=
 areg (q' (some (fr 4)) H ⟨fun v35 H1 =>
 q' (some (fr 5)) H1 ⟨fun v36 H2 =>
 q' (aindexAddrR (.sl 1) v35 v36) H2 ⟨fun v37 H3 =>
 q' (ld' v37 H3) H3 ⟨fun v38 H4 =>
 q' (some (fr 4)) H4 ⟨fun v39 H5 =>
 q' (some (fr 5)) H5 ⟨fun v40 H6 =>
 q' (bn' .sub v40 (.int .i64 1)) H6 ⟨fun v41 H7 =>
 q' (aindexAddrR (.sl 1) v39 v41) H7 ⟨fun v42 H8 =>
 q' (ld' v42 H8) H8 ⟨fun v43 H9 =>
 q' (bn' .neq v38 v43) H9 ⟨fun v44 H10 =>
 e' [(0, fr 0), (3, fr 3), (4, fr 4), (5, fr 5), (44, v44)] H10⟩⟩⟩⟩⟩⟩⟩⟩⟩⟩)
@[simp] def r12 (fr : AFr) (H : AHeap) : ARes :=
 areg (q' (aindexAddrR (.sl 1) (fr 4) (fr 5)) H ⟨fun v49 H =>
 q' (ld' v49 H) H ⟨fun v50 H =>
 q' (aindexAddrR (.sl 1) (fr 0) (fr 3)) H ⟨fun v51 H =>
 w' (astoreR (some 1) v51 v50 H) ⟨fun _ H =>
 e' [(0, fr 0), (3, fr 3), (4, fr 4), (5, fr 5)] H⟩⟩⟩⟩)
@[simp] def r13 (fr : AFr) (H : AHeap) : ARes :=
 areg (q' (bn' .add (fr 3) (.int .i64 1)) H ⟨fun v53 H =>
 e' [(0, fr 0), (3, v53), (4, fr 4), (5, fr 5)] H⟩)
@[simp] def r10 (fr : AFr) (H : AHeap) : ARes :=
 areg (q' (bn' .add (fr 5) (.int .i64 1)) H ⟨fun v34 H =>
 e' [(0, fr 0), (3, fr 3), (4, fr 4), (5, v34)] H⟩)
@[simp] def r14 (fr : AFr) (H : AHeap) : ARes :=
 areg (q' (asliceR (.sl 1) (fr 0) (some (fr 3)) none none) H ⟨fun v56 H =>
 o' (aclearR (some ⟨T.ty_int, 1, 8, [(.int .i64 0)]⟩) v56 H) ⟨fun _ H =>
 e' [(0, fr 0), (3, fr 3)] H⟩⟩)
@[simp] def r15 (fr : AFr) (H : AHeap) : ARes :=
 areg (q' (asliceR (.sl 1) (fr 0) none (some (fr 3)) none) H ⟨fun v59 H =>
 e' [(2, v59)] H⟩)
@[simp] def r5 (fr : AFr) (H : AHeap) : ARes :=
 areg (q' (bn' .add (fr 3) (.int .i64 1)) H ⟨fun v15 H =>
 e' [(0, fr 0), (3, v15)] H⟩)
@[simp] def r16 (fr : AFr) (H : AHeap) : ARes :=
 areg (e' [(2, (fr 0))] H)
def l1 (fr : AFr) (H : AHeap) : ARes :=
  s' (s' (r9 fr H) ⟨fun fr H =>
 c' (fr 32)
 ⟨some (.normal, fr, H)⟩
 ⟨some (.exit 2, fr, H)⟩⟩) ⟨fun fr H =>
 s' (aexit 3 (s' (r11 fr H) ⟨fun fr H =>
 c' (fr 44)
 ⟨s' (r12 fr H) ⟨fun fr H =>
 r13 fr H⟩⟩
 ⟨some (.normal, fr, H)⟩⟩)) ⟨fun fr H =>
 r10 fr H⟩⟩
def l0 (fr : AFr) (H : AHeap) : ARes :=
  s' (s' (r4 fr H) ⟨fun fr H =>
 c' (fr 13)
 ⟨some (.normal, fr, H)⟩
 ⟨some (.exit 0, fr, H)⟩⟩) ⟨fun fr H =>
 s' (aexit 1 (s' (r6 fr H) ⟨fun fr H =>
 c' (fr 25)
 ⟨s' (r7 fr H) ⟨fun fr H =>
 s' (s' (r8 fr H) ⟨fun fr H =>
    aexit 2 (aloop (l1) fr H)⟩) ⟨fun fr H =>
 s' (r14 fr H) ⟨fun fr H =>
 s' (r15 fr H) ⟨fun fr H =>
 some (.ret, fr, H)⟩⟩⟩⟩⟩
 ⟨some (.normal, fr, H)⟩⟩)) ⟨fun fr H =>
 r5 fr H⟩⟩
@[simp] def body (fr : AFr) (H : AHeap) : ARes :=
  s' (r0 fr H) ⟨fun fr H =>
 s' (s' (r1 fr H) ⟨fun fr H =>
 c' (fr 8)
 ⟨s' (r2 fr H) ⟨fun fr H =>
 some (.ret, fr, H)⟩⟩
 ⟨some (.normal, fr, H)⟩⟩) ⟨fun fr H =>
 s' (s' (r3 fr H) ⟨fun fr H =>
  aexit 0 (aloop (l0) fr H)⟩) ⟨fun fr H =>
 s' (r16 fr H) ⟨fun fr H =>
 some (.ret, fr, H)⟩⟩⟩⟩
@[simp] def res (fr : AFr) (H : AHeap) : Option (List AV) := res2 (some (fr 2)) (some [])
end slices_Compact_int
def slices_Compact_int (a0 : AV) (H : AHeap) : Option (AV × AHeap) := raw (afinR slices_Compact_int.res (slices_Compact_int.body (args0 [a0]) H))
def slices_Compact_int.spec : List AV → AHeap → Option (AV × AHeap)
  | [a0], H => slices_Compact_int a0 H
  | _, _ => none
namespace thumb_Reads
def C (s0 : SpecP) (s1 s2 : SpecM) : Tab := (((Tab.none.add 59 (.pure false s0)).add 61 (.ref [false] s1)).add 62 (.ref [false] s2))
@[simp] def r0 (fr : AFr) (H : AHeap) : ARes :=
 areg (o' (abox T.ty_api_Ins (fr 0) H) ⟨fun v1 H =>
 e' [(1, v1)] H⟩)
@[simp] def r1 (s0 : SpecP) (fr : AFr) (H : AHeap) : ARes :=
 areg (q' (Ld' 5 (fr 1) H) H ⟨fun v4 H =>
 o' (callP false s0 [[none, none, none, none, none]] [v4] H) ⟨fun v5 H =>
 q' (aun .not v5) H ⟨fun v6 H =>
 e' [(1, fr 1), (6, v6)] H⟩⟩⟩)
@[simp] def r2 (fr : AFr) (H : AHeap) : ARes :=
 areg (e' [(2, .nils)] H)
@[simp] def r3 (fr : AFr) (H : AHeap) : ARes :=
 areg (e' [(1, fr 1), (3, .nils)] H)
@[simp] def r4 (fr : AFr) (H : AHeap) : ARes :=
 areg (q' (fa' 0 (fr 1)) H ⟨fun v7 H =>
 q' (ld' v7 H) H ⟨fun v8 H =>
 e' [(1, fr 1), (3, fr 3), (8, v8)] H⟩⟩)
@[simp] def r5 (fr : AFr) (H : AHeap) : ARes :=
 areg (q' (bn' .eql (fr 8) (.int .i64 1)) H ⟨fun v10 H =>
 e' [(1, fr 1), (3, fr 3), (8, fr 8), (9, v10)] H⟩)
@[simp] def r6 (fr : AFr) (H : AHeap) : ARes :=
 areg (q' (bn' .eql (fr 8) (.int .i64 2)) H ⟨fun v11 H =>
 e' [(1, fr 1), (3, fr 3), (8, fr 8), (9, v11)] H⟩)
@[simp] def r7 (fr : AFr) (H : AHeap) : ARes :=
 areg (q' (bn' .eql (fr 8) (.int .i64 3)) H ⟨fun v12 H =>
 e' [(1, fr 1), (3, fr 3), (8, fr 8), (9, v12)] H⟩)
@[simp] def r8 (fr : AFr) (H : AHeap) : ARes :=
 areg (q' (fa' 1 (fr 1)) H ⟨fun v13 H =>
 q' (ld' v13 H) H ⟨fun v14 H =>
 o' (abuildSliceR (some ⟨T.ty_int, 1, 8, [(.int .i64 0)]⟩) 1 [(0, v14)] H) ⟨fun v15 H =>
 e' [(3, v15)] H⟩⟩⟩)
@[simp] def r9 (fr : AFr) (H : AHeap) : ARes :=
 areg (q' (bn' .eql (fr 8) (.int .i64 4)) H ⟨fun v17 H =>
 e' [(1, fr 1), (3, fr 3), (8, fr 8), (16, v17)] H⟩)
@[simp] def r10 (fr : AFr) (H : AHeap) : ARes :=
 areg (q' (bn' .eql (fr 8) (.int .i64 5)) H ⟨fun v18 H =>
 e' [(1, fr 1), (3, fr 3), (8, fr 8), (16, v18)] H⟩)
@[simp] def r11 (fr : AFr) (H : AHeap) : ARes :=
 areg (q' (bn' .eql (fr 8) (.int .i64 6)) H ⟨fun v19 H =>
 e' [(1, fr 1), (3, fr 3), (8, fr 8), (16, v19)] H⟩)
@[simp] def r12 (fr : AFr) (H : AHeap) : ARes :=
 areg (q' (fa' 3 (fr 1)) H ⟨fun v20 H =>
 q' (ld' v20 H) H ⟨fun v21 H =>
 o' (abuildSliceR (some ⟨T.ty_int, 1, 8, [(.int .i64 0)]⟩) 1 [(0, v21)] H) ⟨fun v22 H =>
 e' [(3, v22)] H⟩⟩⟩)
@[simp] def r13 (fr : AFr) (H : AHeap) : ARes :=
 areg (q' (bn' .eql (fr 8) (.int .i64 7)) H ⟨fun v24 H =>
 e' [(1, fr 1), (3, fr 3), (8, fr 8), (23, v24)] H⟩)
@[simp] def r14 (fr : AFr) (H : AHeap) : ARes :=
 areg (q' (bn' .eql (fr 8) (.int .i64 8)) H ⟨fun v25 H =>
 e' [(1, fr 1), (3, fr 3), (8, fr 8), (23, v25)] H⟩)
@[simp] def r15 (fr : AFr) (H : AHeap) : ARes :=
 areg (q' (bn' .eql (fr 8) (.int .i64 14)) H ⟨fun v26 H =>
 e' [(1, fr 1), (3, fr 3), (8, fr 8), (23, v26)] H⟩)
@[simp] def r16 (fr : AFr) (H : AHeap) : ARes :=
 areg (q' (fa' 2 (fr 1)) H ⟨fun v27 H =>
 q' (ld' v27 H) H ⟨fun v28 H =>
 q' (fa' 3 (fr 1)) H ⟨fun v29 H =>
 q' (ld' v29 H) H ⟨fun v30 H =>
 o' (abuildSliceR (some ⟨T.ty_int, 1, 8, [(.int .i64 0)]⟩) 2 [(0, v28), (1, v30)] H) ⟨fun v31 H =>
 e' [(3, v31)] H⟩⟩⟩⟩⟩)
@[simp] def r17 (fr : AFr) (H : AHeap) : ARes :=
 areg (q' (bn' .eql (fr 8) (.int .i64 9)) H ⟨fun v33 H =>
 e' [(1, fr 1), (3, fr 3), (8, fr 8), (32, v33)] H⟩)
@[simp] def r18 (fr : AFr) (H : AHeap) : ARes :=
 areg (q' (bn' .eql (fr 8) (.int .i64 10)) H ⟨fun v34 H =>
 e' [(1, fr 1), (3, fr 3), (8, fr 8), (32, v34)] H⟩)
@[simp] def r19 (fr : AFr) (H : AHeap) : ARes :=
 areg (q' (bn' .eql (fr 8) (.int .i64 12)) H ⟨fun v35 H =>
 e' [(1, fr 1), (3, fr 3), (8, fr 8), (32, v35)] H⟩)
@[simp] def r20 (fr : AFr) (H : AHeap) : ARes :=
 areg (q' (fa' 2 (fr 1)) H ⟨fun v36 H =>
 q' (ld' v36 H) H ⟨fun v37 H =>
 o' (abuildSliceR (some ⟨T.ty_int, 1, 8, [(.int .i64 0)]⟩) 1 [(0, v37)] H) ⟨fun v38 H =>
 e' [(3, v38)] H⟩⟩⟩)
@[simp] def r21 (fr : AFr) (H : AHeap) : ARes :=
 areg (q' (bn' .eql (fr 8) (.int .i64 13)) H ⟨fun v40 H =>
 e' [(1, fr 1), (3, fr 3), (8, fr 8), (39, v40)] H⟩)
@[simp] def r22 (fr : AFr) (H : AHeap) : ARes :=
 areg (q' (fa' 2 (fr 1)) H ⟨fun v41 H =>
 q' (ld' v41 H) H ⟨fun v42 H =>
 q' (fa' 1 (fr 1)) H ⟨fun v43 H =>
 q' (ld' v43 H) H ⟨fun v44 H =>
 o' (abuildSliceR (some ⟨T.ty_int, 1, 8, [(.int .i64 0)]⟩) 2 [(0, v42), (1, v44)] H) ⟨fun v45 H =>
 e' [(3, v45)] H⟩⟩⟩⟩⟩)
@[simp] def r23 (fr : AFr) (H : AHeap) : ARes :=
 areg (q' (bn' .eql (fr 8) (.int .i64 15)) H ⟨fun v47 H =>
 e' [(1, fr 1), (3, fr 3), (8, fr 8), (46, v47)] H⟩)
@[simp] def r24 (fr : AFr) (H : AHeap) : ARes :=
 areg (q' (fa' 2 (fr 1)) H ⟨fun v48 H =>
 q' (ld' v48 H) H ⟨fun v49 H =>
 q' (fa' 3 (fr 1)) H ⟨fun v50 H =>
 q' (ld' v50 H) H ⟨fun v51 H =>
 q' (fa' 1 (fr 1)) H ⟨fun v52 H =>
 q' (ld' v52 H) H ⟨fun v53 H =>
 o' (abuildSliceR (some ⟨T.ty_int, 1, 8, [(.int .i64 0)]⟩) 3 [(0, v49), (1, v51), (2, v53)] H) ⟨fun v54 H =>
 e' [(3, v54)] H⟩⟩⟩⟩⟩⟩⟩)
@[simp] def r25 (fr : AFr) (H : AHeap) : ARes :=
 areg (q' (bn' .eql (fr 8) (.int .i64 11)) H ⟨fun v56 H =>
 e' [(1, fr 1), (3, fr 3), (55, v56)] H⟩)
@[simp] def r26 (fr : AFr) (H : AHeap) : ARes :=
 areg (q' (fa' 3 (fr 1)) H ⟨fun v57 H =>
 q' (ld' v57 H) H ⟨fun v58 H =>
 o' (abuildSliceR (some ⟨T.ty_int, 1, 8, [(.int .i64 0)]⟩) 1 [(0, v58)] H) ⟨fun v59 H =>
 e' [(1, fr 1), (3, v59)] H⟩⟩⟩)
@[simp] def r27 (fr : AFr) (H : AHeap) : ARes :=
 areg (q' (fa' 4 (fr 1)) H ⟨fun v60 H =>
 q' (ld' v60 H) H ⟨fun v61 H =>
 q' (bn' .neq v61 (.int .i64 9)) H ⟨fun v62 H =>
 G' v62 true ⟨fa' 4 (fr 1)⟩ H ⟨fun v64 H =>
 G' v62 true ⟨ld' v64 H⟩ H ⟨fun v65 H =>
 G' v62 true ⟨bn' .neq v65 (.int .i64 15)⟩ H ⟨fun v66 H =>
 q' (apick v62 v66 (.bool false)) H ⟨fun v67 H =>
 e' [(1, fr 1), (3, fr 3), (67, v67)] H⟩⟩⟩⟩⟩⟩⟩)
@[simp] def r28 (fr : AFr) (H : AHeap) : ARes :=
 areg (q' (fa' 1 (fr 1)) H ⟨fun v69 H =>
 q' (ld' v69 H) H ⟨fun v70 H =>
 o' (abuildSliceR (some ⟨T.ty_int, 1, 8, [(.int .i64 0)]⟩) 1 [(0, v70)] H) ⟨fun v71 H =>
 o' (aappendR (some ⟨T.ty_int, 1, 8, [(.int .i64 0)]⟩) (fr 3) v71 H) ⟨fun v72 H =>
 e' [(3, v72)] H⟩⟩⟩⟩)
@[simp] def r29 (s1 : SpecM) (fr : AFr) (H : AHeap) : ARes :=
 areg (o' (callM [false] s1 [[some 1]] [(fr 3)] H) ⟨fun v74 H =>
 e' [(3, fr 3)] H⟩)
@[simp] def r30 (s2 : SpecM) (fr : AFr) (H : AHeap) : ARes :=
 areg (o' (callM [false] s2 [[some 1]] [(fr 3)] H) ⟨fun v76 H =>
 e' [(2, v76)] H⟩)
@[simp] def body (s0 : SpecP) (s1 s2 : SpecM) (fr : AFr) (H : AHeap) : ARes :=
  s' (r0 fr H) ⟨fun fr H =>
 s' (s' (r1 s0 fr H) ⟨fun fr H =>
 c' (fr 6)
 ⟨s' (r2 fr H) ⟨fun fr H =>
 some (.ret, fr, H)⟩⟩
 ⟨some (.normal, fr, H)⟩⟩) ⟨fun fr H =>
 s' (r3 fr H) ⟨fun fr H =>
 s' (s' (r4 fr H) ⟨fun fr H =>
  aexit 0 (s' (s' (r5 fr H) ⟨fun fr H =>
 c' (fr 9)
 ⟨some (.normal, fr, H)⟩
 ⟨s' (r6 fr H) ⟨fun fr H =>
 c' (fr 9)
 ⟨some (.normal, fr, H)⟩
 ⟨r7 fr H⟩⟩⟩⟩) ⟨fun fr H =>
 c' (fr 9)
 ⟨r8 fr H⟩
 ⟨s' (s' (r9 fr H) ⟨fun fr H =>
 c' (fr 16)
 ⟨some (.normal, fr, H)⟩
 ⟨s' (r10 fr H) ⟨fun fr H =>
 c' (fr 16)
 ⟨some (.normal, fr, H)⟩
 ⟨r11 fr H⟩⟩⟩⟩) ⟨fun fr H =>
 c' (fr 16)
 ⟨r12 fr H⟩
 ⟨s' (s' (r13 fr H) ⟨fun fr H =>
 c' (fr 23)
 ⟨some (.normal, fr, H)⟩
 ⟨s' (r14 fr H) ⟨fun fr H =>
 c' (fr 23)
 ⟨some (.normal, fr, H)⟩
 ⟨r15 fr H⟩⟩⟩⟩) ⟨fun fr H =>
 c' (fr 23)
 ⟨r16 fr H⟩
 ⟨s' (s' (r17 fr H) ⟨fun fr H =>
 c' (fr 32)
 ⟨some (.normal, fr, H)⟩
 ⟨s' (r18 fr H) ⟨fun fr H =>
 c' (fr 32)
 ⟨some (.normal, fr, H)⟩
 ⟨r19 fr H⟩⟩⟩⟩) ⟨fun fr H =>
 c' (fr 32)
 ⟨r20 fr H⟩
 ⟨s' (r21 fr H) ⟨fun fr H =>
 c' (fr 39)
 ⟨r22 fr H⟩
 ⟨s' (r23 fr H) ⟨fun fr H =>
 c' (fr 46)
 ⟨r24 fr H⟩
 ⟨s' (r25 fr H) ⟨fun fr H =>
 c' (fr 55)
 ⟨s' (r26 fr H) ⟨fun fr H =>
 s' (r27 fr H) ⟨fun fr H =>
 c' (fr 67)
 ⟨r28 fr H⟩
 ⟨some (.normal, fr, H)⟩⟩⟩⟩
 ⟨some (.normal, fr, H)⟩⟩⟩⟩⟩⟩⟩⟩⟩⟩⟩⟩⟩⟩)⟩) ⟨fun fr H =>
 s' (r29 s1 fr H) ⟨fun fr H =>
 s' (r30 s2 fr H) ⟨fun fr H =>
 some (.ret, fr, H)⟩⟩⟩⟩⟩⟩
@[simp] def res (fr : AFr) (H : AHeap) : Option (List AV) := res2 (some (fr 2)) (some [])
end thumb_Reads
def thumb_Reads (a0 : AV) : Option AV := closeUpR (some [[some 1]]) (afinR thumb_Reads.res (thumb_Reads.body thumb_can.spec slices_Sort_int.spec slices_Compact_int.spec (args0 [a0]) AHeap.empty))
def thumb_Reads.spec : List AV → Option AV
  | [a0] => thumb_Reads a0
  | _ => none
end
end Go.Abs
