import Derived.Test.YteohnepdbjmghaaT
section
set_option linter.unusedVariables false
namespace Go.Abs
noncomputable section
namespace thumb_shapes
def C : Tab := Tab.none
@[simp] def r0 (fr : AFr) (H : AHeap) : ARes :=
 areg (o' (aallocR T.ty_thumb_shape (some (.agg [(W16 0#16), (W8 0#8), (.int .i64 0), (.int .i64 0), (W8 0#8), (.int .i64 0), (.int .i64 0), (W8 0#8), (.int .i64 0), (.int .i64 0), (.int .i64 0), (.int .i64 0)])) H) ⟨fun v2 H =>
 e' [(0, fr 0), (2, v2)] H⟩)
@[simp] def r1 (fr : AFr) (H : AHeap) : ARes :=
 areg (q' (abuildR (.str [(W8 0#8), (.int .i64 0), (.int .i64 0)] [(0, 1), (1, 1), (2, 1)]) [(0, (W8 100#8)), (1, (.int .i64 0)), (2, (.int .i64 3))]) H ⟨fun v8 H =>
 q' (abuildR (.str [(W8 0#8), (.int .i64 0), (.int .i64 0)] [(0, 1), (1, 1), (2, 1)]) [(0, (W8 110#8)), (1, (.int .i64 3)), (2, (.int .i64 3))]) H ⟨fun v9 H =>
 q' (abuildR (.str [(W8 0#8), (.int .i64 0), (.int .i64 0)] [(0, 1), (1, 1), (2, 1)]) [(0, (W8 109#8)), (1, (.int .i64 6)), (2, (.int .i64 3))]) H ⟨fun v10 H =>
 o' (aallocR T.ty_thumb_part (some (.agg [(W8 0#8), (.int .i64 0), (.int .i64 0)])) H) ⟨fun v3 H =>
 o' (aallocR T.ty_thumb_part (some (.agg [(W8 0#8), (.int .i64 0), (.int .i64 0)])) H) ⟨fun v4 H =>
 o' (aallocR T.ty_thumb_part (some (.agg [(W8 0#8), (.int .i64 0), (.int .i64 0)])) H) ⟨fun v5 H =>
 w' (astoreR (some 3) v3 v8 H) ⟨fun _ H =>
 w' (astoreR (some 3) v4 v9 H) ⟨fun _ H =>
 w' (astoreR (some 3) v5 v10 H) ⟨fun _ H =>
 e' [(0, fr 0), (2, fr 2), (3, v3), (4, v4), (5, v5)] H⟩⟩⟩⟩⟩⟩⟩⟩⟩)
@[simp] def r2 (fr : AFr) (H : AHeap) : ARes :=
 areg (q' (abuildR (.str [(W8 0#8), (.int .i64 0), (.int .i64 0)] [(0, 1), (1, 1), (2, 1)]) [(0, (W8 105#8)), (1, (.int .i64 0)), (2, (.int .i64 8))]) H ⟨fun v11 H =>
 q' (abuildR (.str [(W8 0#8), (.int .i64 0), (.int .i64 0)] [(0, 1), (1, 1), (2, 1)]) [(0, (W8 109#8)), (1, (.int .i64 3)), (2, (.int .i64 3))]) H ⟨fun v12 H =>
 o' (aallocR T.ty_thumb_part (some (.agg [(W8 0#8), (.int .i64 0), (.int .i64 0)])) H) ⟨fun v6 H =>
 o' (aallocR T.ty_thumb_part (some (.agg [(W8 0#8), (.int .i64 0), (.int .i64 0)])) H) ⟨fun v7 H =>
 w' (astoreR (some 3) v6 v11 H) ⟨fun _ H =>
 w' (astoreR (some 3) v7 v12 H) ⟨fun _ H =>
 e' [(0, fr 0), (2, fr 2), (3, fr 3), (4, fr 4), (5, fr 5), (6, v6), (7, v7)] H⟩⟩⟩⟩⟩⟩)
@[simp] def r3 (fr : AFr) (H : AHeap) : ARes :=
 areg (e' [(0, fr 0), (2, fr 2), (3, fr 3), (4, fr 4), (5, fr 5), (6, fr 6), (7, fr 7), (13, (fr 0))] H)
@[simp] def r4 (fr : AFr) (H : AHeap) : ARes :=
 areg (q' (bn' .eql (fr 13) (.int .i64 0)) H ⟨fun v15 H =>
 e' [(0, fr 0), (2, fr 2), (3, fr 3), (4, fr 4), (5, fr 5), (6, fr 6), (7, fr 7), (13, fr 13), (14, v15)] H⟩)
@[simp] def r5 (fr : AFr) (H : AHeap) : ARes :=
 areg (q' (bn' .eql (fr 13) (.int .i64 1)) H ⟨fun v16 H =>
 e' [(0, fr 0), (2, fr 2), (3, fr 3), (4, fr 4), (5, fr 5), (6, fr 6), (7, fr 7), (13, fr 13), (14, v16)] H⟩)
@[simp] def r6 (fr : AFr) (H : AHeap) : ARes :=
 areg (q' (bn' .eql (fr 13) (.int .i64 2)) H ⟨fun v17 H =>
 e' [(0, fr 0), (2, fr 2), (3, fr 3), (4, fr 4), (5, fr 5), (6, fr 6), (7, fr 7), (13, fr 13), (14, v17)] H⟩)
@[simp] def r7 (fr : AFr) (H : AHeap) : ARes :=
 areg (q' (bn' .eql (fr 13) (.int .i64 3)) H ⟨fun v18 H =>
 e' [(0, fr 0), (2, fr 2), (3, fr 3), (4, fr 4), (5, fr 5), (6, fr 6), (7, fr 7), (13, fr 13), (14, v18)] H⟩)
@[simp] def r8 (fr : AFr) (H : AHeap) : ARes :=
 areg (q' (bn' .add (.int .i64 4) (fr 0)) H ⟨fun v20 H =>
 q' (bn' .sub v20 (.int .i64 0)) H ⟨fun v21 H =>
 q' (aconvR (some .u16) v21) H ⟨fun v22 H =>
 q' (bn' .shl v22 (W64 11#64)) H ⟨fun v23 H =>
 q' (abuildR (.str [(W8 0#8), (.int .i64 0), (.int .i64 0)] [(0, 1), (1, 1), (2, 1)]) [(0, (W8 100#8)), (1, (.int .i64 8)), (2, (.int .i64 3))]) H ⟨fun v24 H =>
 q' (Ld' 3 (fr 6) H) H ⟨fun v25 H =>
 q' (abuildR (.arr [(W8 0#8), (.int .i64 0), (.int .i64 0), (W8 0#8), (.int .i64 0), (.int .i64 0), (W8 0#8), (.int .i64 0), (.int .i64 0)] 3) [(0, v24), (1, v25)]) H ⟨fun v26 H =>
 q' (abuildR (.str [(W16 0#16), (W8 0#8), (.int .i64 0), (.int .i64 0), (W8 0#8), (.int .i64 0), (.int .i64 0), (W8 0#8), (.int .i64 0), (.int .i64 0), (.int .i64 0), (.int .i64 0)] [(0, 1), (1, 9), (10, 1), (11, 1)]) [(0, v23), (1, v26), (2, (.int .i64 0)), (3, (.int .i64 255))]) H ⟨fun v27 H =>
 w' (astoreR (some 12) (fr 2) v27 H) ⟨fun _ H =>
 e' [(2, fr 2)] H⟩⟩⟩⟩⟩⟩⟩⟩⟩)
@[simp] def r9 (fr : AFr) (H : AHeap) : ARes :=
 areg (q' (bn' .eql (fr 13) (.int .i64 4)) H ⟨fun v29 H =>
 e' [(0, fr 0), (2, fr 2), (3, fr 3), (4, fr 4), (5, fr 5), (6, fr 6), (7, fr 7), (13, fr 13), (28, v29)] H⟩)
@[simp] def r10 (fr : AFr) (H : AHeap) : ARes :=
 areg (q' (abuildR (.str [(W8 0#8), (.int .i64 0), (.int .i64 0)] [(0, 1), (1, 1), (2, 1)]) [(0, (W8 105#8)), (1, (.int .i64 6)), (2, (.int .i64 5))]) H ⟨fun v30 H =>
 q' (Ld' 3 (fr 7) H) H ⟨fun v31 H =>
 q' (Ld' 3 (fr 3) H) H ⟨fun v32 H =>
 q' (abuildR (.arr [(W8 0#8), (.int .i64 0), (.int .i64 0), (W8 0#8), (.int .i64 0), (.int .i64 0), (W8 0#8), (.int .i64 0), (.int .i64 0)] 3) [(0, v30), (1, v31), (2, v32)]) H ⟨fun v33 H =>
 q' (abuildR (.str [(W16 0#16), (W8 0#8), (.int .i64 0), (.int .i64 0), (W8 0#8), (.int .i64 0), (.int .i64 0), (W8 0#8), (.int .i64 0), (.int .i64 0), (.int .i64 0), (.int .i64 0)] [(0, 1), (1, 9), (10, 1), (11, 1)]) [(0, (W16 0#16)), (1, v33), (2, (.int .i64 0)), (3, (.int .i64 31))]) H ⟨fun v34 H =>
 w' (astoreR (some 12) (fr 2) v34 H) ⟨fun _ H =>
 e' [(2, fr 2)] H⟩⟩⟩⟩⟩⟩)
@[simp] def r11 (fr : AFr) (H : AHeap) : ARes :=
 areg (q' (bn' .eql (fr 13) (.int .i64 5)) H ⟨fun v36 H =>
 e' [(0, fr 0), (2, fr 2), (3, fr 3), (4, fr 4), (5, fr 5), (6, fr 6), (7, fr 7), (13, fr 13), (35, v36)] H⟩)
@[simp] def r12 (fr : AFr) (H : AHeap) : ARes :=
 areg (q' (bn' .eql (fr 13) (.int .i64 6)) H ⟨fun v37 H =>
 e' [(0, fr 0), (2, fr 2), (3, fr 3), (4, fr 4), (5, fr 5), (6, fr 6), (7, fr 7), (13, fr 13), (35, v37)] H⟩)
@[simp] def r13 (fr : AFr) (H : AHeap) : ARes :=
 areg (q' (bn' .sub (fr 0) (.int .i64 4)) H ⟨fun v39 H =>
 q' (aconvR (some .u16) v39) H ⟨fun v40 H =>
 q' (bn' .shl v40 (W64 11#64)) H ⟨fun v41 H =>
 q' (abuildR (.str [(W8 0#8), (.int .i64 0), (.int .i64 0)] [(0, 1), (1, 1), (2, 1)]) [(0, (W8 105#8)), (1, (.int .i64 6)), (2, (.int .i64 5))]) H ⟨fun v42 H =>
 q' (Ld' 3 (fr 7) H) H ⟨fun v43 H =>
 q' (Ld' 3 (fr 3) H) H ⟨fun v44 H =>
 q' (abuildR (.arr [(W8 0#8), (.int .i64 0), (.int .i64 0), (W8 0#8), (.int .i64 0), (.int .i64 0), (W8 0#8), (.int .i64 0), (.int .i64 0)] 3) [(0, v42), (1, v43), (2, v44)]) H ⟨fun v45 H =>
 q' (abuildR (.str [(W16 0#16), (W8 0#8), (.int .i64 0), (.int .i64 0), (W8 0#8), (.int .i64 0), (.int .i64 0), (W8 0#8), (.int .i64 0), (.int .i64 0), (.int .i64 0), (.int .i64 0)] [(0, 1), (1, 9), (10, 1), (11, 1)]) [(0, v41), (1, v45), (2, (.int .i64 1)), (3, (.int .i64 32))]) H ⟨fun v46 H =>
 w' (astoreR (some 12) (fr 2) v46 H) ⟨fun _ H =>
 e' [(2, fr 2)] H⟩⟩⟩⟩⟩⟩⟩⟩⟩)
@[simp] def r14 (fr : AFr) (H : AHeap) : ARes :=
 areg (q' (bn' .eql (fr 13) (.int .i64 7)) H ⟨fun v48 H =>
 e' [(0, fr 0), (2, fr 2), (3, fr 3), (4, fr 4), (5, fr 5), (6, fr 6), (7, fr 7), (13, fr 13), (47, v48)] H⟩)
@[simp] def r15 (fr : AFr) (H : AHeap) : ARes :=
 areg (q' (bn' .eql (fr 13) (.int .i64 8)) H ⟨fun v49 H =>
 e' [(0, fr 0), (2, fr 2), (3, fr 3), (4, fr 4), (5, fr 5), (6, fr 6), (7, fr 7), (13, fr 13), (47, v49)] H⟩)
@[simp] def r16 (fr : AFr) (H : AHeap) : ARes :=
 areg (q' (bn' .add (.int .i64 12) (fr 0)) H ⟨fun v51 H =>
 q' (bn' .sub v51 (.int .i64 7)) H ⟨fun v52 H =>
 q' (aconvR (some .u16) v52) H ⟨fun v53 H =>
 q' (bn' .shl v53 (W64 9#64)) H ⟨fun v54 H =>
 q' (Ld' 3 (fr 5) H) H ⟨fun v55 H =>
 q' (Ld' 3 (fr 4) H) H ⟨fun v56 H =>
 q' (Ld' 3 (fr 3) H) H ⟨fun v57 H =>
 q' (abuildR (.arr [(W8 0#8), (.int .i64 0), (.int .i64 0), (W8 0#8), (.int .i64 0), (.int .i64 0), (W8 0#8), (.int .i64 0), (.int .i64 0)] 3) [(0, v55), (1, v56), (2, v57)]) H ⟨fun v58 H =>
 q' (abuildR (.str [(W16 0#16), (W8 0#8), (.int .i64 0), (.int .i64 0), (W8 0#8), (.int .i64 0), (.int .i64 0), (W8 0#8), (.int .i64 0), (.int .i64 0), (.int .i64 0), (.int .i64 0)] [(0, 1), (1, 9), (10, 1), (11, 1)]) [(0, v54), (1, v58), (2, (.int .i64 0)), (3, (.int .i64 0))]) H ⟨fun v59 H =>
 w' (astoreR (some 12) (fr 2) v59 H) ⟨fun _ H =>
 e' [(2, fr 2)] H⟩⟩⟩⟩⟩⟩⟩⟩⟩⟩)
@[simp] def r17 (fr : AFr) (H : AHeap) : ARes :=
 areg (q' (bn' .eql (fr 13) (.int .i64 9)) H ⟨fun v61 H =>
 e' [(0, fr 0), (2, fr 2), (3, fr 3), (4, fr 4), (5, fr 5), (6, fr 6), (7, fr 7), (13, fr 13), (60, v61)] H⟩)
@[simp] def r18 (fr : AFr) (H : AHeap) : ARes :=
 areg (q' (bn' .eql (fr 13) (.int .i64 10)) H ⟨fun v62 H =>
 e' [(0, fr 0), (2, fr 2), (3, fr 3), (4, fr 4), (5, fr 5), (6, fr 6), (7, fr 7), (13, fr 13), (60, v62)] H⟩)
@[simp] def r19 (fr : AFr) (H : AHeap) : ARes :=
 areg (q' (bn' .add (.int .i64 14) (fr 0)) H ⟨fun v64 H =>
 q' (bn' .sub v64 (.int .i64 9)) H ⟨fun v65 H =>
 q' (aconvR (some .u16) v65) H ⟨fun v66 H =>
 q' (bn' .shl v66 (W64 9#64)) H ⟨fun v67 H =>
 q' (abuildR (.str [(W8 0#8), (.int .i64 0), (.int .i64 0)] [(0, 1), (1, 1), (2, 1)]) [(0, (W8 105#8)), (1, (.int .i64 6)), (2, (.int .i64 3))]) H ⟨fun v68 H =>
 q' (Ld' 3 (fr 4) H) H ⟨fun v69 H =>
 q' (Ld' 3 (fr 3) H) H ⟨fun v70 H =>
 q' (abuildR (.arr [(W8 0#8), (.int .i64 0), (.int .i64 0), (W8 0#8), (.int .i64 0), (.int .i64 0), (W8 0#8), (.int .i64 0), (.int .i64 0)] 3) [(0, v68), (1, v69), (2, v70)]) H ⟨fun v71 H =>
 q' (abuildR (.str [(W16 0#16), (W8 0#8), (.int .i64 0), (.int .i64 0), (W8 0#8), (.int .i64 0), (.int .i64 0), (W8 0#8), (.int .i64 0), (.int .i64 0), (.int .i64 0), (.int .i64 0)] [(0, 1), (1, 9), (10, 1), (11, 1)]) [(0, v67), (1, v71), (2, (.int .i64 0)), (3, (.int .i64 7))]) H ⟨fun v72 H =>
 w' (astoreR (some 12) (fr 2) v72 H) ⟨fun _ H =>
 e' [(2, fr 2)] H⟩⟩⟩⟩⟩⟩⟩⟩⟩⟩)
@[simp] def r20 (fr : AFr) (H : AHeap) : ARes :=
 areg (q' (bn' .eql (fr 13) (.int .i64 11)) H ⟨fun v74 H =>
 e' [(2, fr 2), (3, fr 3), (4, fr 4), (5, fr 5), (6, fr 6), (7, fr 7), (13, fr 13), (73, v74)] H⟩)
@[simp] def r21 (fr : AFr) (H : AHeap) : ARes :=
 areg (q' (abuildR (.str [(W8 0#8), (.int .i64 0), (.int .i64 0)] [(0, 1), (1, 1), (2, 1)]) [(0, (W8 105#8)), (1, (.int .i64 6)), (2, (.int .i64 4))]) H ⟨fun v75 H =>
 q' (Ld' 3 (fr 7) H) H ⟨fun v76 H =>
 q' (Ld' 3 (fr 3) H) H ⟨fun v77 H =>
 q' (abuildR (.arr [(W8 0#8), (.int .i64 0), (.int .i64 0), (W8 0#8), (.int .i64 0), (.int .i64 0), (W8 0#8), (.int .i64 0), (.int .i64 0)] 3) [(0, v75), (1, v76), (2, v77)]) H ⟨fun v78 H =>
 q' (abuildR (.str [(W16 0#16), (W8 0#8), (.int .i64 0), (.int .i64 0), (W8 0#8), (.int .i64 0), (.int .i64 0), (W8 0#8), (.int .i64 0), (.int .i64 0), (.int .i64 0), (.int .i64 0)] [(0, 1), (1, 9), (10, 1), (11, 1)]) [(0, (W16 16384#16)), (1, v78), (2, (.int .i64 0)), (3, (.int .i64 15))]) H ⟨fun v79 H =>
 w' (astoreR (some 12) (fr 2) v79 H) ⟨fun _ H =>
 e' [(2, fr 2)] H⟩⟩⟩⟩⟩⟩)
@[simp] def r22 (fr : AFr) (H : AHeap) : ARes :=
 areg (q' (bn' .eql (fr 13) (.int .i64 12)) H ⟨fun v81 H =>
 e' [(2, fr 2), (3, fr 3), (4, fr 4), (5, fr 5), (6, fr 6), (13, fr 13), (80, v81)] H⟩)
@[simp] def r23 (fr : AFr) (H : AHeap) : ARes :=
 areg (q' (abuildR (.str [(W8 0#8), (.int .i64 0), (.int .i64 0)] [(0, 1), (1, 1), (2, 1)]) [(0, (W8 105#8)), (1, (.int .i64 6)), (2, (.int .i64 5))]) H ⟨fun v82 H =>
 q' (Ld' 3 (fr 4) H) H ⟨fun v83 H =>
 q' (Ld' 3 (fr 3) H) H ⟨fun v84 H =>
 q' (abuildR (.arr [(W8 0#8), (.int .i64 0), (.int .i64 0), (W8 0#8), (.int .i64 0), (.int .i64 0), (W8 0#8), (.int .i64 0), (.int .i64 0)] 3) [(0, v82), (1, v83), (2, v84)]) H ⟨fun v85 H =>
 q' (abuildR (.str [(W16 0#16), (W8 0#8), (.int .i64 0), (.int .i64 0), (W8 0#8), (.int .i64 0), (.int .i64 0), (W8 0#8), (.int .i64 0), (.int .i64 0), (.int .i64 0), (.int .i64 0)] [(0, 1), (1, 9), (10, 1), (11, 1)]) [(0, (W16 26624#16)), (1, v85), (2, (.int .i64 0)), (3, (.int .i64 31))]) H ⟨fun v86 H =>
 w' (astoreR (some 12) (fr 2) v86 H) ⟨fun _ H =>
 e' [(2, fr 2)] H⟩⟩⟩⟩⟩⟩)
@[simp] def r24 (fr : AFr) (H : AHeap) : ARes :=
 areg (q' (bn' .eql (fr 13) (.int .i64 13)) H ⟨fun v88 H =>
 e' [(2, fr 2), (3, fr 3), (4, fr 4), (5, fr 5), (6, fr 6), (13, fr 13), (87, v88)] H⟩)
@[simp] def r25 (fr : AFr) (H : AHeap) : ARes :=
 areg (q' (abuildR (.str [(W8 0#8), (.int .i64 0), (.int .i64 0)] [(0, 1), (1, 1), (2, 1)]) [(0, (W8 105#8)), (1, (.int .i64 6)), (2, (.int .i64 5))]) H ⟨fun v89 H =>
 q' (Ld' 3 (fr 4) H) H ⟨fun v90 H =>
 q' (Ld' 3 (fr 3) H) H ⟨fun v91 H =>
 q' (abuildR (.arr [(W8 0#8), (.int .i64 0), (.int .i64 0), (W8 0#8), (.int .i64 0), (.int .i64 0), (W8 0#8), (.int .i64 0), (.int .i64 0)] 3) [(0, v89), (1, v90), (2, v91)]) H ⟨fun v92 H =>
 q' (abuildR (.str [(W16 0#16), (W8 0#8), (.int .i64 0), (.int .i64 0), (W8 0#8), (.int .i64 0), (.int .i64 0), (W8 0#8), (.int .i64 0), (.int .i64 0), (.int .i64 0), (.int .i64 0)] [(0, 1), (1, 9), (10, 1), (11, 1)]) [(0, (W16 24576#16)), (1, v92), (2, (.int .i64 0)), (3, (.int .i64 31))]) H ⟨fun v93 H =>
 w' (astoreR (some 12) (fr 2) v93 H) ⟨fun _ H =>
 e' [(2, fr 2)] H⟩⟩⟩⟩⟩⟩)
@[simp] def r26 (fr : AFr) (H : AHeap) : ARes :=
 areg (q' (bn' .eql (fr 13) (.int .i64 14)) H ⟨fun v95 H =>
 e' [(2, fr 2), (3, fr 3), (4, fr 4), (5, fr 5), (6, fr 6), (13, fr 13), (94, v95)] H⟩)
@[simp] def r27 (fr : AFr) (H : AHeap) : ARes :=
 areg (q' (Ld' 3 (fr 5) H) H ⟨fun v96 H =>
 q' (Ld' 3 (fr 4) H) H ⟨fun v97 H =>
 q' (Ld' 3 (fr 3) H) H ⟨fun v98 H =>
 q' (abuildR (.arr [(W8 0#8), (.int .i64 0), (.int .i64 0), (W8 0#8), (.int .i64 0), (.int .i64 0), (W8 0#8), (.int .i64 0), (.int .i64 0)] 3) [(0, v96), (1, v97), (2, v98)]) H ⟨fun v99 H =>
 q' (abuildR (.str [(W16 0#16), (W8 0#8), (.int .i64 0), (.int .i64 0), (W8 0#8), (.int .i64 0), (.int .i64 0), (W8 0#8), (.int .i64 0), (.int .i64 0), (.int .i64 0), (.int .i64 0)] [(0, 1), (1, 9), (10, 1), (11, 1)]) [(0, (W16 22528#16)), (1, v99), (2, (.int .i64 0)), (3, (.int .i64 0))]) H ⟨fun v100 H =>
 w' (astoreR (some 12) (fr 2) v100 H) ⟨fun _ H =>
 e' [(2, fr 2)] H⟩⟩⟩⟩⟩⟩)
@[simp] def r28 (fr : AFr) (H : AHeap) : ARes :=
 areg (q' (bn' .eql (fr 13) (.int .i64 15)) H ⟨fun v102 H =>
 e' [(2, fr 2), (3, fr 3), (4, fr 4), (5, fr 5), (6, fr 6), (13, fr 13), (101, v102)] H⟩)
@[simp] def r29 (fr : AFr) (H : AHeap) : ARes :=
 areg (q' (Ld' 3 (fr 5) H) H ⟨fun v103 H =>
 q' (Ld' 3 (fr 4) H) H ⟨fun v104 H =>
 q' (Ld' 3 (fr 3) H) H ⟨fun v105 H =>
 q' (abuildR (.arr [(W8 0#8), (.int .i64 0), (.int .i64 0), (W8 0#8), (.int .i64 0), (.int .i64 0), (W8 0#8), (.int .i64 0), (.int .i64 0)] 3) [(0, v103), (1, v104), (2, v105)]) H ⟨fun v106 H =>
 q' (abuildR (.str [(W16 0#16), (W8 0#8), (.int .i64 0), (.int .i64 0), (W8 0#8), (.int .i64 0), (.int .i64 0), (W8 0#8), (.int .i64 0), (.int .i64 0), (.int .i64 0), (.int .i64 0)] [(0, 1), (1, 9), (10, 1), (11, 1)]) [(0, (W16 20480#16)), (1, v106), (2, (.int .i64 0)), (3, (.int .i64 0))]) H ⟨fun v107 H =>
 w' (astoreR (some 12) (fr 2) v107 H) ⟨fun _ H =>
 e' [(2, fr 2)] H⟩⟩⟩⟩⟩⟩)
@[simp] def r30 (fr : AFr) (H : AHeap) : ARes :=
 areg (q' (bn' .eql (fr 13) (.int .i64 16)) H ⟨fun v109 H =>
 e' [(2, fr 2), (6, fr 6), (13, fr 13), (108, v109)] H⟩)
@[simp] def r31 (fr : AFr) (H : AHeap) : ARes :=
 areg (q' (abuildR (.str [(W8 0#8), (.int .i64 0), (.int .i64 0)] [(0, 1), (1, 1), (2, 1)]) [(0, (W8 100#8)), (1, (.int .i64 8)), (2, (.int .i64 3))]) H ⟨fun v110 H =>
 q' (Ld' 3 (fr 6) H) H ⟨fun v111 H =>
 q' (abuildR (.arr [(W8 0#8), (.int .i64 0), (.int .i64 0), (W8 0#8), (.int .i64 0), (.int .i64 0), (W8 0#8), (.int .i64 0), (.int .i64 0)] 3) [(0, v110), (1, v111)]) H ⟨fun v112 H =>
 q' (abuildR (.str [(W16 0#16), (W8 0#8), (.int .i64 0), (.int .i64 0), (W8 0#8), (.int .i64 0), (.int .i64 0), (W8 0#8), (.int .i64 0), (.int .i64 0), (.int .i64 0), (.int .i64 0)] [(0, 1), (1, 9), (10, 1), (11, 1)]) [(0, (W16 18432#16)), (1, v112), (2, (.int .i64 0)), (3, (.int .i64 255))]) H ⟨fun v113 H =>
 w' (astoreR (some 12) (fr 2) v113 H) ⟨fun _ H =>
 e' [(2, fr 2)] H⟩⟩⟩⟩⟩)
@[simp] def r32 (fr : AFr) (H : AHeap) : ARes :=
 areg (q' (bn' .eql (fr 13) (.int .i64 17)) H ⟨fun v115 H =>
 e' [(2, fr 2), (6, fr 6), (13, fr 13), (114, v115)] H⟩)
@[simp] def r33 (fr : AFr) (H : AHeap) : ARes :=
 areg (q' (abuildR (.str [(W8 0#8), (.int .i64 0), (.int .i64 0)] [(0, 1), (1, 1), (2, 1)]) [(0, (W8 105#8)), (1, (.int .i64 0)), (2, (.int .i64 11))]) H ⟨fun v116 H =>
 q' (abuildR (.arr [(W8 0#8), (.int .i64 0), (.int .i64 0), (W8 0#8), (.int .i64 0), (.int .i64 0), (W8 0#8), (.int .i64 0), (.int .i64 0)] 3) [(0, v116)]) H ⟨fun v117 H =>
 q' (abuildR (.str [(W16 0#16), (W8 0#8), (.int .i64 0), (.int .i64 0), (W8 0#8), (.int .i64 0), (.int .i64 0), (W8 0#8), (.int .i64 0), (.int .i64 0), (.int .i64 0), (.int .i64 0)] [(0, 1), (1, 9), (10, 1), (11, 1)]) [(0, (W16 57344#16)), (1, v117), (2, (.int .i64 (-1024))), (3, (.int .i64 1023))]) H ⟨fun v118 H =>
 w' (astoreR (some 12) (fr 2) v118 H) ⟨fun _ H =>
 e' [(2, fr 2)] H⟩⟩⟩⟩)
@[simp] def r34 (fr : AFr) (H : AHeap) : ARes :=
 areg (q' (bn' .eql (fr 13) (.int .i64 18)) H ⟨fun v120 H =>
 e' [(2, fr 2), (6, fr 6), (13, fr 13), (119, v120)] H⟩)
@[simp] def r35 (fr : AFr) (H : AHeap) : ARes :=
 areg (q' (abuildR (.str [(W8 0#8), (.int .i64 0), (.int .i64 0)] [(0, 1), (1, 1), (2, 1)]) [(0, (W8 99#8)), (1, (.int .i64 8)), (2, (.int .i64 4))]) H ⟨fun v121 H =>
 q' (Ld' 3 (fr 6) H) H ⟨fun v122 H =>
 q' (abuildR (.arr [(W8 0#8), (.int .i64 0), (.int .i64 0), (W8 0#8), (.int .i64 0), (.int .i64 0), (W8 0#8), (.int .i64 0), (.int .i64 0)] 3) [(0, v121), (1, v122)]) H ⟨fun v123 H =>
 q' (abuildR (.str [(W16 0#16), (W8 0#8), (.int .i64 0), (.int .i64 0), (W8 0#8), (.int .i64 0), (.int .i64 0), (W8 0#8), (.int .i64 0), (.int .i64 0), (.int .i64 0), (.int .i64 0)] [(0, 1), (1, 9), (10, 1), (11, 1)]) [(0, (W16 53248#16)), (1, v123), (2, (.int .i64 (-128))), (3, (.int .i64 127))]) H ⟨fun v124 H =>
 w' (astoreR (some 12) (fr 2) v124 H) ⟨fun _ H =>
 e' [(2, fr 2)] H⟩⟩⟩⟩⟩)
@[simp] def r36 (fr : AFr) (H : AHeap) : ARes :=
 areg (q' (bn' .eql (fr 13) (.int .i64 19)) H ⟨fun v126 H =>
 e' [(2, fr 2), (6, fr 6), (125, v126)] H⟩)
@[simp] def r37 (fr : AFr) (H : AHeap) : ARes :=
 areg (q' (abuildR (.str [(W16 0#16), (W8 0#8), (.int .i64 0), (.int .i64 0), (W8 0#8), (.int .i64 0), (.int .i64 0), (W8 0#8), (.int .i64 0), (.int .i64 0), (.int .i64 0), (.int .i64 0)] [(0, 1), (1, 9), (10, 1), (11, 1)]) [(0, (W16 48896#16))]) H ⟨fun v127 H =>
 w' (astoreR (some 12) (fr 2) v127 H) ⟨fun _ H =>
 e' [(2, fr 2)] H⟩⟩)
@[simp] def r38 (fr : AFr) (H : AHeap) : ARes :=
 areg (q' (Ld' 3 (fr 6) H) H ⟨fun v128 H =>
 q' (abuildR (.arr [(W8 0#8), (.int .i64 0), (.int .i64 0), (W8 0#8), (.int .i64 0), (.int .i64 0), (W8 0#8), (.int .i64 0), (.int .i64 0)] 3) [(0, v128)]) H ⟨fun v129 H =>
 q' (abuildR (.str [(W16 0#16), (W8 0#8), (.int .i64 0), (.int .i64 0), (W8 0#8), (.int .i64 0), (.int .i64 0), (W8 0#8), (.int .i64 0), (.int .i64 0), (.int .i64 0), (.int .i64 0)] [(0, 1), (1, 9), (10, 1), (11, 1)]) [(0, (W16 48640#16)), (1, v129), (2, (.int .i64 0)), (3, (.int .i64 255))]) H ⟨fun v130 H =>
 w' (astoreR (some 12) (fr 2) v130 H) ⟨fun _ H =>
 e' [(2, fr 2)] H⟩⟩⟩⟩)
@[simp] def body (fr : AFr) (H : AHeap) : ARes :=
  s' (r0 fr H) ⟨fun fr H =>
 s' (r1 fr H) ⟨fun fr H =>
 s' (r2 fr H) ⟨fun fr H =>
 s' (s' (r3 fr H) ⟨fun fr H =>
  aexit 0 (s' (s' (r4 fr H) ⟨fun fr H =>
 c' (fr 14)
 ⟨some (.normal, fr, H)⟩
 ⟨s' (r5 fr H) ⟨fun fr H =>
 c' (fr 14)
 ⟨some (.normal, fr, H)⟩
 ⟨s' (r6 fr H) ⟨fun fr H =>
 c' (fr 14)
 ⟨some (.normal, fr, H)⟩
 ⟨r7 fr H⟩⟩⟩⟩⟩⟩) ⟨fun fr H =>
 c' (fr 14)
 ⟨s' (r8 fr H) ⟨fun fr H =>
 some (.ret, fr, H)⟩⟩
 ⟨s' (r9 fr H) ⟨fun fr H =>
 c' (fr 28)
 ⟨s' (r10 fr H) ⟨fun fr H =>
 some (.ret, fr, H)⟩⟩
 ⟨s' (s' (r11 fr H) ⟨fun fr H =>
 c' (fr 35)
 ⟨some (.normal, fr, H)⟩
 ⟨r12 fr H⟩⟩) ⟨fun fr H =>
 c' (fr 35)
 ⟨s' (r13 fr H) ⟨fun fr H =>
 some (.ret, fr, H)⟩⟩
 ⟨s' (s' (r14 fr H) ⟨fun fr H =>
 c' (fr 47)
 ⟨some (.normal, fr, H)⟩
 ⟨r15 fr H⟩⟩) ⟨fun fr H =>
 c' (fr 47)
 ⟨s' (r16 fr H) ⟨fun fr H =>
 some (.ret, fr, H)⟩⟩
 ⟨s' (s' (r17 fr H) ⟨fun fr H =>
 c' (fr 60)
 ⟨some (.normal, fr, H)⟩
 ⟨r18 fr H⟩⟩) ⟨fun fr H =>
 c' (fr 60)
 ⟨s' (r19 fr H) ⟨fun fr H =>
 some (.ret, fr, H)⟩⟩
 ⟨s' (r20 fr H) ⟨fun fr H =>
 c' (fr 73)
 ⟨s' (r21 fr H) ⟨fun fr H =>
 some (.ret, fr, H)⟩⟩
 ⟨s' (r22 fr H) ⟨fun fr H =>
 c' (fr 80)
 ⟨s' (r23 fr H) ⟨fun fr H =>
 some (.ret, fr, H)⟩⟩
 ⟨s' (r24 fr H) ⟨fun fr H =>
 c' (fr 87)
 ⟨s' (r25 fr H) ⟨fun fr H =>
 some (.ret, fr, H)⟩⟩
 ⟨s' (r26 fr H) ⟨fun fr H =>
 c' (fr 94)
 ⟨s' (r27 fr H) ⟨fun fr H =>
 some (.ret, fr, H)⟩⟩
 ⟨s' (r28 fr H) ⟨fun fr H =>
 c' (fr 101)
 ⟨s' (r29 fr H) ⟨fun fr H =>
 some (.ret, fr, H)⟩⟩
 ⟨s' (r30 fr H) ⟨fun fr H =>
 c' (fr 108)
 ⟨s' (r31 fr H) ⟨fun fr H =>
 some (.ret, fr, H)⟩⟩
 ⟨s' (r32 fr H) ⟨fun fr H =>
 c' (fr 114)
 ⟨s' (r33 fr H) ⟨fun fr H =>
 some (.ret, fr, H)⟩⟩
 ⟨s' (r34 fr H) ⟨fun fr H =>
 c' (fr 119)
 ⟨s' (r35 fr H) ⟨fun fr H =>
 some (.ret, fr, H)⟩⟩
 ⟨s' (r36 fr H) ⟨fun fr H =>
 c' (fr 125)
 ⟨s' (r37 fr H) ⟨fun fr H =>
 some (.ret, fr, H)⟩⟩
 ⟨some (.normal, fr, H)⟩⟩⟩⟩⟩⟩⟩⟩⟩⟩⟩⟩⟩⟩⟩⟩⟩⟩⟩⟩⟩⟩⟩⟩⟩⟩⟩⟩)⟩) ⟨fun fr H =>
 s' (r38 fr H) ⟨fun fr H =>
 some (.ret, fr, H)⟩⟩⟩⟩⟩
@[simp] def res (fr : AFr) (H : AHeap) : Option (List AV) := res2 (aloadR (some (some 12)) (fr 2) H) (some [])
end thumb_shapes
def thumb_shapes (a0 : AV) : Option AV := closeUpR (some [[none, none, none, none, none, none, none, none, none, none, none, none]]) (afinR thumb_shapes.res (thumb_shapes.body (args0 [a0]) AHeap.empty))
def thumb_shapes.spec : List AV → Option AV
  | [a0] => thumb_shapes a0
  | _ => none
namespace thumb_field
def C : Tab := Tab.none
@[simp] def r0 (fr : AFr) (H : AHeap) : ARes :=
 areg (e' [(0, fr 0), (1, fr 1)] H)
@[simp] def r1 (fr : AFr) (H : AHeap) : ARes :=
 areg (e' [(0, fr 0), (5, (fr 1))] H)
@[simp] def r2 (fr : AFr) (H : AHeap) : ARes :=
 areg (q' (bn' .eql (fr 5) (W8 100#8)) H ⟨fun v7 H =>
 e' [(0, fr 0), (5, fr 5), (6, v7)] H⟩)
@[simp] def r3 (fr : AFr) (H : AHeap) : ARes :=
 areg (q' (bn' .eql (fr 5) (W8 99#8)) H ⟨fun v8 H =>
 e' [(0, fr 0), (5, fr 5), (6, v8)] H⟩)
@[simp] def r4 (fr : AFr) (H : AHeap) : ARes :=
 areg (q' (anil (fr 0)) H ⟨fun v10 H =>
 q' (fa' 1 v10) H ⟨fun v11 H =>
 e' [(4, v11)] H⟩⟩)
@[simp] def r5 (fr : AFr) (H : AHeap) : ARes :=
 areg (q' (bn' .eql (fr 5) (W8 110#8)) H ⟨fun v13 H =>
 e' [(0, fr 0), (5, fr 5), (12, v13)] H⟩)
@[simp] def r6 (fr : AFr) (H : AHeap) : ARes :=
 areg (q' (anil (fr 0)) H ⟨fun v15 H =>
 q' (fa' 2 v15) H ⟨fun v16 H =>
 e' [(4, v16)] H⟩⟩)
@[simp] def r7 (fr : AFr) (H : AHeap) : ARes :=
 areg (q' (bn' .eql (fr 5) (W8 109#8)) H ⟨fun v18 H =>
 e' [(0, fr 0), (17, v18)] H⟩)
@[simp] def r8 (fr : AFr) (H : AHeap) : ARes :=
 areg (q' (anil (fr 0)) H ⟨fun v20 H =>
 q' (fa' 3 v20) H ⟨fun v21 H =>
 e' [(4, v21)] H⟩⟩)
@[simp] def r9 (fr : AFr) (H : AHeap) : ARes :=
 areg (q' (anil (fr 0)) H ⟨fun v23 H =>
 q' (fa' 4 v23) H ⟨fun v24 H =>
 e' [(4, v24)] H⟩⟩)
@[simp] def body (fr : AFr) (H : AHeap) : ARes :=
  s' (r0 fr H) ⟨fun fr H =>
 s' (s' (r1 fr H) ⟨fun fr H =>
  aexit 0 (s' (s' (r2 fr H) ⟨fun fr H =>
 c' (fr 6)
 ⟨some (.normal, fr, H)⟩
 ⟨r3 fr H⟩⟩) ⟨fun fr H =>
 c' (fr 6)
 ⟨s' (r4 fr H) ⟨fun fr H =>
 some (.ret, fr, H)⟩⟩
 ⟨s' (r5 fr H) ⟨fun fr H =>
 c' (fr 12)
 ⟨s' (r6 fr H) ⟨fun fr H =>
 some (.ret, fr, H)⟩⟩
 ⟨s' (r7 fr H) ⟨fun fr H =>
 c' (fr 17)
 ⟨s' (r8 fr H) ⟨fun fr H =>
 some (.ret, fr, H)⟩⟩
 ⟨some (.normal, fr, H)⟩⟩⟩⟩⟩⟩)⟩) ⟨fun fr H =>
 s' (r9 fr H) ⟨fun fr H =>
 some (.ret, fr, H)⟩⟩⟩
@[simp] def res (fr : AFr) (H : AHeap) : Option (List AV) := res2 (some (fr 4)) (some [])
end thumb_field
def thumb_field (a0 a1 : AV) (H : AHeap) : Option (AV × AHeap) := raw (afinR thumb_field.res (thumb_field.body (args0 [a0, a1]) H))
def thumb_field.spec : List AV → AHeap → Option (AV × AHeap)
  | [a0, a1], H => thumb_field a0 a1 H
  | _, _ => none
namespace thumb_can
def C (s0 : SpecP) (s1 : SpecM) : Tab := ((Tab.none.add 65 (.pure false s0)).add 66 (.ref [false, false] s1))
@[simp] def r0 (fr : AFr) (H : AHeap) : ARes :=
 areg (o' (abox T.ty_api_Ins (fr 0) H) ⟨fun v1 H =>
 e' [(1, v1)] H⟩)
@[simp] def r1 (fr : AFr) (H : AHeap) : ARes :=
 areg (q' (fa' 0 (fr 1)) H ⟨fun v8 H =>
 q' (ld' v8 H) H ⟨fun v9 H =>
 q' (bn' .lss v9 (.int .i64 0)) H ⟨fun v10 H =>
 G' v10 false ⟨fa' 0 (fr 1)⟩ H ⟨fun v12 H =>
 G' v10 false ⟨ld' v12 H⟩ H ⟨fun v13 H =>
 G' v10 false ⟨bn' .geq v13 (.int .i64 21)⟩ H ⟨fun v14 H =>
 q' (apick v10 (.bool true) v14) H ⟨fun v15 H =>
 e' [(1, fr 1), (15, v15)] H⟩⟩⟩⟩⟩⟩⟩)
@[simp] def r2 (fr : AFr) (H : AHeap) : ARes :=
 areg (e' [(2, (.bool false))] H)
@[simp] def r3 (s0 : SpecP) (fr : AFr) (H : AHeap) : ARes :=
 areg (q' (fa' 0 (fr 1)) H ⟨fun v16 H =>
 q' (ld' v16 H) H ⟨fun v17 H =>
 o' (callP false s0 [[none]] [v17] H) ⟨fun v18 H =>
 o' (aallocR T.ty_thumb_shape (some (.agg [(W16 0#16), (W8 0#8), (.int .i64 0), (.int .i64 0), (W8 0#8), (.int .i64 0), (.int .i64 0), (W8 0#8), (.int .i64 0), (.int .i64 0), (.int .i64 0), (.int .i64 0)])) H) ⟨fun v3 H =>
 w' (astoreR (some 12) v3 v18 H) ⟨fun _ H =>
 e' [(1, fr 1), (3, v3)] H⟩⟩⟩⟩⟩)
@[simp] def r4 (fr : AFr) (H : AHeap) : ARes :=
 areg (q' (fa' 4 (fr 1)) H ⟨fun v19 H =>
 q' (ld' v19 H) H ⟨fun v20 H =>
 q' (fa' 10 (fr 3)) H ⟨fun v21 H =>
 q' (ld' v21 H) H ⟨fun v22 H =>
 q' (bn' .lss v20 v22) H ⟨fun v23 H =>
 G' v23 false ⟨fa' 4 (fr 1)⟩ H ⟨fun v25 H =>
 G' v23 false ⟨ld' v25 H⟩ H ⟨fun v26 H =>
 G' v23 false ⟨fa' 11 (fr 3)⟩ H ⟨fun v27 H =>
 G' v23 false ⟨ld' v27 H⟩ H ⟨fun v28 H =>
 G' v23 false ⟨bn' .gtr v26 v28⟩ H ⟨fun v29 H =>
 q' (apick v23 (.bool true) v29) H ⟨fun v30 H =>
 e' [(1, fr 1), (3, fr 3), (30, v30)] H⟩⟩⟩⟩⟩⟩⟩⟩⟩⟩⟩)
@[simp] def r5 (fr : AFr) (H : AHeap) : ARes :=
 areg (e' [(2, (.bool false))] H)
@[simp] def r6 (fr : AFr) (H : AHeap) : ARes :=
 areg (q' (Ld' 5 (fr 1) H) H ⟨fun v31 H =>
 o' (aallocR T.ty_api_Ins (some (.agg [(.int .i64 0), (.int .i64 0), (.int .i64 0), (.int .i64 0), (.int .i64 0)])) H) ⟨fun v4 H =>
 w' (astoreR (some 5) v4 v31 H) ⟨fun _ H =>
 e' [(1, fr 1), (3, fr 3), (4, v4)] H⟩⟩⟩)
@[simp] def r7 (fr : AFr) (H : AHeap) : ARes :=
 areg (q' (fa' 1 (fr 3)) H ⟨fun v32 H =>
 q' (Ld' 9 v32 H) H ⟨fun v33 H =>
 e' [(1, fr 1), (4, fr 4), (33, v33), (34, (.int .i64 0))] H⟩⟩)
@[simp] def r8 (fr : AFr) (H : AHeap) : ARes :=
 areg (q' (bn' .lss (fr 34) (.int .i64 3)) H ⟨fun v35 H =>
 e' [(1, fr 1), (4, fr 4), (33, fr 33), (34, fr 34), (35, v35)] H⟩)
@[simp] def r9 (fr : AFr) (H : AHeap) : ARes :=
 areg (q' (aindexR (.arr 3 3 (some (some 3))) (fr 33) (fr 34)) H ⟨fun v36 H =>
 o' (aallocR T.ty_thumb_part (some (.agg [(W8 0#8), (.int .i64 0), (.int .i64 0)])) H) ⟨fun v6 H =>
 w' (astoreR (some 3) v6 v36 H) ⟨fun _ H =>
 e' [(1, fr 1), (4, fr 4), (6, v6), (33, fr 33), (34, fr 34)] H⟩⟩⟩)
@[simp] def r10 (s1 : SpecM) (fr : AFr) (H : AHeap) : ARes :=
 areg (q' (fa' 0 (fr 6)) H ⟨fun v37 H =>
 q' (ld' v37 H) H ⟨fun v38 H =>
 o' (callM [false, false] s1 [[none], [none]] [(fr 1), v38] H) ⟨fun v39 H =>
 q' (anil v39) H ⟨fun v40 H =>
 q' (ld' v40 H) H ⟨fun v41 H =>
 e' [(1, fr 1), (4, fr 4), (6, fr 6), (7, v41), (33, fr 33), (34, fr 34)] H⟩⟩⟩⟩⟩)
@[simp] def r11 (fr : AFr) (H : AHeap) : ARes :=
 areg (q' (fa' 2 (fr 6)) H ⟨fun v43 H =>
 q' (ld' v43 H) H ⟨fun v44 H =>
 q' (bn' .eql v44 (.int .i64 0)) H ⟨fun v45 H =>
 e' [(1, fr 1), (4, fr 4), (6, fr 6), (7, fr 7), (33, fr 33), (34, fr 34), (42, v45)] H⟩⟩⟩)
@[simp] def r12 (fr : AFr) (H : AHeap) : ARes :=
 areg (q' (fa' 0 (fr 6)) H ⟨fun v47 H =>
 q' (ld' v47 H) H ⟨fun v48 H =>
 q' (bn' .eql v48 (W8 99#8)) H ⟨fun v49 H =>
 G' v49 true ⟨some (fr 7)⟩ H ⟨fun v51 H =>
 G' v49 true ⟨bn' .lss v51 (.int .i64 0)⟩ H ⟨fun v52 H =>
 G' v49 true ⟨some v52⟩ H ⟨fun v53 H =>
 G' v53 false ⟨some (fr 7)⟩ H ⟨fun v54 H =>
 G' v53 false ⟨bn' .gtr v54 (.int .i64 13)⟩ H ⟨fun v55 H =>
 G' v49 true ⟨apick v53 (.bool true) v55⟩ H ⟨fun v56 H =>
 q' (apick v49 v56 (.bool false)) H ⟨fun v57 H =>
 e' [(1, fr 1), (4, fr 4), (6, fr 6), (7, fr 7), (33, fr 33), (34, fr 34), (46, v57)] H⟩⟩⟩⟩⟩⟩⟩⟩⟩⟩)
@[simp] def r13 (fr : AFr) (H : AHeap) : ARes :=
 areg (q' (fa' 0 (fr 6)) H ⟨fun v58 H =>
 q' (ld' v58 H) H ⟨fun v59 H =>
 q' (bn' .neq v59 (W8 99#8)) H ⟨fun v60 H =>
 G' v60 true ⟨fa' 0 (fr 6)⟩ H ⟨fun v62 H =>
 G' v60 true ⟨ld' v62 H⟩ H ⟨fun v63 H =>
 G' v60 true ⟨bn' .neq v63 (W8 105#8)⟩ H ⟨fun v64 H =>
 q' (apick v60 v64 (.bool false)) H ⟨fun v65 H =>
 G' v65 true ⟨some (fr 7)⟩ H ⟨fun v67 H =>
 G' v65 true ⟨bn' .lss v67 (.int .i64 0)⟩ H ⟨fun v68 H =>
 G' v65 true ⟨some v68⟩ H ⟨fun v69 H =>
 G' v69 false ⟨some (fr 7)⟩ H ⟨fun v70 H =>
 G' v69 false ⟨bn' .geq v70 (.int .i64 8)⟩ H ⟨fun v71 H =>
 G' v65 true ⟨apick v69 (.bool true) v71⟩ H ⟨fun v72 H =>
 q' (apick v65 v72 (.bool false)) H ⟨fun v73 H =>
 e' [(1, fr 1), (4, fr 4), (6, fr 6), (33, fr 33), (34, fr 34), (46, v73)] H⟩⟩⟩⟩⟩⟩⟩⟩⟩⟩⟩⟩⟩⟩)
@[simp] def r14 (fr : AFr) (H : AHeap) : ARes :=
 areg (e' [(2, (.bool false))] H)
@[simp] def r15 (s1 : SpecM) (fr : AFr) (H : AHeap) : ARes :=
 areg (q' (fa' 0 (fr 6)) H ⟨fun v74 H =>
 q' (ld' v74 H) H ⟨fun v75 H =>
 o' (callM [false, false] s1 [[none], [none]] [(fr 4), v75] H) ⟨fun v76 H =>
 q' (anil v76) H ⟨fun v77 H =>
 w' (astoreR (some 1) v77 (.int .i64 0) H) ⟨fun _ H =>
 e' [(1, fr 1), (4, fr 4), (33, fr 33), (34, fr 34)] H⟩⟩⟩⟩⟩)
@[simp] def r16 (fr : AFr) (H : AHeap) : ARes :=
 areg (q' (bn' .add (fr 34) (.int .i64 1)) H ⟨fun v78 H =>
 e' [(1, fr 1), (4, fr 4), (33, fr 33), (34, v78)] H⟩)
@[simp] def r17 (fr : AFr) (H : AHeap) : ARes :=
 areg (q' (Ld' 5 (fr 4) H) H ⟨fun v79 H =>
 q' (fa' 0 (fr 1)) H ⟨fun v80 H =>
 q' (ld' v80 H) H ⟨fun v81 H =>
 q' (abuildR (.str [(.int .i64 0), (.int .i64 0), (.int .i64 0), (.int .i64 0), (.int .i64 0)] [(0, 1), (1, 1), (2, 1), (3, 1), (4, 1)]) [(0, v81)]) H ⟨fun v82 H =>
 q' (abinR (.c [.i, .i, .i, .i, .i]) .eql v79 v82) H ⟨fun v83 H =>
 e' [(2, v83)] H⟩⟩⟩⟩⟩)
def l0 (s0 : SpecP) (s1 : SpecM) (fr : AFr) (H : AHeap) : ARes :=
  s' (r8 fr H) ⟨fun fr H =>
 s' (c' (fr 35)
 ⟨some (.normal, fr, H)⟩
 ⟨some (.exit 0, fr, H)⟩) ⟨fun fr H =>
 s' (aexit 1 (s' (r9 fr H) ⟨fun fr H =>
 s' (r10 s1 fr H) ⟨fun fr H =>
 s' (aexit 2 (s' (r11 fr H) ⟨fun fr H =>
 c' (fr 42)
 ⟨some (.exit 1, fr, H)⟩
 ⟨s' (s' (r12 fr H) ⟨fun fr H =>
 c' (fr 46)
 ⟨some (.normal, fr, H)⟩
 ⟨r13 fr H⟩⟩) ⟨fun fr H =>
 c' (fr 46)
 ⟨s' (r14 fr H) ⟨fun fr H =>
 some (.ret, fr, H)⟩⟩
 ⟨some (.normal, fr, H)⟩⟩⟩⟩)) ⟨fun fr H =>
 r15 s1 fr H⟩⟩⟩)) ⟨fun fr H =>
 r16 fr H⟩⟩⟩
@[simp] def body (s0 : SpecP) (s1 : SpecM) (fr : AFr) (H : AHeap) : ARes :=
  s' (r0 fr H) ⟨fun fr H =>
 s' (s' (r1 fr H) ⟨fun fr H =>
 c' (fr 15)
 ⟨s' (r2 fr H) ⟨fun fr H =>
 some (.ret, fr, H)⟩⟩
 ⟨some (.normal, fr, H)⟩⟩) ⟨fun fr H =>
 s' (r3 s0 fr H) ⟨fun fr H =>
 s' (s' (r4 fr H) ⟨fun fr H =>
 c' (fr 30)
 ⟨s' (r5 fr H) ⟨fun fr H =>
 some (.ret, fr, H)⟩⟩
 ⟨some (.normal, fr, H)⟩⟩) ⟨fun fr H =>
 s' (r6 fr H) ⟨fun fr H =>
 s' (s' (r7 fr H) ⟨fun fr H =>
  aexit 0 (aloop (l0 s0 s1) fr H)⟩) ⟨fun fr H =>
 s' (r17 fr H) ⟨fun fr H =>
 some (.ret, fr, H)⟩⟩⟩⟩⟩⟩⟩
@[simp] def res (fr : AFr) (H : AHeap) : Option (List AV) := res2 (some (fr 2)) (some [])
end thumb_can
def thumb_can (a0 : AV) : Option AV := closeUpR (some [[none]]) (afinR thumb_can.res (thumb_can.body thumb_shapes.spec thumb_field.spec (args0 [a0]) AHeap.empty))
def thumb_can.spec : List AV → Option AV
  | [a0] => thumb_can a0
  | _ => none
namespace thumb_put
def C (s0 : SpecP) (s1 : SpecM) : Tab := ((Tab.none.add 65 (.pure false s0)).add 66 (.ref [false, false] s1))
@[simp] def r0 (fr : AFr) (H : AHeap) : ARes :=
 areg (o' (abox T.ty_api_Ins (fr 0) H) ⟨fun v1 H =>
 e' [(1, v1)] H⟩)
@[simp] def r1 (s0 : SpecP) (fr : AFr) (H : AHeap) : ARes :=
 areg (q' (fa' 0 (fr 1)) H ⟨fun v7 H =>
 q' (ld' v7 H) H ⟨fun v8 H =>
 o' (callP false s0 [[none]] [v8] H) ⟨fun v9 H =>
 o' (aallocR T.ty_thumb_shape (some (.agg [(W16 0#16), (W8 0#8), (.int .i64 0), (.int .i64 0), (W8 0#8), (.int .i64 0), (.int .i64 0), (W8 0#8), (.int .i64 0), (.int .i64 0), (.int .i64 0), (.int .i64 0)])) H) ⟨fun v3 H =>
 w' (astoreR (some 12) v3 v9 H) ⟨fun _ H =>
 e' [(1, fr 1), (3, v3)] H⟩⟩⟩⟩⟩)
@[simp] def r2 (fr : AFr) (H : AHeap) : ARes :=
 areg (q' (fa' 0 (fr 3)) H ⟨fun v10 H =>
 q' (ld' v10 H) H ⟨fun v11 H =>
 e' [(1, fr 1), (3, fr 3), (4, v11)] H⟩⟩)
@[simp] def r3 (fr : AFr) (H : AHeap) : ARes :=
 areg (q' (fa' 1 (fr 3)) H ⟨fun v12 H =>
 q' (Ld' 9 v12 H) H ⟨fun v13 H =>
 e' [(1, fr 1), (4, fr 4), (13, v13), (14, (.int .i64 0))] H⟩⟩)
@[simp] def r4 (fr : AFr) (H : AHeap) : ARes :=
 areg (q' (bn' .lss (fr 14) (.int .i64 3)) H ⟨fun v15 H =>
 e' [(1, fr 1), (4, fr 4), (13, fr 13), (14, fr 14), (15, v15)] H⟩)
@[simp] def r5 (fr : AFr) (H : AHeap) : ARes :=
 areg (q' (aindexR (.arr 3 3 (some (some 3))) (fr 13) (fr 14)) H ⟨fun v16 H =>
 o' (aallocR T.ty_thumb_part (some (.agg [(W8 0#8), (.int .i64 0), (.int .i64 0)])) H) ⟨fun v6 H =>
 w' (astoreR (some 3) v6 v16 H) ⟨fun _ H =>
 e' [(1, fr 1), (4, fr 4), (6, v6), (13, fr 13), (14, fr 14)] H⟩⟩⟩)
@[simp] def r6 (fr : AFr) (H : AHeap) : ARes :=
 areg (q' (fa' 2 (fr 6)) H ⟨fun v17 H =>
 q' (ld' v17 H) H ⟨fun v18 H =>
 q' (bn' .gtr v18 (.int .i64 0)) H ⟨fun v19 H =>
 e' [(1, fr 1), (4, fr 4), (6, fr 6), (13, fr 13), (14, fr 14), (19, v19)] H⟩⟩⟩)
@[simp] def r7 (s1 : SpecM) (fr : AFr) (H : AHeap) : ARes :=
 areg (q' (some (fr 4)) H ⟨fun v20 H1 =>
 q' (fa' 0 (fr 6)) H1 ⟨fun v21 H2 =>
 q' (ld' v21 H2) H2 ⟨fun v22 H3 =>
 o' (san H3 (callM [false, false] s1 [[none], [none]] [(fr 1), v22] H3)) ⟨fun v23 H4 =>
 q' (anil v23) H4 ⟨fun v24 H5 =>
 q' (ld' v24 H5) H5 ⟨fun v25 H6 =>
 q' (fa' 2 (fr 6)) H6 ⟨fun v26 H7 =>
 q' (ld' v26 H7) H7 ⟨fun v27 H8 =>
 q' (bn' .shl (.int .i64 1) v27) H8 ⟨fun v28 H9 =>
 q' (bn' .sub v28 (.int .i64 1)) H9 ⟨fun v29 H10 =>
 q' (bn' .and v25 v29) H10 ⟨fun v30 H11 =>
 q' (aconvR (some .u16) v30) H11 ⟨fun v31 H12 =>
 q' (fa' 1 (fr 6)) H12 ⟨fun v32 H13 =>
 q' (ld' v32 H13) H13 ⟨fun v33 H14 =>
 q' (bn' .shl v31 v33) H14 ⟨fun v34 H15 =>
 q' (bn' .or v20 v34) H15 ⟨fun v35 H16 =>
 q' (some v35) H16 ⟨fun v4 H17 =>
 withChk [aloadR (some none) v26 H3 = aloadR (some none) v26 H4, aloadR (some none) v32 H3 = aloadR (some none) v32 H4] (e' [(1, fr 1), (4, v4), (13, fr 13), (14, fr 14)] H17)⟩⟩⟩⟩⟩⟩⟩⟩⟩⟩⟩⟩⟩⟩⟩⟩⟩)
@[simp] def r8 (fr : AFr) (H : AHeap) : ARes :=
 areg (q' (bn' .add (fr 14) (.int .i64 1)) H ⟨fun v36 H =>
 e' [(1, fr 1), (4, fr 4), (13, fr 13), (14, v36)] H⟩)
@[simp] def r9 (fr : AFr) (H : AHeap) : ARes :=
 areg (e' [(2, (fr 4))] H)
def l0 (s0 : SpecP) (s1 : SpecM) (fr : AFr) (H : AHeap) : ARes :=
  s' (r4 fr H) ⟨fun fr H =>
 s' (c' (fr 15)
 ⟨some (.normal, fr, H)⟩
 ⟨some (.exit 0, fr, H)⟩) ⟨fun fr H =>
 s' (aexit 1 (s' (r5 fr H) ⟨fun fr H =>
 s' (r6 fr H) ⟨fun fr H =>
 c' (fr 19)
 ⟨r7 s1 fr H⟩
 ⟨some (.normal, fr, H)⟩⟩⟩)) ⟨fun fr H =>
 r8 fr H⟩⟩⟩
@[simp] def body (s0 : SpecP) (s1 : SpecM) (fr : AFr) (H : AHeap) : ARes :=
  s' (r0 fr H) ⟨fun fr H =>
 s' (r1 s0 fr H) ⟨fun fr H =>
 s' (r2 fr H) ⟨fun fr H =>
 s' (s' (r3 fr H) ⟨fun fr H =>
  aexit 0 (aloop (l0 s0 s1) fr H)⟩) ⟨fun fr H =>
 s' (r9 fr H) ⟨fun fr H =>
 some (.ret, fr, H)⟩⟩⟩⟩⟩
@[simp] def res (fr : AFr) (H : AHeap) : Option (List AV) := res2 (some (fr 2)) (some [])
end thumb_put
def thumb_put (a0 : AV) : Option AV := closeUpR (some [[none]]) (afinR thumb_put.res (thumb_put.body thumb_shapes.spec thumb_field.spec (args0 [a0]) AHeap.empty))
def thumb_put.spec : List AV → Option AV
  | [a0] => thumb_put a0
  | _ => none
namespace thumb_Take
def C (s0 : SpecP) (s1 : SpecM) (s2 s3 : SpecP) : Tab := ((((Tab.none.add 65 (.pure false s0)).add 66 (.ref [false, false] s1)).add 59 (.pure false s2)).add 67 (.pure false s3))
@[simp] def r0 (fr : AFr) (H : AHeap) : ARes :=
 areg (o' (aallocR T.ty_api_Ins (some (.agg [(.int .i64 0), (.int .i64 0), (.int .i64 0), (.int .i64 0), (.int .i64 0)])) H) ⟨fun v2 H =>
 e' [(0, fr 0), (2, v2)] H⟩)
@[simp] def r1 (fr : AFr) (H : AHeap) : ARes :=
 areg (e' [(0, fr 0), (2, fr 2), (10, (.int .i64 0))] H)
@[simp] def r2 (fr : AFr) (H : AHeap) : ARes :=
 areg (q' (bn' .lss (fr 10) (.int .i64 21)) H ⟨fun v11 H =>
 e' [(0, fr 0), (2, fr 2), (10, fr 10), (11, v11)] H⟩)
@[simp] def r3 (fr : AFr) (H : AHeap) : ARes :=
 areg (e' [(0, fr 0), (2, fr 2), (4, (fr 10)), (10, fr 10)] H)
@[simp] def r4 (s0 : SpecP) (fr : AFr) (H : AHeap) : ARes :=
 areg (o' (callP false s0 [[none]] [(fr 4)] H) ⟨fun v14 H =>
 q' (abuildR (.str [(.int .i64 0), (.int .i64 0), (.int .i64 0), (.int .i64 0), (.int .i64 0)] [(0, 1), (1, 1), (2, 1), (3, 1), (4, 1)]) [(0, (fr 4))]) H ⟨fun v16 H =>
 o' (aallocR T.ty_thumb_shape (some (.agg [(W16 0#16), (W8 0#8), (.int .i64 0), (.int .i64 0), (W8 0#8), (.int .i64 0), (.int .i64 0), (W8 0#8), (.int .i64 0), (.int .i64 0), (.int .i64 0), (.int .i64 0)])) H) ⟨fun v5 H =>
 o' (aallocR T.ty_api_Ins (some (.agg [(.int .i64 0), (.int .i64 0), (.int .i64 0), (.int .i64 0), (.int .i64 0)])) H) ⟨fun v6 H =>
 w' (astoreR (some 12) v5 v14 H) ⟨fun _ H =>
 w' (astoreR (some 5) v6 v16 H) ⟨fun _ H =>
 e' [(0, fr 0), (2, fr 2), (5, v5), (6, v6), (10, fr 10)] H⟩⟩⟩⟩⟩⟩)
@[simp] def r5 (fr : AFr) (H : AHeap) : ARes :=
 areg (q' (fa' 1 (fr 5)) H ⟨fun v17 H =>
 q' (Ld' 9 v17 H) H ⟨fun v18 H =>
 e' [(0, fr 0), (2, fr 2), (5, fr 5), (6, fr 6), (10, fr 10), (18, v18), (19, (.int .i64 0))] H⟩⟩)
@[simp] def r6 (fr : AFr) (H : AHeap) : ARes :=
 areg (q' (bn' .lss (fr 19) (.int .i64 3)) H ⟨fun v20 H =>
 e' [(0, fr 0), (2, fr 2), (5, fr 5), (6, fr 6), (10, fr 10), (18, fr 18), (19, fr 19), (20, v20)] H⟩)
@[simp] def r7 (fr : AFr) (H : AHeap) : ARes :=
 areg (q' (aindexR (.arr 3 3 (some (some 3))) (fr 18) (fr 19)) H ⟨fun v21 H =>
 o' (aallocR T.ty_thumb_part (some (.agg [(W8 0#8), (.int .i64 0), (.int .i64 0)])) H) ⟨fun v8 H =>
 w' (astoreR (some 3) v8 v21 H) ⟨fun _ H =>
 e' [(0, fr 0), (2, fr 2), (5, fr 5), (6, fr 6), (8, v8), (10, fr 10), (18, fr 18), (19, fr 19)] H⟩⟩⟩)
@[simp] def r8 (fr : AFr) (H : AHeap) : ARes :=
 areg (q' (fa' 2 (fr 8)) H ⟨fun v22 H =>
 q' (ld' v22 H) H ⟨fun v23 H =>
 q' (bn' .eql v23 (.int .i64 0)) H ⟨fun v24 H =>
 e' [(0, fr 0), (2, fr 2), (5, fr 5), (6, fr 6), (8, fr 8), (10, fr 10), (18, fr 18), (19, fr 19), (24, v24)] H⟩⟩⟩)
@[simp] def r9 (fr : AFr) (H : AHeap) : ARes :=
 areg (q' (some (fr 0)) H ⟨fun v25 H1 =>
 q' (fa' 1 (fr 8)) H1 ⟨fun v26 H2 =>
 q' (ld' v26 H2) H2 ⟨fun v27 H3 =>
 q' (bn' .shr v25 v27) H3 ⟨fun v28 H4 =>
 q' (fa' 2 (fr 8)) H4 ⟨fun v29 H5 =>
 q' (ld' v29 H5) H5 ⟨fun v30 H6 =>
 q' (bn' .shl (W16 1#16) v30) H6 ⟨fun v31 H7 =>
 q' (bn' .sub v31 (W16 1#16)) H7 ⟨fun v32 H8 =>
 q' (bn' .and v28 v32) H8 ⟨fun v33 H9 =>
 q' (aconvR (some .i64) v33) H9 ⟨fun v34 H10 =>
 q' (some v34) H10 ⟨fun v9 H11 =>
 e' [(0, fr 0), (2, fr 2), (5, fr 5), (6, fr 6), (8, fr 8), (9, v9), (10, fr 10), (18, fr 18), (19, fr 19)] H11⟩⟩⟩⟩⟩⟩⟩⟩⟩⟩⟩)
@[simp] def r10 (fr : AFr) (H : AHeap) : ARes :=
 areg (q' (fa' 0 (fr 8)) H ⟨fun v36 H =>
 q' (ld' v36 H) H ⟨fun v37 H =>
 q' (bn' .eql v37 (W8 105#8)) H ⟨fun v38 H =>
 G' v38 true ⟨fa' 10 (fr 5)⟩ H ⟨fun v40 H =>
 G' v38 true ⟨ld' v40 H⟩ H ⟨fun v41 H =>
 G' v38 true ⟨bn' .lss v41 (.int .i64 0)⟩ H ⟨fun v42 H =>
 q' (apick v38 v42 (.bool false)) H ⟨fun v43 H =>
 G' v43 true ⟨some (fr 9)⟩ H ⟨fun v45 H =>
 G' v43 true ⟨fa' 11 (fr 5)⟩ H ⟨fun v46 H =>
 G' v43 true ⟨ld' v46 H⟩ H ⟨fun v47 H =>
 G' v43 true ⟨bn' .gtr v45 v47⟩ H ⟨fun v48 H =>
 q' (apick v43 v48 (.bool false)) H ⟨fun v49 H =>
 e' [(0, fr 0), (2, fr 2), (5, fr 5), (6, fr 6), (8, fr 8), (9, fr 9), (10, fr 10), (18, fr 18), (19, fr 19), (35, v49)] H⟩⟩⟩⟩⟩⟩⟩⟩⟩⟩⟩⟩)
@[simp] def r11 (fr : AFr) (H : AHeap) : ARes :=
 areg (q' (fa' 2 (fr 8)) H ⟨fun v51 H =>
 q' (ld' v51 H) H ⟨fun v52 H =>
 q' (bn' .shl (.int .i64 1) v52) H ⟨fun v53 H =>
 q' (bn' .sub (fr 9) v53) H ⟨fun v54 H =>
 e' [(0, fr 0), (2, fr 2), (5, fr 5), (6, fr 6), (8, fr 8), (9, v54), (10, fr 10), (18, fr 18), (19, fr 19)] H⟩⟩⟩⟩)
@[simp] def r12 (fr : AFr) (H : AHeap) : ARes :=
 areg (q' (fa' 0 (fr 8)) H ⟨fun v56 H =>
 q' (ld' v56 H) H ⟨fun v57 H =>
 q' (bn' .eql v57 (W8 105#8)) H ⟨fun v58 H =>
 G' v58 true ⟨fa' 10 (fr 5)⟩ H ⟨fun v60 H =>
 G' v58 true ⟨ld' v60 H⟩ H ⟨fun v61 H =>
 G' v58 true ⟨bn' .eql v61 (.int .i64 1)⟩ H ⟨fun v62 H =>
 q' (apick v58 v62 (.bool false)) H ⟨fun v63 H =>
 G' v63 true ⟨some (fr 9)⟩ H ⟨fun v65 H =>
 G' v63 true ⟨bn' .eql v65 (.int .i64 0)⟩ H ⟨fun v66 H =>
 q' (apick v63 v66 (.bool false)) H ⟨fun v67 H =>
 e' [(0, fr 0), (2, fr 2), (5, fr 5), (6, fr 6), (8, fr 8), (9, fr 9), (10, fr 10), (18, fr 18), (19, fr 19), (55, v67)] H⟩⟩⟩⟩⟩⟩⟩⟩⟩⟩)
@[simp] def r13 (fr : AFr) (H : AHeap) : ARes :=
 areg (q' (fa' 11 (fr 5)) H ⟨fun v68 H =>
 q' (ld' v68 H) H ⟨fun v69 H =>
 e' [(0, fr 0), (2, fr 2), (5, fr 5), (6, fr 6), (8, fr 8), (9, v69), (10, fr 10), (18, fr 18), (19, fr 19)] H⟩⟩)
@[simp] def r14 (s1 : SpecM) (fr : AFr) (H : AHeap) : ARes :=
 areg (q' (fa' 0 (fr 8)) H ⟨fun v70 H =>
 q' (ld' v70 H) H ⟨fun v71 H =>
 o' (callM [false, false] s1 [[none], [none]] [(fr 6), v71] H) ⟨fun v72 H =>
 q' (anil v72) H ⟨fun v74 H =>
 w' (astoreR (some 1) v74 (fr 9) H) ⟨fun _ H =>
 e' [(0, fr 0), (2, fr 2), (5, fr 5), (6, fr 6), (10, fr 10), (18, fr 18), (19, fr 19)] H⟩⟩⟩⟩⟩)
@[simp] def r15 (fr : AFr) (H : AHeap) : ARes :=
 areg (q' (bn' .add (fr 19) (.int .i64 1)) H ⟨fun v75 H =>
 e' [(0, fr 0), (2, fr 2), (5, fr 5), (6, fr 6), (10, fr 10), (18, fr 18), (19, v75)] H⟩)
@[simp] def r16 (s2 s3 : SpecP) (fr : AFr) (H : AHeap) : ARes :=
 areg (q' (Ld' 5 (fr 6) H) H ⟨fun v76 H =>
 o' (callP false s2 [[none, none, none, none, none]] [v76] H) ⟨fun v77 H =>
 G' v77 true ⟨Ld' 5 (fr 6) H⟩ H ⟨fun v79 H =>
 o' (g' (gw v77 true) ⟨callP false s3 [[none, none, none, none, none]] [v79] H⟩ H) ⟨fun v80 H =>
 G' v77 true ⟨some (fr 0)⟩ H ⟨fun v81 H =>
 G' v77 true ⟨bn' .eql v80 v81⟩ H ⟨fun v82 H =>
 q' (apick v77 v82 (.bool false)) H ⟨fun v83 H =>
 e' [(0, fr 0), (2, fr 2), (6, fr 6), (10, fr 10), (83, v83)] H⟩⟩⟩⟩⟩⟩⟩)
@[simp] def r17 (fr : AFr) (H : AHeap) : ARes :=
 areg (q' (Ld' 5 (fr 6) H) H ⟨fun v84 H =>
 w' (astoreR (some 5) (fr 2) v84 H) ⟨fun _ H =>
 e' [(2, fr 2), (3, (.int .i64 0))] H⟩⟩)
@[simp] def r18 (fr : AFr) (H : AHeap) : ARes :=
 areg (q' (bn' .add (fr 10) (.int .i64 1)) H ⟨fun v85 H =>
 e' [(0, fr 0), (2, fr 2), (10, v85)] H⟩)
@[simp] def r19 (fr : AFr) (H : AHeap) : ARes :=
 areg (q' (abuildR (.str [(.int .i64 0), (.int .i64 0), (.int .i64 0), (.int .i64 0), (.int .i64 0)] [(0, 1), (1, 1), (2, 1), (3, 1), (4, 1)]) []) H ⟨fun v86 H =>
 w' (astoreR (some 5) (fr 2) v86 H) ⟨fun _ H =>
 e' [(2, fr 2), (3, (.int .i64 20))] H⟩⟩)
def l1 (s0 : SpecP) (s1 : SpecM) (s2 s3 : SpecP) (fr : AFr) (H : AHeap) : ARes :=
  s' (r6 fr H) ⟨fun fr H =>
 s' (c' (fr 20)
 ⟨some (.normal, fr, H)⟩
 ⟨some (.exit 2, fr, H)⟩) ⟨fun fr H =>
 s' (aexit 3 (s' (r7 fr H) ⟨fun fr H =>
 s' (s' (r8 fr H) ⟨fun fr H =>
 c' (fr 24)
 ⟨some (.exit 3, fr, H)⟩
 ⟨some (.normal, fr, H)⟩⟩) ⟨fun fr H =>
 s' (r9 fr H) ⟨fun fr H =>
 s' (aexit 4 (s' (r10 fr H) ⟨fun fr H =>
 c' (fr 35)
 ⟨r11 fr H⟩
 ⟨s' (r12 fr H) ⟨fun fr H =>
 c' (fr 55)
 ⟨r13 fr H⟩
 ⟨some (.normal, fr, H)⟩⟩⟩⟩)) ⟨fun fr H =>
 r14 s1 fr H⟩⟩⟩⟩)) ⟨fun fr H =>
 r15 fr H⟩⟩⟩
def l0 (s0 : SpecP) (s1 : SpecM) (s2 s3 : SpecP) (fr : AFr) (H : AHeap) : ARes :=
  s' (r2 fr H) ⟨fun fr H =>
 s' (c' (fr 11)
 ⟨some (.normal, fr, H)⟩
 ⟨some (.exit 0, fr, H)⟩) ⟨fun fr H =>
 s' (aexit 1 (s' (r3 fr H) ⟨fun fr H =>
 s' (r4 s0 fr H) ⟨fun fr H =>
 s' (s' (r5 fr H) ⟨fun fr H =>
  aexit 2 (aloop (l1 s0 s1 s2 s3) fr H)⟩) ⟨fun fr H =>
 s' (r16 s2 s3 fr H) ⟨fun fr H =>
 c' (fr 83)
 ⟨s' (r17 fr H) ⟨fun fr H =>
 some (.ret, fr, H)⟩⟩
 ⟨some (.normal, fr, H)⟩⟩⟩⟩⟩)) ⟨fun fr H =>
 r18 fr H⟩⟩⟩
@[simp] def body (s0 : SpecP) (s1 : SpecM) (s2 s3 : SpecP) (fr : AFr) (H : AHeap) : ARes :=
  s' (r0 fr H) ⟨fun fr H =>
 s' (s' (r1 fr H) ⟨fun fr H =>
  aexit 0 (aloop (l0 s0 s1 s2 s3) fr H)⟩) ⟨fun fr H =>
 s' (r19 fr H) ⟨fun fr H =>
 some (.ret, fr, H)⟩⟩⟩
@[simp] def res (fr : AFr) (H : AHeap) : Option (List AV) := res2 (aloadR (some (some 5)) (fr 2) H) (res2 (some (fr 3)) (some []))
end thumb_Take
def thumb_Take (a0 : AV) : Option AV := closeUpR (some [[none, none, none, none, none], [none]]) (afinR thumb_Take.res (thumb_Take.body thumb_shapes.spec thumb_field.spec thumb_can.spec thumb_put.spec (args0 [a0]) AHeap.empty))
def thumb_Take.spec : List AV → Option AV
  | [a0] => thumb_Take a0
  | _ => none
namespace thumb_Writes
def C (s0 : SpecP) : Tab := (Tab.none.add 59 (.pure false s0))
@[simp] def r0 (fr : AFr) (H : AHeap) : ARes :=
 areg (o' (abox T.ty_api_Ins (fr 0) H) ⟨fun v1 H =>
 e' [(1, v1)] H⟩)
@[simp] def r1 (s0 : SpecP) (fr : AFr) (H : AHeap) : ARes :=
 areg (q' (Ld' 5 (fr 1) H) H ⟨fun v4 H =>
 o' (callP false s0 [[none, none, none, none, none]] [v4] H) ⟨fun v5 H =>
 q' (aun .not v5) H ⟨fun v6 H =>
 e' [(1, fr 1), (6, v6)] H⟩⟩⟩)
@[simp] def r2 (fr : AFr) (H : AHeap) : ARes :=
 areg (e' [(2, (.int .i64 0)), (3, (.bool false))] H)
@[simp] def r3 (fr : AFr) (H : AHeap) : ARes :=
 areg (q' (fa' 0 (fr 1)) H ⟨fun v7 H =>
 q' (ld' v7 H) H ⟨fun v8 H =>
 e' [(1, fr 1), (8, v8)] H⟩⟩)
@[simp] def r4 (fr : AFr) (H : AHeap) : ARes :=
 areg (q' (bn' .eql (fr 8) (.int .i64 1)) H ⟨fun v10 H =>
 e' [(1, fr 1), (8, fr 8), (9, v10)] H⟩)
@[simp] def r5 (fr : AFr) (H : AHeap) : ARes :=
 areg (q' (bn' .eql (fr 8) (.int .i64 13)) H ⟨fun v11 H =>
 e' [(1, fr 1), (8, fr 8), (9, v11)] H⟩)
@[simp] def r6 (fr : AFr) (H : AHeap) : ARes :=
 areg (q' (bn' .eql (fr 8) (.int .i64 15)) H ⟨fun v12 H =>
 e' [(1, fr 1), (8, fr 8), (9, v12)] H⟩)
@[simp] def r7 (fr : AFr) (H : AHeap) : ARes :=
 areg (q' (bn' .eql (fr 8) (.int .i64 17)) H ⟨fun v13 H =>
 e' [(1, fr 1), (8, fr 8), (9, v13)] H⟩)
@[simp] def r8 (fr : AFr) (H : AHeap) : ARes :=
 areg (q' (bn' .eql (fr 8) (.int .i64 18)) H ⟨fun v14 H =>
 e' [(1, fr 1), (8, fr 8), (9, v14)] H⟩)
@[simp] def r9 (fr : AFr) (H : AHeap) : ARes :=
 areg (q' (bn' .eql (fr 8) (.int .i64 19)) H ⟨fun v15 H =>
 e' [(1, fr 1), (8, fr 8), (9, v15)] H⟩)
@[simp] def r10 (fr : AFr) (H : AHeap) : ARes :=
 areg (q' (bn' .eql (fr 8) (.int .i64 20)) H ⟨fun v16 H =>
 e' [(1, fr 1), (8, fr 8), (9, v16)] H⟩)
@[simp] def r11 (fr : AFr) (H : AHeap) : ARes :=
 areg (e' [(2, (.int .i64 0)), (3, (.bool false))] H)
@[simp] def r12 (fr : AFr) (H : AHeap) : ARes :=
 areg (q' (bn' .eql (fr 8) (.int .i64 11)) H ⟨fun v18 H =>
 e' [(1, fr 1), (17, v18)] H⟩)
@[simp] def r13 (fr : AFr) (H : AHeap) : ARes :=
 areg (q' (fa' 4 (fr 1)) H ⟨fun v19 H =>
 q' (ld' v19 H) H ⟨fun v20 H =>
 q' (bn' .eql v20 (.int .i64 8)) H ⟨fun v21 H =>
 G' v21 false ⟨fa' 4 (fr 1)⟩ H ⟨fun v23 H =>
 G' v21 false ⟨ld' v23 H⟩ H ⟨fun v24 H =>
 G' v21 false ⟨bn' .eql v24 (.int .i64 10)⟩ H ⟨fun v25 H =>
 q' (apick v21 (.bool true) v25) H ⟨fun v26 H =>
 G' v26 false ⟨fa' 4 (fr 1)⟩ H ⟨fun v28 H =>
 G' v26 false ⟨ld' v28 H⟩ H ⟨fun v29 H =>
 G' v26 false ⟨bn' .eql v29 (.int .i64 11)⟩ H ⟨fun v30 H =>
 q' (apick v26 (.bool true) v30) H ⟨fun v31 H =>
 e' [(1, fr 1), (31, v31)] H⟩⟩⟩⟩⟩⟩⟩⟩⟩⟩⟩)
@[simp] def r14 (fr : AFr) (H : AHeap) : ARes :=
 areg (e' [(2, (.int .i64 0)), (3, (.bool false))] H)
@[simp] def r15 (fr : AFr) (H : AHeap) : ARes :=
 areg (q' (fa' 1 (fr 1)) H ⟨fun v32 H =>
 q' (ld' v32 H) H ⟨fun v33 H =>
 e' [(2, v33), (3, (.bool true))] H⟩⟩)
@[simp] def body (s0 : SpecP) (fr : AFr) (H : AHeap) : ARes :=
  s' (r0 fr H) ⟨fun fr H =>
 s' (s' (r1 s0 fr H) ⟨fun fr H =>
 c' (fr 6)
 ⟨s' (r2 fr H) ⟨fun fr H =>
 some (.ret, fr, H)⟩⟩
 ⟨some (.normal, fr, H)⟩⟩) ⟨fun fr H =>
 s' (s' (r3 fr H) ⟨fun fr H =>
  aexit 0 (s' (s' (r4 fr H) ⟨fun fr H =>
 c' (fr 9)
 ⟨some (.normal, fr, H)⟩
 ⟨s' (r5 fr H) ⟨fun fr H =>
 c' (fr 9)
 ⟨some (.normal, fr, H)⟩
 ⟨s' (r6 fr H) ⟨fun fr H =>
 c' (fr 9)
 ⟨some (.normal, fr, H)⟩
 ⟨s' (r7 fr H) ⟨fun fr H =>
 c' (fr 9)
 ⟨some (.normal, fr, H)⟩
 ⟨s' (r8 fr H) ⟨fun fr H =>
 c' (fr 9)
 ⟨some (.normal, fr, H)⟩
 ⟨s' (r9 fr H) ⟨fun fr H =>
 c' (fr 9)
 ⟨some (.normal, fr, H)⟩
 ⟨r10 fr H⟩⟩⟩⟩⟩⟩⟩⟩⟩⟩⟩⟩) ⟨fun fr H =>
 c' (fr 9)
 ⟨s' (r11 fr H) ⟨fun fr H =>
 some (.ret, fr, H)⟩⟩
 ⟨s' (r12 fr H) ⟨fun fr H =>
 c' (fr 17)
 ⟨s' (r13 fr H) ⟨fun fr H =>
 c' (fr 31)
 ⟨s' (r14 fr H) ⟨fun fr H =>
 some (.ret, fr, H)⟩⟩
 ⟨some (.normal, fr, H)⟩⟩⟩
 ⟨some (.normal, fr, H)⟩⟩⟩⟩)⟩) ⟨fun fr H =>
 s' (r15 fr H) ⟨fun fr H =>
 some (.ret, fr, H)⟩⟩⟩⟩
@[simp] def res (fr : AFr) (H : AHeap) : Option (List AV) := res2 (some (fr 2)) (res2 (some (fr 3)) (some []))
end thumb_Writes
def thumb_Writes (a0 : AV) : Option AV := closeUpR (some [[none], [none]]) (afinR thumb_Writes.res (thumb_Writes.body thumb_can.spec (args0 [a0]) AHeap.empty))
def thumb_Writes.spec : List AV → Option AV
  | [a0] => thumb_Writes a0
  | _ => none
end
end Go.Abs
end
section
set_option linter.unusedVariables false
namespace Go.Abs
noncomputable section
end
end Go.Abs
end
section
set_option linter.unusedVariables false
namespace Go.Abs
noncomputable section
namespace slices_Clone_uint16
def C : Tab := Tab.none
@[simp] def r0 (fr : AFr) (H : AHeap) : ARes :=
 areg (e' [(0, fr 0)] H)
@[simp] def r1 (fr : AFr) (H : AHeap) : ARes :=
 areg (q' (abinR .s .eql (fr 0) .nils) H ⟨fun v4 H =>
 e' [(0, fr 0), (4, v4)] H⟩)
@[simp] def r2 (fr : AFr) (H : AHeap) : ARes :=
 areg (e' [(2, .nils)] H)
@[simp] def r3 (fr : AFr) (H : AHeap) : ARes :=
 areg (o' (abuildSliceR (some ⟨T.ty_uint16, 1, 2, [(W16 0#16)]⟩) 0 [] H) ⟨fun v5 H =>
 o' (aappendR (some ⟨T.ty_uint16, 1, 2, [(W16 0#16)]⟩) v5 (fr 0) H) ⟨fun v7 H =>
 e' [(2, v7)] H⟩⟩)
@[simp] def body (fr : AFr) (H : AHeap) : ARes :=
  s' (r0 fr H) ⟨fun fr H =>
 s' (s' (r1 fr H) ⟨fun fr H =>
 c' (fr 4)
 ⟨s' (r2 fr H) ⟨fun fr H =>
 some (.ret, fr, H)⟩⟩
 ⟨some (.normal, fr, H)⟩⟩) ⟨fun fr H =>
 s' (r3 fr H) ⟨fun fr H =>
 some (.ret, fr, H)⟩⟩⟩
@[simp] def res (fr : AFr) (H : AHeap) : Option (List AV) := res2 (some (fr 2)) (some [])
end slices_Clone_uint16
def slices_Clone_uint16.run (a0 : AV) : Option AV := copyUpR (some [[some 1]]) (afinR slices_Clone_uint16.res (slices_Clone_uint16.body (args0 [a0]) AHeap.empty))
def slices_Clone_uint16.run.spec : List AV → Option AV
  | [a0] => slices_Clone_uint16.run a0
  | _ => none
def slices_Clone_uint16.spec : List AV → Option AV := cloneSpec 1 2
namespace slices_Clone_uint32
def C : Tab := Tab.none
@[simp] def r0 (fr : AFr) (H : AHeap) : ARes :=
 areg (e' [(0, fr 0)] H)
@[simp] def r1 (fr : AFr) (H : AHeap) : ARes :=
 areg (q' (abinR .s .eql (fr 0) .nils) H ⟨fun v4 H =>
 e' [(0, fr 0), (4, v4)] H⟩)
@[simp] def r2 (fr : AFr) (H : AHeap) : ARes :=
 areg (e' [(2, .nils)] H)
@[simp] def r3 (fr : AFr) (H : AHeap) : ARes :=
 areg (o' (abuildSliceR (some ⟨T.ty_uint32, 1, 4, [(W32 0#32)]⟩) 0 [] H) ⟨fun v5 H =>
 o' (aappendR (some ⟨T.ty_uint32, 1, 4, [(W32 0#32)]⟩) v5 (fr 0) H) ⟨fun v7 H =>
 e' [(2, v7)] H⟩⟩)
@[simp] def body (fr : AFr) (H : AHeap) : ARes :=
  s' (r0 fr H) ⟨fun fr H =>
 s' (s' (r1 fr H) ⟨fun fr H =>
 c' (fr 4)
 ⟨s' (r2 fr H) ⟨fun fr H =>
 some (.ret, fr, H)⟩⟩
 ⟨some (.normal, fr, H)⟩⟩) ⟨fun fr H =>
 s' (r3 fr H) ⟨fun fr H =>
 some (.ret, fr, H)⟩⟩⟩
@[simp] def res (fr : AFr) (H : AHeap) : Option (List AV) := res2 (some (fr 2)) (some [])
end slices_Clone_uint32
def slices_Clone_uint32.run (a0 : AV) : Option AV := copyUpR (some [[some 1]]) (afinR slices_Clone_uint32.res (slices_Clone_uint32.body (args0 [a0]) AHeap.empty))
def slices_Clone_uint32.run.spec : List AV → Option AV
  | [a0] => slices_Clone_uint32.run a0
  | _ => none
def slices_Clone_uint32.spec : List AV → Option AV := cloneSpec 1 4
namespace mem_New
def C (s0 s1 : SpecP) : Tab := ((Tab.none.add 94 (.pure true s0)).add 95 (.pure true s1))
@[simp] def r0 (fr : AFr) (H : AHeap) : ARes :=
 areg (e' [(0, fr 0), (1, fr 1), (2, fr 2)] H)
@[simp] def r1 (s0 s1 : SpecP) (fr : AFr) (H : AHeap) : ARes :=
 areg (q' (some (fr 0)) H ⟨fun v7 H1 =>
 q' (some (fr 0)) H1 ⟨fun v8 H2 =>
 q' (alenR .sl v8) H2 ⟨fun v9 H3 =>
 q' (amin v9 (.int .i64 60000)) H3 ⟨fun v10 H4 =>
 q' (asliceR (.sl 1) v7 none (some v10) none) H4 ⟨fun v11 H5 =>
 o' (callP true s0 [[some 1]] [v11] H5) ⟨fun v12 H6 =>
 q' (some (fr 1)) H6 ⟨fun v13 H7 =>
 q' (amax v13 (.int .i64 0)) H7 ⟨fun v14 H8 =>
 q' (amin v14 (.int .i64 16000)) H8 ⟨fun v15 H9 =>
 o' (amakeR (some ⟨T.ty_uint32, 1, 4, [(W32 0#32)]⟩) v15 v15 H9) ⟨fun v16 H10 =>
 q' (some (fr 2)) H10 ⟨fun v17 H11 =>
 o' (callP true s1 [[some 1]] [v17] H11) ⟨fun v18 H12 =>
 q' (abuildR (.str [.nils, .nils, .nils, (.int .i64 0), (W32 0#32)] [(0, 1), (1, 1), (2, 1), (3, 1), (4, 1)]) [(0, v12), (1, v16), (2, v18)]) H12 ⟨fun v19 H13 =>
 o' (abox T.ty_mem_Mem v19 H13) ⟨fun v20 H14 =>
 q' (some v20) H14 ⟨fun v6 H15 =>
 e' [(6, v6)] H15⟩⟩⟩⟩⟩⟩⟩⟩⟩⟩⟩⟩⟩⟩⟩)
@[simp] def body (s0 s1 : SpecP) (fr : AFr) (H : AHeap) : ARes :=
  s' (r0 fr H) ⟨fun fr H =>
 s' (r1 s0 s1 fr H) ⟨fun fr H =>
 some (.ret, fr, H)⟩⟩
@[simp] def res (fr : AFr) (H : AHeap) : Option (List AV) := res2 (some (fr 6)) (some [])
end mem_New
def mem_New (a0 a1 a2 : AV) (H : AHeap) : Option (AV × AHeap) := raw (afinR mem_New.res (mem_New.body slices_Clone_uint16.spec slices_Clone_uint32.spec (args0 [a0, a1, a2]) H))
def mem_New.spec : List AV → AHeap → Option (AV × AHeap)
  | [a0, a1, a2], H => mem_New a0 a1 a2 H
  | _, _ => none
namespace mem_Mem_Fetch
def C : Tab := Tab.none
@[simp] def r0 (fr : AFr) (H : AHeap) : ARes :=
 areg (e' [(0, fr 0), (1, fr 1)] H)
@[simp] def r1 (fr : AFr) (H : AHeap) : ARes :=
 areg (q' (bn' .rem (fr 1) (W32 2#32)) H ⟨fun v7 H =>
 q' (bn' .neq v7 (W32 0#32)) H ⟨fun v8 H =>
 G' v8 false ⟨some (fr 1)⟩ H ⟨fun v10 H =>
 G' v8 false ⟨aconvR (some .i64) v10⟩ H ⟨fun v11 H =>
 G' v8 false ⟨bn' .quo v11 (.int .i64 2)⟩ H ⟨fun v12 H =>
 G' v8 false ⟨some (fr 0)⟩ H ⟨fun v13 H =>
 G' v8 false ⟨anil v13⟩ H ⟨fun v14 H =>
 G' v8 false ⟨fa' 0 v14⟩ H ⟨fun v15 H =>
 G' v8 false ⟨ld' v15 H⟩ H ⟨fun v16 H =>
 G' v8 false ⟨alenR .sl v16⟩ H ⟨fun v17 H =>
 G' v8 false ⟨bn' .geq v12 v17⟩ H ⟨fun v18 H =>
 q' (apick v8 (.bool true) v18) H ⟨fun v19 H =>
 e' [(0, fr 0), (1, fr 1), (19, v19)] H⟩⟩⟩⟩⟩⟩⟩⟩⟩⟩⟩⟩)
@[simp] def r2 (fr : AFr) (H : AHeap) : ARes :=
 areg (e' [(4, (W16 0#16)), (5, (.int .i64 50))] H)
@[simp] def r3 (fr : AFr) (H : AHeap) : ARes :=
 areg (q' (anil (fr 0)) H ⟨fun v21 H =>
 q' (fa' 0 v21) H ⟨fun v22 H =>
 q' (ld' v22 H) H ⟨fun v23 H =>
 q' (bn' .quo (fr 1) (W32 2#32)) H ⟨fun v25 H =>
 q' (aindexAddrR (.sl 1) v23 v25) H ⟨fun v26 H =>
 q' (ld' v26 H) H ⟨fun v27 H =>
 e' [(4, v27), (5, (.int .i64 0))] H⟩⟩⟩⟩⟩⟩)
@[simp] def body (fr : AFr) (H : AHeap) : ARes :=
  s' (r0 fr H) ⟨fun fr H =>
 s' (s' (r1 fr H) ⟨fun fr H =>
 c' (fr 19)
 ⟨s' (r2 fr H) ⟨fun fr H =>
 some (.ret, fr, H)⟩⟩
 ⟨some (.normal, fr, H)⟩⟩) ⟨fun fr H =>
 s' (r3 fr H) ⟨fun fr H =>
 some (.ret, fr, H)⟩⟩⟩
@[simp] def res (fr : AFr) (H : AHeap) : Option (List AV) := res2 (some (fr 4)) (res2 (some (fr 5)) (some []))
end mem_Mem_Fetch
def mem_Mem_Fetch (a0 a1 : AV) (H : AHeap) : Option (AV × AHeap) := forget H (afinR mem_Mem_Fetch.res (mem_Mem_Fetch.body (args0 [a0, a1]) H))
def mem_Mem_Fetch.spec : List AV → AHeap → Option (AV × AHeap)
  | [a0, a1], H => mem_Mem_Fetch a0 a1 H
  | _, _ => none
namespace mem_Mem_place
def C : Tab := Tab.none
@[simp] def r0 (fr : AFr) (H : AHeap) : ARes :=
 areg (e' [(0, fr 0), (1, fr 1)] H)
@[simp] def r1 (fr : AFr) (H : AHeap) : ARes :=
 areg (q' (bn' .sub (fr 1) (W32 536870912#32)) H ⟨fun v8 H =>
 q' (aconvR (some .i64) v8) H ⟨fun v9 H =>
 q' (bn' .quo v9 (.int .i64 4)) H ⟨fun v10 H =>
 e' [(0, fr 0), (1, fr 1), (6, v10)] H⟩⟩⟩)
@[simp] def r2 (fr : AFr) (H : AHeap) : ARes :=
 areg (q' (some (fr 6)) H ⟨fun v11 H1 =>
 q' (some (fr 1)) H1 ⟨fun v12 H2 =>
 q' (bn' .geq v12 (W32 536870912#32)) H2 ⟨fun v13 H3 =>
 q' (some v13) H3 ⟨fun v14 H4 =>
 G' v14 true ⟨some (fr 6)⟩ H4 ⟨fun v15 H5 =>
 G' v14 true ⟨some (fr 0)⟩ H5 ⟨fun v16 H6 =>
 G' v14 true ⟨anil v16⟩ H6 ⟨fun v17 H7 =>
 G' v14 true ⟨fa' 1 v17⟩ H7 ⟨fun v18 H8 =>
 G' v14 true ⟨ld' v18 H8⟩ H8 ⟨fun v19 H9 =>
 G' v14 true ⟨alenR .sl v19⟩ H9 ⟨fun v20 H10 =>
 G' v14 true ⟨bn' .lss v15 v20⟩ H10 ⟨fun v21 H11 =>
 q' (apick v14 v21 (.bool false)) H11 ⟨fun v22 H12 =>
 q' (some v11) H12 ⟨fun v4 H13 =>
 q' (some v22) H13 ⟨fun v5 H14 =>
 e' [(4, v4), (5, v5)] H14⟩⟩⟩⟩⟩⟩⟩⟩⟩⟩⟩⟩⟩⟩)
@[simp] def body (fr : AFr) (H : AHeap) : ARes :=
  s' (r0 fr H) ⟨fun fr H =>
 s' (r1 fr H) ⟨fun fr H =>
 s' (r2 fr H) ⟨fun fr H =>
 some (.ret, fr, H)⟩⟩⟩
@[simp] def res (fr : AFr) (H : AHeap) : Option (List AV) := res2 (some (fr 4)) (res2 (some (fr 5)) (some []))
end mem_Mem_place
def mem_Mem_place (a0 a1 : AV) (H : AHeap) : Option (AV × AHeap) := forget H (afinR mem_Mem_place.res (mem_Mem_place.body (args0 [a0, a1]) H))
def mem_Mem_place.spec : List AV → AHeap → Option (AV × AHeap)
  | [a0, a1], H => mem_Mem_place a0 a1 H
  | _, _ => none
namespace mem_Mem_Store
def C (s0 : SpecM) : Tab := (Tab.none.add 169 (.ref [false, false] s0))
@[simp] def r0 (fr : AFr) (H : AHeap) : ARes :=
 areg (e' [(0, fr 0), (1, fr 1), (2, fr 2)] H)
@[simp] def r1 (s0 : SpecM) (fr : AFr) (H : AHeap) : ARes :=
 areg (o' (callM [false, false] s0 [[none], [none]] [(fr 0), (fr 1)] H) ⟨fun v12 H =>
 q' (aextract v12 0) H ⟨fun v13 H =>
 q' (aextract v12 1) H ⟨fun v14 H =>
 e' [(0, fr 0), (1, fr 1), (2, fr 2), (7, v13), (8, v14)] H⟩⟩⟩)
@[simp] def r2 (fr : AFr) (H : AHeap) : ARes :=
 areg (q' (aun .not (fr 8)) H ⟨fun v16 H =>
 G' v16 false ⟨some (fr 1)⟩ H ⟨fun v18 H =>
 G' v16 false ⟨bn' .rem v18 (W32 4#32)⟩ H ⟨fun v19 H =>
 G' v16 false ⟨bn' .neq v19 (W32 0#32)⟩ H ⟨fun v20 H =>
 q' (apick v16 (.bool true) v20) H ⟨fun v21 H =>
 e' [(0, fr 0), (2, fr 2), (7, fr 7), (21, v21)] H⟩⟩⟩⟩⟩)
@[simp] def r3 (fr : AFr) (H : AHeap) : ARes :=
 areg (e' [(6, (.int .i64 50))] H)
@[simp] def r4 (fr : AFr) (H : AHeap) : ARes :=
 areg (q' (anil (fr 0)) H ⟨fun v23 H =>
 q' (fa' 1 v23) H ⟨fun v24 H =>
 q' (ld' v24 H) H ⟨fun v25 H =>
 q' (aindexAddrR (.sl 1) v25 (fr 7)) H ⟨fun v30 H =>
 w' (astoreR (some 1) v30 (fr 2) H) ⟨fun _ H =>
 q' (anil (fr 0)) H ⟨fun v31 H =>
 q' (fa' 4 v31) H ⟨fun v32 H =>
 w' (astoreR (some 1) v32 (fr 2) H) ⟨fun _ H =>
 e' [] H⟩⟩⟩⟩⟩⟩⟩⟩)
@[simp] def r5 (fr : AFr) (H : AHeap) : ARes :=
 areg (e' [(6, (.int .i64 0))] H)
@[simp] def body (s0 : SpecM) (fr : AFr) (H : AHeap) : ARes :=
  s' (r0 fr H) ⟨fun fr H =>
 s' (r1 s0 fr H) ⟨fun fr H =>
 s' (s' (r2 fr H) ⟨fun fr H =>
 c' (fr 21)
 ⟨s' (r3 fr H) ⟨fun fr H =>
 some (.ret, fr, H)⟩⟩
 ⟨some (.normal, fr, H)⟩⟩) ⟨fun fr H =>
 s' (r4 fr H) ⟨fun fr H =>
 s' (r5 fr H) ⟨fun fr H =>
 some (.ret, fr, H)⟩⟩⟩⟩⟩
@[simp] def res (fr : AFr) (H : AHeap) : Option (List AV) := res2 (some (fr 6)) (some [])
end mem_Mem_Store
def mem_Mem_Store (a0 a1 a2 : AV) (H : AHeap) : Option (AV × AHeap) := forget H (afinR mem_Mem_Store.res (mem_Mem_Store.body mem_Mem_place.spec (args0 [a0, a1, a2]) H))
def mem_Mem_Store.spec : List AV → AHeap → Option (AV × AHeap)
  | [a0, a1, a2], H => mem_Mem_Store a0 a1 a2 H
  | _, _ => none
namespace mem_Mem_load
def C (s0 : SpecM) : Tab := (Tab.none.add 169 (.ref [false, false] s0))
@[simp] def r0 (fr : AFr) (H : AHeap) : ARes :=
 areg (e' [(0, fr 0), (1, fr 1)] H)
@[simp] def r1 (fr : AFr) (H : AHeap) : ARes :=
 areg (q' (bn' .rem (fr 1) (W32 4#32)) H ⟨fun v10 H =>
 q' (bn' .neq v10 (W32 0#32)) H ⟨fun v11 H =>
 e' [(0, fr 0), (1, fr 1), (11, v11)] H⟩⟩)
@[simp] def r2 (fr : AFr) (H : AHeap) : ARes :=
 areg (e' [(4, (W32 0#32)), (5, (.int .i64 50))] H)
@[simp] def r3 (fr : AFr) (H : AHeap) : ARes :=
 areg (q' (bn' .eql (fr 1) (W32 1073741824#32)) H ⟨fun v13 H =>
 e' [(0, fr 0), (1, fr 1), (13, v13)] H⟩)
@[simp] def r4 (fr : AFr) (H : AHeap) : ARes :=
 areg (q' (some (fr 0)) H ⟨fun v14 H1 =>
 q' (anil v14) H1 ⟨fun v15 H2 =>
 q' (fa' 3 v15) H2 ⟨fun v16 H3 =>
 q' (ld' v16 H3) H3 ⟨fun v17 H4 =>
 q' (some (fr 0)) H4 ⟨fun v18 H5 =>
 q' (anil v18) H5 ⟨fun v19 H6 =>
 q' (fa' 2 v19) H6 ⟨fun v20 H7 =>
 q' (ld' v20 H7) H7 ⟨fun v21 H8 =>
 q' (alenR .sl v21) H8 ⟨fun v22 H9 =>
 q' (bn' .eql v17 v22) H9 ⟨fun v23 H10 =>
 e' [(0, fr 0), (23, v23)] H10⟩⟩⟩⟩⟩⟩⟩⟩⟩⟩)
@[simp] def r5 (fr : AFr) (H : AHeap) : ARes :=
 areg (e' [(4, (W32 0#32)), (5, (.int .i64 51))] H)
@[simp] def r6 (fr : AFr) (H : AHeap) : ARes :=
 areg (q' (anil (fr 0)) H ⟨fun v25 H =>
 q' (fa' 3 v25) H ⟨fun v26 H =>
 q' (ld' v26 H) H ⟨fun v27 H =>
 q' (bn' .add v27 (.int .i64 1)) H ⟨fun v28 H =>
 q' (anil (fr 0)) H ⟨fun v29 H =>
 q' (fa' 3 v29) H ⟨fun v30 H =>
 w' (astoreR (some 1) v30 v28 H) ⟨fun _ H =>
 e' [(0, fr 0)] H⟩⟩⟩⟩⟩⟩⟩)
@[simp] def r7 (fr : AFr) (H : AHeap) : ARes :=
 areg (q' (some (fr 0)) H ⟨fun v31 H1 =>
 q' (anil v31) H1 ⟨fun v32 H2 =>
 q' (fa' 2 v32) H2 ⟨fun v33 H3 =>
 q' (ld' v33 H3) H3 ⟨fun v34 H4 =>
 q' (some (fr 0)) H4 ⟨fun v35 H5 =>
 q' (anil v35) H5 ⟨fun v36 H6 =>
 q' (fa' 3 v36) H6 ⟨fun v37 H7 =>
 q' (ld' v37 H7) H7 ⟨fun v38 H8 =>
 q' (bn' .sub v38 (.int .i64 1)) H8 ⟨fun v39 H9 =>
 q' (aindexAddrR (.sl 1) v34 v39) H9 ⟨fun v40 H10 =>
 q' (ld' v40 H10) H10 ⟨fun v41 H11 =>
 q' (some v41) H11 ⟨fun v4 H12 =>
 q' (some (.int .i64 0)) H12 ⟨fun v5 H13 =>
 e' [(4, v4), (5, v5)] H13⟩⟩⟩⟩⟩⟩⟩⟩⟩⟩⟩⟩⟩)
@[simp] def r8 (s0 : SpecM) (fr : AFr) (H : AHeap) : ARes :=
 areg (o' (callM [false, false] s0 [[none], [none]] [(fr 0), (fr 1)] H) ⟨fun v45 H =>
 q' (aextract v45 0) H ⟨fun v46 H =>
 q' (aextract v45 1) H ⟨fun v47 H =>
 e' [(0, fr 0), (1, fr 1), (6, v46), (7, v47)] H⟩⟩⟩)
@[simp] def r9 (fr : AFr) (H : AHeap) : ARes :=
 areg (e' [(0, fr 0), (1, fr 1), (6, fr 6), (48, (fr 7))] H)
@[simp] def r10 (fr : AFr) (H : AHeap) : ARes :=
 areg (q' (anil (fr 0)) H ⟨fun v50 H =>
 q' (fa' 1 v50) H ⟨fun v51 H =>
 q' (ld' v51 H) H ⟨fun v52 H =>
 q' (aindexAddrR (.sl 1) v52 (fr 6)) H ⟨fun v54 H =>
 q' (ld' v54 H) H ⟨fun v55 H =>
 e' [(4, v55), (5, (.int .i64 0))] H⟩⟩⟩⟩⟩)
@[simp] def r11 (fr : AFr) (H : AHeap) : ARes :=
 areg (q' (aconvR (some .i64) (fr 1)) H ⟨fun v57 H =>
 q' (bn' .quo v57 (.int .i64 2)) H ⟨fun v58 H =>
 e' [(0, fr 0), (8, v58)] H⟩⟩)
@[simp] def r12 (fr : AFr) (H : AHeap) : ARes :=
 areg (q' (bn' .add (fr 8) (.int .i64 1)) H ⟨fun v60 H =>
 q' (anil (fr 0)) H ⟨fun v62 H =>
 q' (fa' 0 v62) H ⟨fun v63 H =>
 q' (ld' v63 H) H ⟨fun v64 H =>
 q' (alenR .sl v64) H ⟨fun v65 H =>
 q' (bn' .lss v60 v65) H ⟨fun v66 H =>
 e' [(0, fr 0), (8, fr 8), (66, v66)] H⟩⟩⟩⟩⟩⟩)
@[simp] def r13 (fr : AFr) (H : AHeap) : ARes :=
 areg (q' (some (fr 0)) H ⟨fun v67 H1 =>
 q' (anil v67) H1 ⟨fun v68 H2 =>
 q' (fa' 0 v68) H2 ⟨fun v69 H3 =>
 q' (ld' v69 H3) H3 ⟨fun v70 H4 =>
 q' (some (fr 8)) H4 ⟨fun v71 H5 =>
 q' (aindexAddrR (.sl 1) v70 v71) H5 ⟨fun v72 H6 =>
 q' (ld' v72 H6) H6 ⟨fun v73 H7 =>
 q' (aconvR (some .u32) v73) H7 ⟨fun v74 H8 =>
 q' (some (fr 0)) H8 ⟨fun v75 H9 =>
 q' (anil v75) H9 ⟨fun v76 H10 =>
 q' (fa' 0 v76) H10 ⟨fun v77 H11 =>
 q' (ld' v77 H11) H11 ⟨fun v78 H12 =>
 q' (some (fr 8)) H12 ⟨fun v79 H13 =>
 q' (bn' .add v79 (.int .i64 1)) H13 ⟨fun v80 H14 =>
 q' (aindexAddrR (.sl 1) v78 v80) H14 ⟨fun v81 H15 =>
 q' (ld' v81 H15) H15 ⟨fun v82 H16 =>
 q' (aconvR (some .u32) v82) H16 ⟨fun v83 H17 =>
 q' (bn' .shl v83 (W64 16#64)) H17 ⟨fun v84 H18 =>
 q' (bn' .or v74 v84) H18 ⟨fun v85 H19 =>
 q' (some v85) H19 ⟨fun v4 H20 =>
 q' (some (.int .i64 0)) H20 ⟨fun v5 H21 =>
 e' [(4, v4), (5, v5)] H21⟩⟩⟩⟩⟩⟩⟩⟩⟩⟩⟩⟩⟩⟩⟩⟩⟩⟩⟩⟩⟩)
@[simp] def r14 (fr : AFr) (H : AHeap) : ARes :=
 areg (e' [(4, (W32 0#32)), (5, (.int .i64 50))] H)
@[simp] def body (s0 : SpecM) (fr : AFr) (H : AHeap) : ARes :=
  s' (r0 fr H) ⟨fun fr H =>
 s' (s' (r1 fr H) ⟨fun fr H =>
 c' (fr 11)
 ⟨s' (r2 fr H) ⟨fun fr H =>
 some (.ret, fr, H)⟩⟩
 ⟨some (.normal, fr, H)⟩⟩) ⟨fun fr H =>
 s' (s' (r3 fr H) ⟨fun fr H =>
 c' (fr 13)
 ⟨s' (s' (r4 fr H) ⟨fun fr H =>
 c' (fr 23)
 ⟨s' (r5 fr H) ⟨fun fr H =>
 some (.ret, fr, H)⟩⟩
 ⟨some (.normal, fr, H)⟩⟩) ⟨fun fr H =>
 s' (r6 fr H) ⟨fun fr H =>
 s' (r7 fr H) ⟨fun fr H =>
 some (.ret, fr, H)⟩⟩⟩⟩
 ⟨some (.normal, fr, H)⟩⟩) ⟨fun fr H =>
 s' (s' (r8 s0 fr H) ⟨fun fr H =>
 s' (r9 fr H) ⟨fun fr H =>
 c' (fr 48)
 ⟨s' (r10 fr H) ⟨fun fr H =>
 some (.ret, fr, H)⟩⟩
 ⟨some (.normal, fr, H)⟩⟩⟩) ⟨fun fr H =>
 s' (s' (r11 fr H) ⟨fun fr H =>
 s' (r12 fr H) ⟨fun fr H =>
 c' (fr 66)
 ⟨s' (r13 fr H) ⟨fun fr H =>
 some (.ret, fr, H)⟩⟩
 ⟨some (.normal, fr, H)⟩⟩⟩) ⟨fun fr H =>
 s' (r14 fr H) ⟨fun fr H =>
 some (.ret, fr, H)⟩⟩⟩⟩⟩⟩
@[simp] def res (fr : AFr) (H : AHeap) : Option (List AV) := res2 (some (fr 4)) (res2 (some (fr 5)) (some []))
end mem_Mem_load
def mem_Mem_load (a0 a1 : AV) (H : AHeap) : Option (AV × AHeap) := forget H (afinR mem_Mem_load.res (mem_Mem_load.body mem_Mem_place.spec (args0 [a0, a1]) H))
def mem_Mem_load.spec : List AV → AHeap → Option (AV × AHeap)
  | [a0, a1], H => mem_Mem_load a0 a1 H
  | _, _ => none
namespace mem_Mem_Load
def C (s0 : SpecM) : Tab := (Tab.none.add 170 (.ref [false, false] s0))
@[simp] def r0 (fr : AFr) (H : AHeap) : ARes :=
 areg (e' [(0, fr 0), (1, fr 1)] H)
@[simp] def r1 (s0 : SpecM) (fr : AFr) (H : AHeap) : ARes :=
 areg (o' (callM [false, false] s0 [[none], [none]] [(fr 0), (fr 1)] H) ⟨fun v11 H =>
 q' (aextract v11 0) H ⟨fun v12 H =>
 q' (aextract v11 1) H ⟨fun v13 H =>
 e' [(0, fr 0), (6, v12), (7, v13)] H⟩⟩⟩)
@[simp] def r2 (fr : AFr) (H : AHeap) : ARes :=
 areg (q' (bn' .eql (fr 7) (.int .i64 0)) H ⟨fun v15 H =>
 e' [(0, fr 0), (6, fr 6), (7, fr 7), (15, v15)] H⟩)
@[simp] def r3 (fr : AFr) (H : AHeap) : ARes :=
 areg (q' (anil (fr 0)) H ⟨fun v18 H =>
 q' (fa' 4 v18) H ⟨fun v19 H =>
 w' (astoreR (some 1) v19 (fr 6) H) ⟨fun _ H =>
 e' [(6, fr 6), (7, fr 7)] H⟩⟩⟩)
@[simp] def r4 (fr : AFr) (H : AHeap) : ARes :=
 areg (e' [(4, (fr 6)), (5, (fr 7))] H)
@[simp] def body (s0 : SpecM) (fr : AFr) (H : AHeap) : ARes :=
  s' (r0 fr H) ⟨fun fr H =>
 s' (r1 s0 fr H) ⟨fun fr H =>
 s' (s' (r2 fr H) ⟨fun fr H =>
 c' (fr 15)
 ⟨r3 fr H⟩
 ⟨some (.normal, fr, H)⟩⟩) ⟨fun fr H =>
 s' (r4 fr H) ⟨fun fr H =>
 some (.ret, fr, H)⟩⟩⟩⟩
@[simp] def res (fr : AFr) (H : AHeap) : Option (List AV) := res2 (some (fr 4)) (res2 (some (fr 5)) (some []))
end mem_Mem_Load
def mem_Mem_Load (a0 a1 : AV) (H : AHeap) : Option (AV × AHeap) := forget H (afinR mem_Mem_Load.res (mem_Mem_Load.body mem_Mem_load.spec (args0 [a0, a1]) H))
def mem_Mem_Load.spec : List AV → AHeap → Option (AV × AHeap)
  | [a0, a1], H => mem_Mem_Load a0 a1 H
  | _, _ => none
end
end Go.Abs
end
section
set_option linter.unusedVariables false
namespace Go.Abs
noncomputable section
end
end Go.Abs
end
section
set_option linter.unusedVariables false
namespace Go.Abs
noncomputable section
namespace math_bits_Add32
def C : Tab := Tab.none
@[simp] def r0 (fr : AFr) (H : AHeap) : ARes :=
 areg (e' [(0, fr 0), (1, fr 1), (2, fr 2)] H)
@[simp] def r1 (fr : AFr) (H : AHeap) : ARes :=
 areg (q' (aconvR (some .u64) (fr 0)) H ⟨fun v10 H =>
 q' (aconvR (some .u64) (fr 1)) H ⟨fun v12 H =>
 q' (bn' .add v10 v12) H ⟨fun v13 H =>
 q' (aconvR (some .u64) (fr 2)) H ⟨fun v15 H =>
 q' (bn' .add v13 v15) H ⟨fun v16 H =>
 e' [(8, v16)] H⟩⟩⟩⟩⟩)
@[simp] def r2 (fr : AFr) (H : AHeap) : ARes :=
 areg (q' (aconvR (some .u32) (fr 8)) H ⟨fun v18 H =>
 e' [(6, v18), (8, fr 8)] H⟩)
@[simp] def r3 (fr : AFr) (H : AHeap) : ARes :=
 areg (q' (bn' .shr (fr 8) (W64 32#64)) H ⟨fun v20 H =>
 q' (aconvR (some .u32) v20) H ⟨fun v21 H =>
 e' [(6, fr 6), (7, v21)] H⟩⟩)
@[simp] def body (fr : AFr) (H : AHeap) : ARes :=
  s' (r0 fr H) ⟨fun fr H =>
 s' (r1 fr H) ⟨fun fr H =>
 s' (r2 fr H) ⟨fun fr H =>
 s' (r3 fr H) ⟨fun fr H =>
 some (.ret, fr, H)⟩⟩⟩⟩
@[simp] def res (fr : AFr) (H : AHeap) : Option (List AV) := res2 (some (fr 6)) (res2 (some (fr 7)) (some []))
end math_bits_Add32
def math_bits_Add32 (a0 a1 a2 : AV) : Option AV := closeUpR (some [[none], [none]]) (afinR math_bits_Add32.res (math_bits_Add32.body (args0 [a0, a1, a2]) AHeap.empty))
def math_bits_Add32.spec : List AV → Option AV
  | [a0, a1, a2] => math_bits_Add32 a0 a1 a2
  | _ => none
namespace word_Add
def C (s0 : SpecP) : Tab := (Tab.none.add 188 (.pure false s0))
@[simp] def r0 (fr : AFr) (H : AHeap) : ARes :=
 areg (e' [(0, fr 0), (1, fr 1), (2, fr 2)] H)
@[simp] def r1 (fr : AFr) (H : AHeap) : ARes :=
 areg (e' [(0, fr 0), (1, fr 1), (2, fr 2), (9, (W32 0#32))] H)
@[simp] def r2 (fr : AFr) (H : AHeap) : ARes :=
 areg (e' [(0, fr 0), (1, fr 1), (9, fr 9), (12, (fr 2))] H)
@[simp] def r3 (fr : AFr) (H : AHeap) : ARes :=
 areg (e' [(0, fr 0), (1, fr 1), (9, (W32 1#32))] H)
@[simp] def r4 (s0 : SpecP) (fr : AFr) (H : AHeap) : ARes :=
 areg (o' (callP false s0 [[none], [none], [none]] [(fr 0), (fr 1), (fr 9)] H) ⟨fun v17 H =>
 q' (aextract v17 0) H ⟨fun v18 H =>
 q' (aextract v17 1) H ⟨fun v19 H =>
 e' [(0, fr 0), (1, fr 1), (10, v18), (11, v19)] H⟩⟩⟩)
@[simp] def r5 (fr : AFr) (H : AHeap) : ARes :=
 areg (q' (bn' .eql (fr 11) (W32 1#32)) H ⟨fun v22 H =>
 q' (bn' .xor (fr 0) (fr 10)) H ⟨fun v25 H =>
 q' (bn' .xor (fr 1) (fr 10)) H ⟨fun v28 H =>
 q' (bn' .and v25 v28) H ⟨fun v29 H =>
 q' (bn' .and v29 (W32 2147483648#32)) H ⟨fun v30 H =>
 q' (bn' .neq v30 (W32 0#32)) H ⟨fun v31 H =>
 e' [(6, (fr 10)), (7, v22), (8, v31)] H⟩⟩⟩⟩⟩⟩)
@[simp] def body (s0 : SpecP) (fr : AFr) (H : AHeap) : ARes :=
  s' (r0 fr H) ⟨fun fr H =>
 s' (r1 fr H) ⟨fun fr H =>
 s' (s' (r2 fr H) ⟨fun fr H =>
 c' (fr 12)
 ⟨r3 fr H⟩
 ⟨some (.normal, fr, H)⟩⟩) ⟨fun fr H =>
 s' (r4 s0 fr H) ⟨fun fr H =>
 s' (r5 fr H) ⟨fun fr H =>
 some (.ret, fr, H)⟩⟩⟩⟩⟩
@[simp] def res (fr : AFr) (H : AHeap) : Option (List AV) := res2 (some (fr 6)) (res2 (some (fr 7)) (res2 (some (fr 8)) (some [])))
end word_Add
def word_Add (a0 a1 a2 : AV) : Option AV := closeUpR (some [[none], [none], [none]]) (afinR word_Add.res (word_Add.body math_bits_Add32.spec (args0 [a0, a1, a2]) AHeap.empty))
def word_Add.spec : List AV → Option AV
  | [a0, a1, a2] => word_Add a0 a1 a2
  | _ => none
namespace math_bits_RotateLeft32
def C : Tab := Tab.none
@[simp] def r0 (fr : AFr) (H : AHeap) : ARes :=
 areg (e' [(0, fr 0), (1, fr 1)] H)
@[simp] def r1 (fr : AFr) (H : AHeap) : ARes :=
 areg (q' (aconvR (some .u64) (fr 1)) H ⟨fun v7 H =>
 q' (bn' .and v7 (W64 31#64)) H ⟨fun v8 H =>
 e' [(0, fr 0), (5, v8)] H⟩⟩)
@[simp] def r2 (fr : AFr) (H : AHeap) : ARes :=
 areg (q' (bn' .shl (fr 0) (fr 5)) H ⟨fun v11 H =>
 q' (bn' .sub (W64 32#64) (fr 5)) H ⟨fun v14 H =>
 q' (bn' .shr (fr 0) v14) H ⟨fun v15 H =>
 q' (bn' .or v11 v15) H ⟨fun v16 H =>
 e' [(4, v16)] H⟩⟩⟩⟩)
@[simp] def body (fr : AFr) (H : AHeap) : ARes :=
  s' (r0 fr H) ⟨fun fr H =>
 s' (r1 fr H) ⟨fun fr H =>
 s' (r2 fr H) ⟨fun fr H =>
 some (.ret, fr, H)⟩⟩⟩
@[simp] def res (fr : AFr) (H : AHeap) : Option (List AV) := res2 (some (fr 4)) (some [])
end math_bits_RotateLeft32
def math_bits_RotateLeft32 (a0 a1 : AV) : Option AV := closeUpR (some [[none]]) (afinR math_bits_RotateLeft32.res (math_bits_RotateLeft32.body (args0 [a0, a1]) AHeap.empty))
def math_bits_RotateLeft32.spec : List AV → Option AV
  | [a0, a1] => math_bits_RotateLeft32 a0 a1
  | _ => none
namespace word_Shift
def C (s0 : SpecP) : Tab := (Tab.none.add 189 (.pure false s0))
@[simp] def r0 (fr : AFr) (H : AHeap) : ARes :=
 areg (e' [(0, fr 0), (1, fr 1), (2, fr 2), (3, fr 3)] H)
@[simp] def r1 (fr : AFr) (H : AHeap) : ARes :=
 areg (q' (bn' .eql (fr 2) (W32 0#32)) H ⟨fun v11 H =>
 G' v11 true ⟨some (fr 0)⟩ H ⟨fun v13 H =>
 G' v11 true ⟨bn' .geq v13 (.int .i64 0)⟩ H ⟨fun v14 H =>
 q' (apick v11 v14 (.bool false)) H ⟨fun v15 H =>
 G' v15 true ⟨some (fr 0)⟩ H ⟨fun v17 H =>
 G' v15 true ⟨bn' .leq v17 (.int .i64 3)⟩ H ⟨fun v18 H =>
 q' (apick v15 v18 (.bool false)) H ⟨fun v19 H =>
 e' [(0, fr 0), (1, fr 1), (2, fr 2), (3, fr 3), (19, v19)] H⟩⟩⟩⟩⟩⟩⟩)
@[simp] def r2 (fr : AFr) (H : AHeap) : ARes :=
 areg (e' [(8, (fr 1)), (9, (fr 3))] H)
@[simp] def r3 (fr : AFr) (H : AHeap) : ARes :=
 areg (e' [(1, fr 1), (2, fr 2), (22, (fr 0))] H)
@[simp] def r4 (fr : AFr) (H : AHeap) : ARes :=
 areg (q' (bn' .eql (fr 22) (.int .i64 0)) H ⟨fun v24 H =>
 e' [(1, fr 1), (2, fr 2), (22, fr 22), (23, v24)] H⟩)
@[simp] def r5 (fr : AFr) (H : AHeap) : ARes :=
 areg (q' (bn' .shl (fr 1) (fr 2)) H ⟨fun v27 H =>
 q' (bn' .leq (fr 2) (W32 32#32)) H ⟨fun v29 H =>
 G' v29 true ⟨some (fr 1)⟩ H ⟨fun v31 H =>
 G' v29 true ⟨some (fr 2)⟩ H ⟨fun v32 H =>
 G' v29 true ⟨bn' .sub (W32 32#32) v32⟩ H ⟨fun v33 H =>
 G' v29 true ⟨bn' .shr v31 v33⟩ H ⟨fun v34 H =>
 G' v29 true ⟨bn' .and v34 (W32 1#32)⟩ H ⟨fun v35 H =>
 G' v29 true ⟨bn' .eql v35 (W32 1#32)⟩ H ⟨fun v36 H =>
 q' (apick v29 v36 (.bool false)) H ⟨fun v37 H =>
 e' [(8, v27), (9, v37)] H⟩⟩⟩⟩⟩⟩⟩⟩⟩)
@[simp] def r6 (fr : AFr) (H : AHeap) : ARes :=
 areg (q' (bn' .eql (fr 22) (.int .i64 1)) H ⟨fun v39 H =>
 e' [(1, fr 1), (2, fr 2), (22, fr 22), (38, v39)] H⟩)
@[simp] def r7 (fr : AFr) (H : AHeap) : ARes :=
 areg (q' (bn' .shr (fr 1) (fr 2)) H ⟨fun v42 H =>
 q' (bn' .leq (fr 2) (W32 32#32)) H ⟨fun v44 H =>
 G' v44 true ⟨some (fr 1)⟩ H ⟨fun v46 H =>
 G' v44 true ⟨some (fr 2)⟩ H ⟨fun v47 H =>
 G' v44 true ⟨bn' .sub v47 (W32 1#32)⟩ H ⟨fun v48 H =>
 G' v44 true ⟨bn' .shr v46 v48⟩ H ⟨fun v49 H =>
 G' v44 true ⟨bn' .and v49 (W32 1#32)⟩ H ⟨fun v50 H =>
 G' v44 true ⟨bn' .eql v50 (W32 1#32)⟩ H ⟨fun v51 H =>
 q' (apick v44 v51 (.bool false)) H ⟨fun v52 H =>
 e' [(8, v42), (9, v52)] H⟩⟩⟩⟩⟩⟩⟩⟩⟩)
@[simp] def r8 (fr : AFr) (H : AHeap) : ARes :=
 areg (q' (bn' .eql (fr 22) (.int .i64 2)) H ⟨fun v54 H =>
 e' [(1, fr 1), (2, fr 2), (22, fr 22), (53, v54)] H⟩)
@[simp] def r9 (fr : AFr) (H : AHeap) : ARes :=
 areg (q' (amin (fr 2) (W32 32#32)) H ⟨fun v56 H =>
 e' [(1, fr 1), (2, v56)] H⟩)
@[simp] def r10 (fr : AFr) (H : AHeap) : ARes :=
 areg (q' (aconvR (some .i32) (fr 1)) H ⟨fun v58 H =>
 q' (bn' .shr v58 (fr 2)) H ⟨fun v60 H =>
 q' (aconvR (some .u32) v60) H ⟨fun v61 H =>
 q' (aconvR (some .i32) (fr 1)) H ⟨fun v63 H =>
 q' (bn' .sub (fr 2) (W32 1#32)) H ⟨fun v65 H =>
 q' (bn' .shr v63 v65) H ⟨fun v66 H =>
 q' (aconvR (some .u32) v66) H ⟨fun v67 H =>
 q' (bn' .and v67 (W32 1#32)) H ⟨fun v68 H =>
 q' (bn' .eql v68 (W32 1#32)) H ⟨fun v69 H =>
 e' [(8, v61), (9, v69)] H⟩⟩⟩⟩⟩⟩⟩⟩⟩)
@[simp] def r11 (fr : AFr) (H : AHeap) : ARes :=
 areg (q' (bn' .eql (fr 22) (.int .i64 3)) H ⟨fun v71 H =>
 e' [(1, fr 1), (2, fr 2), (70, v71)] H⟩)
@[simp] def r12 (s0 : SpecP) (fr : AFr) (H : AHeap) : ARes :=
 areg (q' (bn' .rem (fr 2) (W32 32#32)) H ⟨fun v74 H =>
 q' (aconvR (some .i64) v74) H ⟨fun v75 H =>
 q' (aun .neg v75) H ⟨fun v76 H =>
 o' (callP false s0 [[none], [none]] [(fr 1), v76] H) ⟨fun v77 H =>
 e' [(1, v77)] H⟩⟩⟩⟩)
@[simp] def r13 (fr : AFr) (H : AHeap) : ARes :=
 areg (q' (bn' .and (fr 1) (W32 2147483648#32)) H ⟨fun v80 H =>
 q' (bn' .neq v80 (W32 0#32)) H ⟨fun v81 H =>
 e' [(8, (fr 1)), (9, v81)] H⟩⟩)
@[simp] def r14 (fr : AFr) (H : AHeap) : ARes :=
 areg (e' [(8, (W32 0#32)), (9, (.bool false))] H)
@[simp] def body (s0 : SpecP) (fr : AFr) (H : AHeap) : ARes :=
  s' (r0 fr H) ⟨fun fr H =>
 s' (s' (r1 fr H) ⟨fun fr H =>
 c' (fr 19)
 ⟨s' (r2 fr H) ⟨fun fr H =>
 some (.ret, fr, H)⟩⟩
 ⟨some (.normal, fr, H)⟩⟩) ⟨fun fr H =>
 s' (s' (r3 fr H) ⟨fun fr H =>
  aexit 0 (s' (r4 fr H) ⟨fun fr H =>
 c' (fr 23)
 ⟨s' (r5 fr H) ⟨fun fr H =>
 some (.ret, fr, H)⟩⟩
 ⟨s' (r6 fr H) ⟨fun fr H =>
 c' (fr 38)
 ⟨s' (r7 fr H) ⟨fun fr H =>
 some (.ret, fr, H)⟩⟩
 ⟨s' (r8 fr H) ⟨fun fr H =>
 c' (fr 53)
 ⟨s' (r9 fr H) ⟨fun fr H =>
 s' (r10 fr H) ⟨fun fr H =>
 some (.ret, fr, H)⟩⟩⟩
 ⟨s' (r11 fr H) ⟨fun fr H =>
 c' (fr 70)
 ⟨s' (r12 s0 fr H) ⟨fun fr H =>
 s' (r13 fr H) ⟨fun fr H =>
 some (.ret, fr, H)⟩⟩⟩
 ⟨some (.normal, fr, H)⟩⟩⟩⟩⟩⟩⟩⟩)⟩) ⟨fun fr H =>
 s' (r14 fr H) ⟨fun fr H =>
 some (.ret, fr, H)⟩⟩⟩⟩
@[simp] def res (fr : AFr) (H : AHeap) : Option (List AV) := res2 (some (fr 8)) (res2 (some (fr 9)) (some []))
end word_Shift
def word_Shift (a0 a1 a2 a3 : AV) : Option AV := closeUpR (some [[none], [none]]) (afinR word_Shift.res (word_Shift.body math_bits_RotateLeft32.spec (args0 [a0, a1, a2, a3]) AHeap.empty))
def word_Shift.spec : List AV → Option AV
  | [a0, a1, a2, a3] => word_Shift a0 a1 a2 a3
  | _ => none
end
end Go.Abs
end
section
set_option linter.unusedVariables false
namespace Go.Abs
noncomputable section
namespace ref01_Bits
def C : Tab := Tab.none
@[simp] def r0 (fr : AFr) (H : AHeap) : ARes :=
 areg (e' [(0, fr 0)] H)
@[simp] def r1 (fr : AFr) (H : AHeap) : ARes :=
 areg (o' (abuildSliceR (some ⟨T.ty_bool, 1, 1, [(.bool false)]⟩) 0 [] H) ⟨fun v5 H =>
 e' [(0, fr 0), (3, v5)] H⟩)
@[simp] def r2 (fr : AFr) (H : AHeap) : ARes :=
 areg (e' [(0, fr 0), (3, fr 3), (4, (.int .i64 0))] H)
@[simp] def r3 (fr : AFr) (H : AHeap) : ARes :=
 areg (q' (bn' .lss (fr 4) (.int .i64 32)) H ⟨fun v7 H =>
 e' [(0, fr 0), (3, fr 3), (4, fr 4), (7, v7)] H⟩)
@[simp] def r5 (fr : AFr) (H : AHeap) : ARes :=
 areg (q' (bn' .rem (fr 0) (W32 2#32)) H ⟨fun v12 H =>
 q' (bn' .eql v12 (W32 1#32)) H ⟨fun v13 H =>
 o' (abuildSliceR (some ⟨T.ty_bool, 1, 1, [(.bool false)]⟩) 1 [(0, v13)] H) ⟨fun v14 H =>
 o' (aappendR (some ⟨T.ty_bool, 1, 1, [(.bool false)]⟩) (fr 3) v14 H) ⟨fun v15 H =>
 e' [(0, fr 0), (3, v15), (4, fr 4)] H⟩⟩⟩⟩)
@[simp] def r6 (fr : AFr) (H : AHeap) : ARes :=
 areg (q' (bn' .quo (fr 0) (W32 2#32)) H ⟨fun v17 H =>
 e' [(0, v17), (3, fr 3), (4, fr 4)] H⟩)
@[simp] def r4 (fr : AFr) (H : AHeap) : ARes :=
 areg (q' (bn' .add (fr 4) (.int .i64 1)) H ⟨fun v9 H =>
 e' [(0, fr 0), (3, fr 3), (4, v9)] H⟩)
@[simp] def r7 (fr : AFr) (H : AHeap) : ARes :=
 areg (e' [(2, (fr 3))] H)
def l0 (fr : AFr) (H : AHeap) : ARes :=
  s' (s' (r3 fr H) ⟨fun fr H =>
 c' (fr 7)
 ⟨some (.normal, fr, H)⟩
 ⟨some (.exit 0, fr, H)⟩⟩) ⟨fun fr H =>
 s' (aexit 1 (s' (r5 fr H) ⟨fun fr H =>
 r6 fr H⟩)) ⟨fun fr H =>
 r4 fr H⟩⟩
@[simp] def body (fr : AFr) (H : AHeap) : ARes :=
  s' (r0 fr H) ⟨fun fr H =>
 s' (r1 fr H) ⟨fun fr H =>
 s' (s' (r2 fr H) ⟨fun fr H =>
  aexit 0 (aloop (l0) fr H)⟩) ⟨fun fr H =>
 s' (r7 fr H) ⟨fun fr H =>
 some (.ret, fr, H)⟩⟩⟩⟩
@[simp] def res (fr : AFr) (H : AHeap) : Option (List AV) := res2 (some (fr 2)) (some [])
end ref01_Bits
def ref01_Bits (a0 : AV) : Option AV := closeUpR (some [[some 1]]) (afinR ref01_Bits.res (ref01_Bits.body (args0 [a0]) AHeap.empty))
def ref01_Bits.spec : List AV → Option AV
  | [a0] => ref01_Bits a0
  | _ => none
namespace ref01_Word
def C : Tab := Tab.none
@[simp] def r0 (fr : AFr) (H : AHeap) : ARes :=
 areg (e' [(0, fr 0)] H)
@[simp] def r1 (fr : AFr) (H : AHeap) : ARes :=
 areg (e' [(0, fr 0), (3, (W32 0#32))] H)
@[simp] def r2 (fr : AFr) (H : AHeap) : ARes :=
 areg (q' (alenR .sl (fr 0)) H ⟨fun v6 H =>
 q' (bn' .sub v6 (.int .i64 1)) H ⟨fun v7 H =>
 e' [(0, fr 0), (3, fr 3), (4, v7)] H⟩⟩)
@[simp] def r3 (fr : AFr) (H : AHeap) : ARes :=
 areg (q' (bn' .geq (fr 4) (.int .i64 0)) H ⟨fun v9 H =>
 e' [(0, fr 0), (3, fr 3), (4, fr 4), (9, v9)] H⟩)
@[simp] def r5 (fr : AFr) (H : AHeap) : ARes :=
 areg (q' (bn' .mul (fr 3) (W32 2#32)) H ⟨fun v13 H =>
 e' [(0, fr 0), (3, v13), (4, fr 4)] H⟩)
@[simp] def r6 (fr : AFr) (H : AHeap) : ARes :=
 areg (q' (aindexAddrR (.sl 1) (fr 0) (fr 4)) H ⟨fun v16 H =>
 q' (ld' v16 H) H ⟨fun v17 H =>
 e' [(0, fr 0), (3, fr 3), (4, fr 4), (17, v17)] H⟩⟩)
@[simp] def r7 (fr : AFr) (H : AHeap) : ARes :=
 areg (q' (bn' .add (fr 3) (W32 1#32)) H ⟨fun v19 H =>
 e' [(0, fr 0), (3, v19), (4, fr 4)] H⟩)
@[simp] def r4 (fr : AFr) (H : AHeap) : ARes :=
 areg (q' (bn' .sub (fr 4) (.int .i64 1)) H ⟨fun v11 H =>
 e' [(0, fr 0), (3, fr 3), (4, v11)] H⟩)
@[simp] def r8 (fr : AFr) (H : AHeap) : ARes :=
 areg (e' [(2, (fr 3))] H)
def l0 (fr : AFr) (H : AHeap) : ARes :=
  s' (s' (r3 fr H) ⟨fun fr H =>
 c' (fr 9)
 ⟨some (.normal, fr, H)⟩
 ⟨some (.exit 0, fr, H)⟩⟩) ⟨fun fr H =>
 s' (aexit 1 (s' (r5 fr H) ⟨fun fr H =>
 s' (r6 fr H) ⟨fun fr H =>
 c' (fr 17)
 ⟨r7 fr H⟩
 ⟨some (.normal, fr, H)⟩⟩⟩)) ⟨fun fr H =>
 r4 fr H⟩⟩
@[simp] def body (fr : AFr) (H : AHeap) : ARes :=
  s' (r0 fr H) ⟨fun fr H =>
 s' (r1 fr H) ⟨fun fr H =>
 s' (s' (r2 fr H) ⟨fun fr H =>
  aexit 0 (aloop (l0) fr H)⟩) ⟨fun fr H =>
 s' (r8 fr H) ⟨fun fr H =>
 some (.ret, fr, H)⟩⟩⟩⟩
@[simp] def res (fr : AFr) (H : AHeap) : Option (List AV) := res2 (some (fr 2)) (some [])
end ref01_Word
def ref01_Word (a0 : AV) : Option AV := closeUpR (some [[none]]) (afinR ref01_Word.res (ref01_Word.body (args0 [a0]) AHeap.empty))
def ref01_Word.spec : List AV → Option AV
  | [a0] => ref01_Word a0
  | _ => none
namespace ref01_Add
def C (s0 s1 : SpecP) : Tab := ((Tab.none.add 96 (.pure false s0)).add 97 (.pure false s1))
@[simp] def r0 (fr : AFr) (H : AHeap) : ARes :=
 areg (e' [(0, fr 0), (1, fr 1), (2, fr 2)] H)
@[simp] def r1 (s0 : SpecP) (fr : AFr) (H : AHeap) : ARes :=
 areg (o' (callP false s0 [[none]] [(fr 0)] H) ⟨fun v15 H =>
 o' (callP false s0 [[none]] [(fr 1)] H) ⟨fun v17 H =>
 o' (abuildSliceR (some ⟨T.ty_bool, 1, 1, [(.bool false)]⟩) 0 [] H) ⟨fun v18 H =>
 e' [(2, fr 2), (9, v15), (10, v17), (11, v18)] H⟩⟩⟩)
@[simp] def r2 (fr : AFr) (H : AHeap) : ARes :=
 areg (e' [(2, fr 2), (9, fr 9), (10, fr 10), (11, fr 11), (12, (.int .i64 0))] H)
@[simp] def r3 (fr : AFr) (H : AHeap) : ARes :=
 areg (q' (bn' .lss (fr 12) (.int .i64 32)) H ⟨fun v20 H =>
 e' [(2, fr 2), (9, fr 9), (10, fr 10), (11, fr 11), (12, fr 12), (20, v20)] H⟩)
@[simp] def r5 (fr : AFr) (H : AHeap) : ARes :=
 areg (e' [(2, fr 2), (9, fr 9), (10, fr 10), (11, fr 11), (12, fr 12), (13, (.int .i64 0))] H)
@[simp] def r6 (fr : AFr) (H : AHeap) : ARes :=
 areg (q' (aindexAddrR (.sl 1) (fr 9) (fr 12)) H ⟨fun v25 H =>
 q' (ld' v25 H) H ⟨fun v26 H =>
 e' [(2, fr 2), (9, fr 9), (10, fr 10), (11, fr 11), (12, fr 12), (13, fr 13), (26, v26)] H⟩⟩)
@[simp] def r7 (fr : AFr) (H : AHeap) : ARes :=
 areg (q' (bn' .add (fr 13) (.int .i64 1)) H ⟨fun v28 H =>
 e' [(2, fr 2), (9, fr 9), (10, fr 10), (11, fr 11), (12, fr 12), (13, v28)] H⟩)
@[simp] def r8 (fr : AFr) (H : AHeap) : ARes :=
 areg (q' (aindexAddrR (.sl 1) (fr 10) (fr 12)) H ⟨fun v31 H =>
 q' (ld' v31 H) H ⟨fun v32 H =>
 e' [(2, fr 2), (9, fr 9), (10, fr 10), (11, fr 11), (12, fr 12), (13, fr 13), (32, v32)] H⟩⟩)
@[simp] def r9 (fr : AFr) (H : AHeap) : ARes :=
 areg (q' (bn' .add (fr 13) (.int .i64 1)) H ⟨fun v34 H =>
 e' [(2, fr 2), (9, fr 9), (10, fr 10), (11, fr 11), (12, fr 12), (13, v34)] H⟩)
@[simp] def r10 (fr : AFr) (H : AHeap) : ARes :=
 areg (e' [(9, fr 9), (10, fr 10), (11, fr 11), (12, fr 12), (13, fr 13), (35, (fr 2))] H)
@[simp] def r11 (fr : AFr) (H : AHeap) : ARes :=
 areg (q' (bn' .add (fr 13) (.int .i64 1)) H ⟨fun v37 H =>
 e' [(9, fr 9), (10, fr 10), (11, fr 11), (12, fr 12), (13, v37)] H⟩)
@[simp] def r12 (fr : AFr) (H : AHeap) : ARes :=
 areg (q' (bn' .rem (fr 13) (.int .i64 2)) H ⟨fun v40 H =>
 q' (bn' .eql v40 (.int .i64 1)) H ⟨fun v41 H =>
 o' (abuildSliceR (some ⟨T.ty_bool, 1, 1, [(.bool false)]⟩) 1 [(0, v41)] H) ⟨fun v42 H =>
 o' (aappendR (some ⟨T.ty_bool, 1, 1, [(.bool false)]⟩) (fr 11) v42 H) ⟨fun v43 H =>
 q' (bn' .gtr (fr 13) (.int .i64 1)) H ⟨fun v45 H =>
 e' [(2, v45), (9, fr 9), (10, fr 10), (11, v43), (12, fr 12)] H⟩⟩⟩⟩⟩)
@[simp] def r4 (fr : AFr) (H : AHeap) : ARes :=
 areg (q' (bn' .add (fr 12) (.int .i64 1)) H ⟨fun v22 H =>
 e' [(2, fr 2), (9, fr 9), (10, fr 10), (11, fr 11), (12, v22)] H⟩)
@[simp] def r13 (s1 : SpecP) (fr : AFr) (H : AHeap) : ARes :=
 areg (q' (some (fr 11)) H ⟨fun v46 H1 =>
 o' (callP false s1 [[some 1]] [v46] H1) ⟨fun v47 H2 =>
 q' (some (fr 2)) H2 ⟨fun v48 H3 =>
 q' (some (fr 9)) H3 ⟨fun v49 H4 =>
 q' (aindexAddrR (.sl 1) v49 (.int .i64 31)) H4 ⟨fun v50 H5 =>
 q' (ld' v50 H5) H5 ⟨fun v51 H6 =>
 q' (some (fr 10)) H6 ⟨fun v52 H7 =>
 q' (aindexAddrR (.sl 1) v52 (.int .i64 31)) H7 ⟨fun v53 H8 =>
 q' (ld' v53 H8) H8 ⟨fun v54 H9 =>
 q' (abinR .b .eql v51 v54) H9 ⟨fun v55 H10 =>
 q' (some v55) H10 ⟨fun v56 H11 =>
 G' v56 true ⟨some (fr 11)⟩ H11 ⟨fun v57 H12 =>
 G' v56 true ⟨aindexAddrR (.sl 1) v57 (.int .i64 31)⟩ H12 ⟨fun v58 H13 =>
 G' v56 true ⟨ld' v58 H13⟩ H13 ⟨fun v59 H14 =>
 G' v56 true ⟨some (fr 9)⟩ H14 ⟨fun v60 H15 =>
 G' v56 true ⟨aindexAddrR (.sl 1) v60 (.int .i64 31)⟩ H15 ⟨fun v61 H16 =>
 G' v56 true ⟨ld' v61 H16⟩ H16 ⟨fun v62 H17 =>
 G' v56 true ⟨abinR .b .neq v59 v62⟩ H17 ⟨fun v63 H18 =>
 q' (apick v56 v63 (.bool false)) H18 ⟨fun v64 H19 =>
 q' (some v47) H19 ⟨fun v6 H20 =>
 q' (some v48) H20 ⟨fun v7 H21 =>
 q' (some v64) H21 ⟨fun v8 H22 =>
 withChk [aloadR (some none) v50 H1 = aloadR (some none) v50 H2, aloadR (some none) v53 H1 = aloadR (some none) v53 H2] (e' [(6, v6), (7, v7), (8, v8)] H22)⟩⟩⟩⟩⟩⟩⟩⟩⟩⟩⟩⟩⟩⟩⟩⟩⟩⟩⟩⟩⟩⟩)
def l0 (s0 s1 : SpecP) (fr : AFr) (H : AHeap) : ARes :=
  s' (s' (r3 fr H) ⟨fun fr H =>
 c' (fr 20)
 ⟨some (.normal, fr, H)⟩
 ⟨some (.exit 0, fr, H)⟩⟩) ⟨fun fr H =>
 s' (aexit 1 (s' (r5 fr H) ⟨fun fr H =>
 s' (s' (r6 fr H) ⟨fun fr H =>
 c' (fr 26)
 ⟨r7 fr H⟩
 ⟨some (.normal, fr, H)⟩⟩) ⟨fun fr H =>
 s' (s' (r8 fr H) ⟨fun fr H =>
 c' (fr 32)
 ⟨r9 fr H⟩
 ⟨some (.normal, fr, H)⟩⟩) ⟨fun fr H =>
 s' (s' (r10 fr H) ⟨fun fr H =>
 c' (fr 35)
 ⟨r11 fr H⟩
 ⟨some (.normal, fr, H)⟩⟩) ⟨fun fr H =>
 r12 fr H⟩⟩⟩⟩)) ⟨fun fr H =>
 r4 fr H⟩⟩
@[simp] def body (s0 s1 : SpecP) (fr : AFr) (H : AHeap) : ARes :=
  s' (r0 fr H) ⟨fun fr H =>
 s' (r1 s0 fr H) ⟨fun fr H =>
 s' (s' (r2 fr H) ⟨fun fr H =>
  aexit 0 (aloop (l0 s0 s1) fr H)⟩) ⟨fun fr H =>
 s' (r13 s1 fr H) ⟨fun fr H =>
 some (.ret, fr, H)⟩⟩⟩⟩
@[simp] def res (fr : AFr) (H : AHeap) : Option (List AV) := res2 (some (fr 6)) (res2 (some (fr 7)) (res2 (some (fr 8)) (some [])))
end ref01_Add
def ref01_Add (a0 a1 a2 : AV) : Option AV := closeUpR (some [[none], [none], [none]]) (afinR ref01_Add.res (ref01_Add.body ref01_Bits.spec ref01_Word.spec (args0 [a0, a1, a2]) AHeap.empty))
def ref01_Add.spec : List AV → Option AV
  | [a0, a1, a2] => ref01_Add a0 a1 a2
  | _ => none
end
end Go.Abs
end
