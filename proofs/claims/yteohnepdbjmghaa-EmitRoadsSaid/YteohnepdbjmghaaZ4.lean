
import Derived.Test.YteohnepdbjmghaaZ3
set_option linter.unusedSimpArgs false
set_option linter.unusedVariables false
set_option maxHeartbeats 20000000
set_option maxRecDepth 100000
section
section
namespace Go.Abs
noncomputable section
namespace z_ab
def C : Tab := Tab.none
@[simp] def r0 (fr : AFr) (H : Hp) : ARes :=
 areg (o' (z_bo T.ty_thumb_shape (some (.agg [(W16 0#16), (W8 0#8), (.int .i64 0), (.int .i64 0), (W8 0#8), (.int .i64 0), (.int .i64 0), (W8 0#8), (.int .i64 0), (.int .i64 0), (.int .i64 0), (.int .i64 0)])) H) ⟨fun v2 H =>
 e' [(0, fr 0), (2, v2)] H⟩)
@[simp] def r1 (fr : AFr) (H : Hp) : ARes :=
 areg (q' (z_a3 (.str [(W8 0#8), (.int .i64 0), (.int .i64 0)] [(0, 1), (1, 1), (2, 1)]) [(0, (W8 100#8)), (1, (.int .i64 0)), (2, (.int .i64 3))]) H ⟨fun v8 H =>
 q' (z_a3 (.str [(W8 0#8), (.int .i64 0), (.int .i64 0)] [(0, 1), (1, 1), (2, 1)]) [(0, (W8 110#8)), (1, (.int .i64 3)), (2, (.int .i64 3))]) H ⟨fun v9 H =>
 q' (z_a3 (.str [(W8 0#8), (.int .i64 0), (.int .i64 0)] [(0, 1), (1, 1), (2, 1)]) [(0, (W8 109#8)), (1, (.int .i64 6)), (2, (.int .i64 3))]) H ⟨fun v10 H =>
 o' (z_bo T.ty_thumb_part (some (.agg [(W8 0#8), (.int .i64 0), (.int .i64 0)])) H) ⟨fun v3 H =>
 o' (z_bo T.ty_thumb_part (some (.agg [(W8 0#8), (.int .i64 0), (.int .i64 0)])) H) ⟨fun v4 H =>
 o' (z_bo T.ty_thumb_part (some (.agg [(W8 0#8), (.int .i64 0), (.int .i64 0)])) H) ⟨fun v5 H =>
 w' (z_ac (some 3) v3 v8 H) ⟨fun _ H =>
 w' (z_ac (some 3) v4 v9 H) ⟨fun _ H =>
 w' (z_ac (some 3) v5 v10 H) ⟨fun _ H =>
 e' [(0, fr 0), (2, fr 2), (3, v3), (4, v4), (5, v5)] H⟩⟩⟩⟩⟩⟩⟩⟩⟩)
@[simp] def r2 (fr : AFr) (H : Hp) : ARes :=
 areg (q' (z_a3 (.str [(W8 0#8), (.int .i64 0), (.int .i64 0)] [(0, 1), (1, 1), (2, 1)]) [(0, (W8 105#8)), (1, (.int .i64 0)), (2, (.int .i64 8))]) H ⟨fun v11 H =>
 q' (z_a3 (.str [(W8 0#8), (.int .i64 0), (.int .i64 0)] [(0, 1), (1, 1), (2, 1)]) [(0, (W8 109#8)), (1, (.int .i64 3)), (2, (.int .i64 3))]) H ⟨fun v12 H =>
 o' (z_bo T.ty_thumb_part (some (.agg [(W8 0#8), (.int .i64 0), (.int .i64 0)])) H) ⟨fun v6 H =>
 o' (z_bo T.ty_thumb_part (some (.agg [(W8 0#8), (.int .i64 0), (.int .i64 0)])) H) ⟨fun v7 H =>
 w' (z_ac (some 3) v6 v11 H) ⟨fun _ H =>
 w' (z_ac (some 3) v7 v12 H) ⟨fun _ H =>
 e' [(0, fr 0), (2, fr 2), (3, fr 3), (4, fr 4), (5, fr 5), (6, v6), (7, v7)] H⟩⟩⟩⟩⟩⟩)
@[simp] def r3 (fr : AFr) (H : Hp) : ARes :=
 areg (e' [(0, fr 0), (2, fr 2), (3, fr 3), (4, fr 4), (5, fr 5), (6, fr 6), (7, fr 7), (13, (fr 0))] H)
@[simp] def r4 (fr : AFr) (H : Hp) : ARes :=
 areg (q' (bn' .eql (fr 13) (.int .i64 0)) H ⟨fun v15 H =>
 e' [(0, fr 0), (2, fr 2), (3, fr 3), (4, fr 4), (5, fr 5), (6, fr 6), (7, fr 7), (13, fr 13), (14, v15)] H⟩)
@[simp] def r5 (fr : AFr) (H : Hp) : ARes :=
 areg (q' (bn' .eql (fr 13) (.int .i64 1)) H ⟨fun v16 H =>
 e' [(0, fr 0), (2, fr 2), (3, fr 3), (4, fr 4), (5, fr 5), (6, fr 6), (7, fr 7), (13, fr 13), (14, v16)] H⟩)
@[simp] def r6 (fr : AFr) (H : Hp) : ARes :=
 areg (q' (bn' .eql (fr 13) (.int .i64 2)) H ⟨fun v17 H =>
 e' [(0, fr 0), (2, fr 2), (3, fr 3), (4, fr 4), (5, fr 5), (6, fr 6), (7, fr 7), (13, fr 13), (14, v17)] H⟩)
@[simp] def r7 (fr : AFr) (H : Hp) : ARes :=
 areg (q' (bn' .eql (fr 13) (.int .i64 3)) H ⟨fun v18 H =>
 e' [(0, fr 0), (2, fr 2), (3, fr 3), (4, fr 4), (5, fr 5), (6, fr 6), (7, fr 7), (13, fr 13), (14, v18)] H⟩)
@[simp] def r8 (fr : AFr) (H : Hp) : ARes :=
 areg (q' (bn' .add (.int .i64 4) (fr 0)) H ⟨fun v20 H =>
 q' (bn' .sub v20 (.int .i64 0)) H ⟨fun v21 H =>
 q' (z_du (some .u16) v21) H ⟨fun v22 H =>
 q' (bn' .shl v22 (W64 11#64)) H ⟨fun v23 H =>
 q' (z_a3 (.str [(W8 0#8), (.int .i64 0), (.int .i64 0)] [(0, 1), (1, 1), (2, 1)]) [(0, (W8 100#8)), (1, (.int .i64 8)), (2, (.int .i64 3))]) H ⟨fun v24 H =>
 q' (Ld' 3 (fr 6) H) H ⟨fun v25 H =>
 q' (z_a3 (.arr [(W8 0#8), (.int .i64 0), (.int .i64 0), (W8 0#8), (.int .i64 0), (.int .i64 0), (W8 0#8), (.int .i64 0), (.int .i64 0)] 3) [(0, v24), (1, v25)]) H ⟨fun v26 H =>
 q' (z_a3 (.str [(W16 0#16), (W8 0#8), (.int .i64 0), (.int .i64 0), (W8 0#8), (.int .i64 0), (.int .i64 0), (W8 0#8), (.int .i64 0), (.int .i64 0), (.int .i64 0), (.int .i64 0)] [(0, 1), (1, 9), (10, 1), (11, 1)]) [(0, v23), (1, v26), (2, (.int .i64 0)), (3, (.int .i64 255))]) H ⟨fun v27 H =>
 w' (z_ac (some 12) (fr 2) v27 H) ⟨fun _ H =>
 e' [(2, fr 2)] H⟩⟩⟩⟩⟩⟩⟩⟩⟩)
@[simp] def r9 (fr : AFr) (H : Hp) : ARes :=
 areg (q' (bn' .eql (fr 13) (.int .i64 4)) H ⟨fun v29 H =>
 e' [(0, fr 0), (2, fr 2), (3, fr 3), (4, fr 4), (5, fr 5), (6, fr 6), (7, fr 7), (13, fr 13), (28, v29)] H⟩)
@[simp] def r10 (fr : AFr) (H : Hp) : ARes :=
 areg (q' (z_a3 (.str [(W8 0#8), (.int .i64 0), (.int .i64 0)] [(0, 1), (1, 1), (2, 1)]) [(0, (W8 105#8)), (1, (.int .i64 6)), (2, (.int .i64 5))]) H ⟨fun v30 H =>
 q' (Ld' 3 (fr 7) H) H ⟨fun v31 H =>
 q' (Ld' 3 (fr 3) H) H ⟨fun v32 H =>
 q' (z_a3 (.arr [(W8 0#8), (.int .i64 0), (.int .i64 0), (W8 0#8), (.int .i64 0), (.int .i64 0), (W8 0#8), (.int .i64 0), (.int .i64 0)] 3) [(0, v30), (1, v31), (2, v32)]) H ⟨fun v33 H =>
 q' (z_a3 (.str [(W16 0#16), (W8 0#8), (.int .i64 0), (.int .i64 0), (W8 0#8), (.int .i64 0), (.int .i64 0), (W8 0#8), (.int .i64 0), (.int .i64 0), (.int .i64 0), (.int .i64 0)] [(0, 1), (1, 9), (10, 1), (11, 1)]) [(0, (W16 0#16)), (1, v33), (2, (.int .i64 0)), (3, (.int .i64 31))]) H ⟨fun v34 H =>
 w' (z_ac (some 12) (fr 2) v34 H) ⟨fun _ H =>
 e' [(2, fr 2)] H⟩⟩⟩⟩⟩⟩)
@[simp] def r11 (fr : AFr) (H : Hp) : ARes :=
 areg (q' (bn' .eql (fr 13) (.int .i64 5)) H ⟨fun v36 H =>
 e' [(0, fr 0), (2, fr 2), (3, fr 3), (4, fr 4), (5, fr 5), (6, fr 6), (7, fr 7), (13, fr 13), (35, v36)] H⟩)
@[simp] def r12 (fr : AFr) (H : Hp) : ARes :=
 areg (q' (bn' .eql (fr 13) (.int .i64 6)) H ⟨fun v37 H =>
 e' [(0, fr 0), (2, fr 2), (3, fr 3), (4, fr 4), (5, fr 5), (6, fr 6), (7, fr 7), (13, fr 13), (35, v37)] H⟩)
@[simp] def r13 (fr : AFr) (H : Hp) : ARes :=
 areg (q' (bn' .sub (fr 0) (.int .i64 4)) H ⟨fun v39 H =>
 q' (z_du (some .u16) v39) H ⟨fun v40 H =>
 q' (bn' .shl v40 (W64 11#64)) H ⟨fun v41 H =>
 q' (z_a3 (.str [(W8 0#8), (.int .i64 0), (.int .i64 0)] [(0, 1), (1, 1), (2, 1)]) [(0, (W8 105#8)), (1, (.int .i64 6)), (2, (.int .i64 5))]) H ⟨fun v42 H =>
 q' (Ld' 3 (fr 7) H) H ⟨fun v43 H =>
 q' (Ld' 3 (fr 3) H) H ⟨fun v44 H =>
 q' (z_a3 (.arr [(W8 0#8), (.int .i64 0), (.int .i64 0), (W8 0#8), (.int .i64 0), (.int .i64 0), (W8 0#8), (.int .i64 0), (.int .i64 0)] 3) [(0, v42), (1, v43), (2, v44)]) H ⟨fun v45 H =>
 q' (z_a3 (.str [(W16 0#16), (W8 0#8), (.int .i64 0), (.int .i64 0), (W8 0#8), (.int .i64 0), (.int .i64 0), (W8 0#8), (.int .i64 0), (.int .i64 0), (.int .i64 0), (.int .i64 0)] [(0, 1), (1, 9), (10, 1), (11, 1)]) [(0, v41), (1, v45), (2, (.int .i64 1)), (3, (.int .i64 32))]) H ⟨fun v46 H =>
 w' (z_ac (some 12) (fr 2) v46 H) ⟨fun _ H =>
 e' [(2, fr 2)] H⟩⟩⟩⟩⟩⟩⟩⟩⟩)
@[simp] def r14 (fr : AFr) (H : Hp) : ARes :=
 areg (q' (bn' .eql (fr 13) (.int .i64 7)) H ⟨fun v48 H =>
 e' [(0, fr 0), (2, fr 2), (3, fr 3), (4, fr 4), (5, fr 5), (6, fr 6), (7, fr 7), (13, fr 13), (47, v48)] H⟩)
@[simp] def r15 (fr : AFr) (H : Hp) : ARes :=
 areg (q' (bn' .eql (fr 13) (.int .i64 8)) H ⟨fun v49 H =>
 e' [(0, fr 0), (2, fr 2), (3, fr 3), (4, fr 4), (5, fr 5), (6, fr 6), (7, fr 7), (13, fr 13), (47, v49)] H⟩)
@[simp] def r16 (fr : AFr) (H : Hp) : ARes :=
 areg (q' (bn' .add (.int .i64 12) (fr 0)) H ⟨fun v51 H =>
 q' (bn' .sub v51 (.int .i64 7)) H ⟨fun v52 H =>
 q' (z_du (some .u16) v52) H ⟨fun v53 H =>
 q' (bn' .shl v53 (W64 9#64)) H ⟨fun v54 H =>
 q' (Ld' 3 (fr 5) H) H ⟨fun v55 H =>
 q' (Ld' 3 (fr 4) H) H ⟨fun v56 H =>
 q' (Ld' 3 (fr 3) H) H ⟨fun v57 H =>
 q' (z_a3 (.arr [(W8 0#8), (.int .i64 0), (.int .i64 0), (W8 0#8), (.int .i64 0), (.int .i64 0), (W8 0#8), (.int .i64 0), (.int .i64 0)] 3) [(0, v55), (1, v56), (2, v57)]) H ⟨fun v58 H =>
 q' (z_a3 (.str [(W16 0#16), (W8 0#8), (.int .i64 0), (.int .i64 0), (W8 0#8), (.int .i64 0), (.int .i64 0), (W8 0#8), (.int .i64 0), (.int .i64 0), (.int .i64 0), (.int .i64 0)] [(0, 1), (1, 9), (10, 1), (11, 1)]) [(0, v54), (1, v58), (2, (.int .i64 0)), (3, (.int .i64 0))]) H ⟨fun v59 H =>
 w' (z_ac (some 12) (fr 2) v59 H) ⟨fun _ H =>
 e' [(2, fr 2)] H⟩⟩⟩⟩⟩⟩⟩⟩⟩⟩)
@[simp] def r17 (fr : AFr) (H : Hp) : ARes :=
 areg (q' (bn' .eql (fr 13) (.int .i64 9)) H ⟨fun v61 H =>
 e' [(0, fr 0), (2, fr 2), (3, fr 3), (4, fr 4), (5, fr 5), (6, fr 6), (7, fr 7), (13, fr 13), (60, v61)] H⟩)
@[simp] def r18 (fr : AFr) (H : Hp) : ARes :=
 areg (q' (bn' .eql (fr 13) (.int .i64 10)) H ⟨fun v62 H =>
 e' [(0, fr 0), (2, fr 2), (3, fr 3), (4, fr 4), (5, fr 5), (6, fr 6), (7, fr 7), (13, fr 13), (60, v62)] H⟩)
@[simp] def r19 (fr : AFr) (H : Hp) : ARes :=
 areg (q' (bn' .add (.int .i64 14) (fr 0)) H ⟨fun v64 H =>
 q' (bn' .sub v64 (.int .i64 9)) H ⟨fun v65 H =>
 q' (z_du (some .u16) v65) H ⟨fun v66 H =>
 q' (bn' .shl v66 (W64 9#64)) H ⟨fun v67 H =>
 q' (z_a3 (.str [(W8 0#8), (.int .i64 0), (.int .i64 0)] [(0, 1), (1, 1), (2, 1)]) [(0, (W8 105#8)), (1, (.int .i64 6)), (2, (.int .i64 3))]) H ⟨fun v68 H =>
 q' (Ld' 3 (fr 4) H) H ⟨fun v69 H =>
 q' (Ld' 3 (fr 3) H) H ⟨fun v70 H =>
 q' (z_a3 (.arr [(W8 0#8), (.int .i64 0), (.int .i64 0), (W8 0#8), (.int .i64 0), (.int .i64 0), (W8 0#8), (.int .i64 0), (.int .i64 0)] 3) [(0, v68), (1, v69), (2, v70)]) H ⟨fun v71 H =>
 q' (z_a3 (.str [(W16 0#16), (W8 0#8), (.int .i64 0), (.int .i64 0), (W8 0#8), (.int .i64 0), (.int .i64 0), (W8 0#8), (.int .i64 0), (.int .i64 0), (.int .i64 0), (.int .i64 0)] [(0, 1), (1, 9), (10, 1), (11, 1)]) [(0, v67), (1, v71), (2, (.int .i64 0)), (3, (.int .i64 7))]) H ⟨fun v72 H =>
 w' (z_ac (some 12) (fr 2) v72 H) ⟨fun _ H =>
 e' [(2, fr 2)] H⟩⟩⟩⟩⟩⟩⟩⟩⟩⟩)
@[simp] def r20 (fr : AFr) (H : Hp) : ARes :=
 areg (q' (bn' .eql (fr 13) (.int .i64 11)) H ⟨fun v74 H =>
 e' [(2, fr 2), (3, fr 3), (4, fr 4), (5, fr 5), (6, fr 6), (7, fr 7), (13, fr 13), (73, v74)] H⟩)
@[simp] def r21 (fr : AFr) (H : Hp) : ARes :=
 areg (q' (z_a3 (.str [(W8 0#8), (.int .i64 0), (.int .i64 0)] [(0, 1), (1, 1), (2, 1)]) [(0, (W8 105#8)), (1, (.int .i64 6)), (2, (.int .i64 4))]) H ⟨fun v75 H =>
 q' (Ld' 3 (fr 7) H) H ⟨fun v76 H =>
 q' (Ld' 3 (fr 3) H) H ⟨fun v77 H =>
 q' (z_a3 (.arr [(W8 0#8), (.int .i64 0), (.int .i64 0), (W8 0#8), (.int .i64 0), (.int .i64 0), (W8 0#8), (.int .i64 0), (.int .i64 0)] 3) [(0, v75), (1, v76), (2, v77)]) H ⟨fun v78 H =>
 q' (z_a3 (.str [(W16 0#16), (W8 0#8), (.int .i64 0), (.int .i64 0), (W8 0#8), (.int .i64 0), (.int .i64 0), (W8 0#8), (.int .i64 0), (.int .i64 0), (.int .i64 0), (.int .i64 0)] [(0, 1), (1, 9), (10, 1), (11, 1)]) [(0, (W16 16384#16)), (1, v78), (2, (.int .i64 0)), (3, (.int .i64 15))]) H ⟨fun v79 H =>
 w' (z_ac (some 12) (fr 2) v79 H) ⟨fun _ H =>
 e' [(2, fr 2)] H⟩⟩⟩⟩⟩⟩)
@[simp] def r22 (fr : AFr) (H : Hp) : ARes :=
 areg (q' (bn' .eql (fr 13) (.int .i64 12)) H ⟨fun v81 H =>
 e' [(2, fr 2), (3, fr 3), (4, fr 4), (5, fr 5), (6, fr 6), (13, fr 13), (80, v81)] H⟩)
@[simp] def r23 (fr : AFr) (H : Hp) : ARes :=
 areg (q' (z_a3 (.str [(W8 0#8), (.int .i64 0), (.int .i64 0)] [(0, 1), (1, 1), (2, 1)]) [(0, (W8 105#8)), (1, (.int .i64 6)), (2, (.int .i64 5))]) H ⟨fun v82 H =>
 q' (Ld' 3 (fr 4) H) H ⟨fun v83 H =>
 q' (Ld' 3 (fr 3) H) H ⟨fun v84 H =>
 q' (z_a3 (.arr [(W8 0#8), (.int .i64 0), (.int .i64 0), (W8 0#8), (.int .i64 0), (.int .i64 0), (W8 0#8), (.int .i64 0), (.int .i64 0)] 3) [(0, v82), (1, v83), (2, v84)]) H ⟨fun v85 H =>
 q' (z_a3 (.str [(W16 0#16), (W8 0#8), (.int .i64 0), (.int .i64 0), (W8 0#8), (.int .i64 0), (.int .i64 0), (W8 0#8), (.int .i64 0), (.int .i64 0), (.int .i64 0), (.int .i64 0)] [(0, 1), (1, 9), (10, 1), (11, 1)]) [(0, (W16 26624#16)), (1, v85), (2, (.int .i64 0)), (3, (.int .i64 31))]) H ⟨fun v86 H =>
 w' (z_ac (some 12) (fr 2) v86 H) ⟨fun _ H =>
 e' [(2, fr 2)] H⟩⟩⟩⟩⟩⟩)
@[simp] def r24 (fr : AFr) (H : Hp) : ARes :=
 areg (q' (bn' .eql (fr 13) (.int .i64 13)) H ⟨fun v88 H =>
 e' [(2, fr 2), (3, fr 3), (4, fr 4), (5, fr 5), (6, fr 6), (13, fr 13), (87, v88)] H⟩)
@[simp] def r25 (fr : AFr) (H : Hp) : ARes :=
 areg (q' (z_a3 (.str [(W8 0#8), (.int .i64 0), (.int .i64 0)] [(0, 1), (1, 1), (2, 1)]) [(0, (W8 105#8)), (1, (.int .i64 6)), (2, (.int .i64 5))]) H ⟨fun v89 H =>
 q' (Ld' 3 (fr 4) H) H ⟨fun v90 H =>
 q' (Ld' 3 (fr 3) H) H ⟨fun v91 H =>
 q' (z_a3 (.arr [(W8 0#8), (.int .i64 0), (.int .i64 0), (W8 0#8), (.int .i64 0), (.int .i64 0), (W8 0#8), (.int .i64 0), (.int .i64 0)] 3) [(0, v89), (1, v90), (2, v91)]) H ⟨fun v92 H =>
 q' (z_a3 (.str [(W16 0#16), (W8 0#8), (.int .i64 0), (.int .i64 0), (W8 0#8), (.int .i64 0), (.int .i64 0), (W8 0#8), (.int .i64 0), (.int .i64 0), (.int .i64 0), (.int .i64 0)] [(0, 1), (1, 9), (10, 1), (11, 1)]) [(0, (W16 24576#16)), (1, v92), (2, (.int .i64 0)), (3, (.int .i64 31))]) H ⟨fun v93 H =>
 w' (z_ac (some 12) (fr 2) v93 H) ⟨fun _ H =>
 e' [(2, fr 2)] H⟩⟩⟩⟩⟩⟩)
@[simp] def r26 (fr : AFr) (H : Hp) : ARes :=
 areg (q' (bn' .eql (fr 13) (.int .i64 14)) H ⟨fun v95 H =>
 e' [(2, fr 2), (3, fr 3), (4, fr 4), (5, fr 5), (6, fr 6), (13, fr 13), (94, v95)] H⟩)
@[simp] def r27 (fr : AFr) (H : Hp) : ARes :=
 areg (q' (Ld' 3 (fr 5) H) H ⟨fun v96 H =>
 q' (Ld' 3 (fr 4) H) H ⟨fun v97 H =>
 q' (Ld' 3 (fr 3) H) H ⟨fun v98 H =>
 q' (z_a3 (.arr [(W8 0#8), (.int .i64 0), (.int .i64 0), (W8 0#8), (.int .i64 0), (.int .i64 0), (W8 0#8), (.int .i64 0), (.int .i64 0)] 3) [(0, v96), (1, v97), (2, v98)]) H ⟨fun v99 H =>
 q' (z_a3 (.str [(W16 0#16), (W8 0#8), (.int .i64 0), (.int .i64 0), (W8 0#8), (.int .i64 0), (.int .i64 0), (W8 0#8), (.int .i64 0), (.int .i64 0), (.int .i64 0), (.int .i64 0)] [(0, 1), (1, 9), (10, 1), (11, 1)]) [(0, (W16 22528#16)), (1, v99), (2, (.int .i64 0)), (3, (.int .i64 0))]) H ⟨fun v100 H =>
 w' (z_ac (some 12) (fr 2) v100 H) ⟨fun _ H =>
 e' [(2, fr 2)] H⟩⟩⟩⟩⟩⟩)
@[simp] def r28 (fr : AFr) (H : Hp) : ARes :=
 areg (q' (bn' .eql (fr 13) (.int .i64 15)) H ⟨fun v102 H =>
 e' [(2, fr 2), (3, fr 3), (4, fr 4), (5, fr 5), (6, fr 6), (13, fr 13), (101, v102)] H⟩)
@[simp] def r29 (fr : AFr) (H : Hp) : ARes :=
 areg (q' (Ld' 3 (fr 5) H) H ⟨fun v103 H =>
 q' (Ld' 3 (fr 4) H) H ⟨fun v104 H =>
 q' (Ld' 3 (fr 3) H) H ⟨fun v105 H =>
 q' (z_a3 (.arr [(W8 0#8), (.int .i64 0), (.int .i64 0), (W8 0#8), (.int .i64 0), (.int .i64 0), (W8 0#8), (.int .i64 0), (.int .i64 0)] 3) [(0, v103), (1, v104), (2, v105)]) H ⟨fun v106 H =>
 q' (z_a3 (.str [(W16 0#16), (W8 0#8), (.int .i64 0), (.int .i64 0), (W8 0#8), (.int .i64 0), (.int .i64 0), (W8 0#8), (.int .i64 0), (.int .i64 0), (.int .i64 0), (.int .i64 0)] [(0, 1), (1, 9), (10, 1), (11, 1)]) [(0, (W16 20480#16)), (1, v106), (2, (.int .i64 0)), (3, (.int .i64 0))]) H ⟨fun v107 H =>
 w' (z_ac (some 12) (fr 2) v107 H) ⟨fun _ H =>
 e' [(2, fr 2)] H⟩⟩⟩⟩⟩⟩)
@[simp] def r30 (fr : AFr) (H : Hp) : ARes :=
 areg (q' (bn' .eql (fr 13) (.int .i64 16)) H ⟨fun v109 H =>
 e' [(2, fr 2), (6, fr 6), (13, fr 13), (108, v109)] H⟩)
@[simp] def r31 (fr : AFr) (H : Hp) : ARes :=
 areg (q' (z_a3 (.str [(W8 0#8), (.int .i64 0), (.int .i64 0)] [(0, 1), (1, 1), (2, 1)]) [(0, (W8 100#8)), (1, (.int .i64 8)), (2, (.int .i64 3))]) H ⟨fun v110 H =>
 q' (Ld' 3 (fr 6) H) H ⟨fun v111 H =>
 q' (z_a3 (.arr [(W8 0#8), (.int .i64 0), (.int .i64 0), (W8 0#8), (.int .i64 0), (.int .i64 0), (W8 0#8), (.int .i64 0), (.int .i64 0)] 3) [(0, v110), (1, v111)]) H ⟨fun v112 H =>
 q' (z_a3 (.str [(W16 0#16), (W8 0#8), (.int .i64 0), (.int .i64 0), (W8 0#8), (.int .i64 0), (.int .i64 0), (W8 0#8), (.int .i64 0), (.int .i64 0), (.int .i64 0), (.int .i64 0)] [(0, 1), (1, 9), (10, 1), (11, 1)]) [(0, (W16 18432#16)), (1, v112), (2, (.int .i64 0)), (3, (.int .i64 255))]) H ⟨fun v113 H =>
 w' (z_ac (some 12) (fr 2) v113 H) ⟨fun _ H =>
 e' [(2, fr 2)] H⟩⟩⟩⟩⟩)
@[simp] def r32 (fr : AFr) (H : Hp) : ARes :=
 areg (q' (bn' .eql (fr 13) (.int .i64 17)) H ⟨fun v115 H =>
 e' [(2, fr 2), (6, fr 6), (13, fr 13), (114, v115)] H⟩)
@[simp] def r33 (fr : AFr) (H : Hp) : ARes :=
 areg (q' (z_a3 (.str [(W8 0#8), (.int .i64 0), (.int .i64 0)] [(0, 1), (1, 1), (2, 1)]) [(0, (W8 105#8)), (1, (.int .i64 0)), (2, (.int .i64 11))]) H ⟨fun v116 H =>
 q' (z_a3 (.arr [(W8 0#8), (.int .i64 0), (.int .i64 0), (W8 0#8), (.int .i64 0), (.int .i64 0), (W8 0#8), (.int .i64 0), (.int .i64 0)] 3) [(0, v116)]) H ⟨fun v117 H =>
 q' (z_a3 (.str [(W16 0#16), (W8 0#8), (.int .i64 0), (.int .i64 0), (W8 0#8), (.int .i64 0), (.int .i64 0), (W8 0#8), (.int .i64 0), (.int .i64 0), (.int .i64 0), (.int .i64 0)] [(0, 1), (1, 9), (10, 1), (11, 1)]) [(0, (W16 57344#16)), (1, v117), (2, (.int .i64 (-1024))), (3, (.int .i64 1023))]) H ⟨fun v118 H =>
 w' (z_ac (some 12) (fr 2) v118 H) ⟨fun _ H =>
 e' [(2, fr 2)] H⟩⟩⟩⟩)
@[simp] def r34 (fr : AFr) (H : Hp) : ARes :=
 areg (q' (bn' .eql (fr 13) (.int .i64 18)) H ⟨fun v120 H =>
 e' [(2, fr 2), (6, fr 6), (13, fr 13), (119, v120)] H⟩)
@[simp] def r35 (fr : AFr) (H : Hp) : ARes :=
 areg (q' (z_a3 (.str [(W8 0#8), (.int .i64 0), (.int .i64 0)] [(0, 1), (1, 1), (2, 1)]) [(0, (W8 99#8)), (1, (.int .i64 8)), (2, (.int .i64 4))]) H ⟨fun v121 H =>
 q' (Ld' 3 (fr 6) H) H ⟨fun v122 H =>
 q' (z_a3 (.arr [(W8 0#8), (.int .i64 0), (.int .i64 0), (W8 0#8), (.int .i64 0), (.int .i64 0), (W8 0#8), (.int .i64 0), (.int .i64 0)] 3) [(0, v121), (1, v122)]) H ⟨fun v123 H =>
 q' (z_a3 (.str [(W16 0#16), (W8 0#8), (.int .i64 0), (.int .i64 0), (W8 0#8), (.int .i64 0), (.int .i64 0), (W8 0#8), (.int .i64 0), (.int .i64 0), (.int .i64 0), (.int .i64 0)] [(0, 1), (1, 9), (10, 1), (11, 1)]) [(0, (W16 53248#16)), (1, v123), (2, (.int .i64 (-128))), (3, (.int .i64 127))]) H ⟨fun v124 H =>
 w' (z_ac (some 12) (fr 2) v124 H) ⟨fun _ H =>
 e' [(2, fr 2)] H⟩⟩⟩⟩⟩)
@[simp] def r36 (fr : AFr) (H : Hp) : ARes :=
 areg (q' (bn' .eql (fr 13) (.int .i64 19)) H ⟨fun v126 H =>
 e' [(2, fr 2), (6, fr 6), (125, v126)] H⟩)
@[simp] def r37 (fr : AFr) (H : Hp) : ARes :=
 areg (q' (z_a3 (.str [(W16 0#16), (W8 0#8), (.int .i64 0), (.int .i64 0), (W8 0#8), (.int .i64 0), (.int .i64 0), (W8 0#8), (.int .i64 0), (.int .i64 0), (.int .i64 0), (.int .i64 0)] [(0, 1), (1, 9), (10, 1), (11, 1)]) [(0, (W16 48896#16))]) H ⟨fun v127 H =>
 w' (z_ac (some 12) (fr 2) v127 H) ⟨fun _ H =>
 e' [(2, fr 2)] H⟩⟩)
@[simp] def r38 (fr : AFr) (H : Hp) : ARes :=
 areg (q' (Ld' 3 (fr 6) H) H ⟨fun v128 H =>
 q' (z_a3 (.arr [(W8 0#8), (.int .i64 0), (.int .i64 0), (W8 0#8), (.int .i64 0), (.int .i64 0), (W8 0#8), (.int .i64 0), (.int .i64 0)] 3) [(0, v128)]) H ⟨fun v129 H =>
 q' (z_a3 (.str [(W16 0#16), (W8 0#8), (.int .i64 0), (.int .i64 0), (W8 0#8), (.int .i64 0), (.int .i64 0), (W8 0#8), (.int .i64 0), (.int .i64 0), (.int .i64 0), (.int .i64 0)] [(0, 1), (1, 9), (10, 1), (11, 1)]) [(0, (W16 48640#16)), (1, v129), (2, (.int .i64 0)), (3, (.int .i64 255))]) H ⟨fun v130 H =>
 w' (z_ac (some 12) (fr 2) v130 H) ⟨fun _ H =>
 e' [(2, fr 2)] H⟩⟩⟩⟩)
@[simp] def body (fr : AFr) (H : Hp) : ARes :=
 s' (r0 fr H) ⟨fun fr H =>
 s' (r1 fr H) ⟨fun fr H =>
 s' (r2 fr H) ⟨fun fr H =>
 s' (s' (r3 fr H) ⟨fun fr H =>
 aexit 0 (s' (s' (r4 fr H) ⟨fun fr H =>
 c' (fr 14)
 ⟨some (.normal, fr, H)⟩
 ⟨s' (r5 fr H) ⟨fun fr H =>
 c' (fr 14)
 ⟨some (.normal, fr, H)⟩
 ⟨s' (r6 fr H) ⟨fun fr H =>
 c' (fr 14)
 ⟨some (.normal, fr, H)⟩
 ⟨r7 fr H⟩⟩⟩⟩⟩⟩) ⟨fun fr H =>
 c' (fr 14)
 ⟨s' (r8 fr H) ⟨fun fr H =>
 some (.ret, fr, H)⟩⟩
 ⟨s' (r9 fr H) ⟨fun fr H =>
 c' (fr 28)
 ⟨s' (r10 fr H) ⟨fun fr H =>
 some (.ret, fr, H)⟩⟩
 ⟨s' (s' (r11 fr H) ⟨fun fr H =>
 c' (fr 35)
 ⟨some (.normal, fr, H)⟩
 ⟨r12 fr H⟩⟩) ⟨fun fr H =>
 c' (fr 35)
 ⟨s' (r13 fr H) ⟨fun fr H =>
 some (.ret, fr, H)⟩⟩
 ⟨s' (s' (r14 fr H) ⟨fun fr H =>
 c' (fr 47)
 ⟨some (.normal, fr, H)⟩
 ⟨r15 fr H⟩⟩) ⟨fun fr H =>
 c' (fr 47)
 ⟨s' (r16 fr H) ⟨fun fr H =>
 some (.ret, fr, H)⟩⟩
 ⟨s' (s' (r17 fr H) ⟨fun fr H =>
 c' (fr 60)
 ⟨some (.normal, fr, H)⟩
 ⟨r18 fr H⟩⟩) ⟨fun fr H =>
 c' (fr 60)
 ⟨s' (r19 fr H) ⟨fun fr H =>
 some (.ret, fr, H)⟩⟩
 ⟨s' (r20 fr H) ⟨fun fr H =>
 c' (fr 73)
 ⟨s' (r21 fr H) ⟨fun fr H =>
 some (.ret, fr, H)⟩⟩
 ⟨s' (r22 fr H) ⟨fun fr H =>
 c' (fr 80)
 ⟨s' (r23 fr H) ⟨fun fr H =>
 some (.ret, fr, H)⟩⟩
 ⟨s' (r24 fr H) ⟨fun fr H =>
 c' (fr 87)
 ⟨s' (r25 fr H) ⟨fun fr H =>
 some (.ret, fr, H)⟩⟩
 ⟨s' (r26 fr H) ⟨fun fr H =>
 c' (fr 94)
 ⟨s' (r27 fr H) ⟨fun fr H =>
 some (.ret, fr, H)⟩⟩
 ⟨s' (r28 fr H) ⟨fun fr H =>
 c' (fr 101)
 ⟨s' (r29 fr H) ⟨fun fr H =>
 some (.ret, fr, H)⟩⟩
 ⟨s' (r30 fr H) ⟨fun fr H =>
 c' (fr 108)
 ⟨s' (r31 fr H) ⟨fun fr H =>
 some (.ret, fr, H)⟩⟩
 ⟨s' (r32 fr H) ⟨fun fr H =>
 c' (fr 114)
 ⟨s' (r33 fr H) ⟨fun fr H =>
 some (.ret, fr, H)⟩⟩
 ⟨s' (r34 fr H) ⟨fun fr H =>
 c' (fr 119)
 ⟨s' (r35 fr H) ⟨fun fr H =>
 some (.ret, fr, H)⟩⟩
 ⟨s' (r36 fr H) ⟨fun fr H =>
 c' (fr 125)
 ⟨s' (r37 fr H) ⟨fun fr H =>
 some (.ret, fr, H)⟩⟩
 ⟨some (.normal, fr, H)⟩⟩⟩⟩⟩⟩⟩⟩⟩⟩⟩⟩⟩⟩⟩⟩⟩⟩⟩⟩⟩⟩⟩⟩⟩⟩⟩⟩)⟩) ⟨fun fr H =>
 s' (r38 fr H) ⟨fun fr H =>
 some (.ret, fr, H)⟩⟩⟩⟩⟩
@[simp] def res (fr : AFr) (H : Hp) : Option (List AV) := res2 (z_am (some (some 12)) (fr 2) H) (some [])
end z_ab
def z_ab (a0 : AV) : Option AV := z_ap (some [[none, none, none, none, none, none, none, none, none, none, none, none]]) (afinR z_ab.res (z_ab.body (args0 [a0]) Hp.empty))
def z_ab.spec : List AV → Option AV
 | [a0] => z_ab a0
 | _ => none
namespace z_a5
def C : Tab := Tab.none
@[simp] def r0 (fr : AFr) (H : Hp) : ARes :=
 areg (e' [(0, fr 0), (1, fr 1)] H)
@[simp] def r1 (fr : AFr) (H : Hp) : ARes :=
 areg (e' [(0, fr 0), (5, (fr 1))] H)
@[simp] def r2 (fr : AFr) (H : Hp) : ARes :=
 areg (q' (bn' .eql (fr 5) (W8 100#8)) H ⟨fun v7 H =>
 e' [(0, fr 0), (5, fr 5), (6, v7)] H⟩)
@[simp] def r3 (fr : AFr) (H : Hp) : ARes :=
 areg (q' (bn' .eql (fr 5) (W8 99#8)) H ⟨fun v8 H =>
 e' [(0, fr 0), (5, fr 5), (6, v8)] H⟩)
@[simp] def r4 (fr : AFr) (H : Hp) : ARes :=
 areg (q' (anil (fr 0)) H ⟨fun v10 H =>
 q' (fa' 1 v10) H ⟨fun v11 H =>
 e' [(4, v11)] H⟩⟩)
@[simp] def r5 (fr : AFr) (H : Hp) : ARes :=
 areg (q' (bn' .eql (fr 5) (W8 110#8)) H ⟨fun v13 H =>
 e' [(0, fr 0), (5, fr 5), (12, v13)] H⟩)
@[simp] def r6 (fr : AFr) (H : Hp) : ARes :=
 areg (q' (anil (fr 0)) H ⟨fun v15 H =>
 q' (fa' 2 v15) H ⟨fun v16 H =>
 e' [(4, v16)] H⟩⟩)
@[simp] def r7 (fr : AFr) (H : Hp) : ARes :=
 areg (q' (bn' .eql (fr 5) (W8 109#8)) H ⟨fun v18 H =>
 e' [(0, fr 0), (17, v18)] H⟩)
@[simp] def r8 (fr : AFr) (H : Hp) : ARes :=
 areg (q' (anil (fr 0)) H ⟨fun v20 H =>
 q' (fa' 3 v20) H ⟨fun v21 H =>
 e' [(4, v21)] H⟩⟩)
@[simp] def r9 (fr : AFr) (H : Hp) : ARes :=
 areg (q' (anil (fr 0)) H ⟨fun v23 H =>
 q' (fa' 4 v23) H ⟨fun v24 H =>
 e' [(4, v24)] H⟩⟩)
@[simp] def body (fr : AFr) (H : Hp) : ARes :=
 s' (r0 fr H) ⟨fun fr H =>
 s' (s' (r1 fr H) ⟨fun fr H =>
 aexit 0 (s' (s' (r2 fr H) ⟨fun fr H =>
 c' (fr 6)
 ⟨some (.normal, fr, H)⟩
 ⟨r3 fr H⟩⟩) ⟨fun fr H =>
 c' (fr 6)
 ⟨s' (r4 fr H) ⟨fun fr H =>
 some (.ret, fr, H)⟩⟩
 ⟨s' (r5 fr H) ⟨fun fr H =>
 c' (fr 12)
 ⟨s' (r6 fr H) ⟨fun fr H =>
 some (.ret, fr, H)⟩⟩
 ⟨s' (r7 fr H) ⟨fun fr H =>
 c' (fr 17)
 ⟨s' (r8 fr H) ⟨fun fr H =>
 some (.ret, fr, H)⟩⟩
 ⟨some (.normal, fr, H)⟩⟩⟩⟩⟩⟩)⟩) ⟨fun fr H =>
 s' (r9 fr H) ⟨fun fr H =>
 some (.ret, fr, H)⟩⟩⟩
@[simp] def res (fr : AFr) (H : Hp) : Option (List AV) := res2 (some (fr 4)) (some [])
end z_a5
def z_a5 (a0 a1 : AV) (H : Hp) : Option (AV × Hp) := raw (afinR z_a5.res (z_a5.body (args0 [a0, a1]) H))
def z_a5.spec : List AV → Hp → Option (AV × Hp)
 | [a0, a1], H => z_a5 a0 a1 H
 | _, _ => none
namespace z_af
def C (s0 : SpecP) (s1 : SpecM) : Tab := ((Tab.none.add 65 (.pure false s0)).add 66 (.ref [false, false] s1))
@[simp] def r0 (fr : AFr) (H : Hp) : ARes :=
 areg (o' (abox T.ty_api_Ins (fr 0) H) ⟨fun v1 H =>
 e' [(1, v1)] H⟩)
@[simp] def r1 (fr : AFr) (H : Hp) : ARes :=
 areg (q' (fa' 0 (fr 1)) H ⟨fun v8 H =>
 q' (ld' v8 H) H ⟨fun v9 H =>
 q' (bn' .lss v9 (.int .i64 0)) H ⟨fun v10 H =>
 G' v10 false ⟨fa' 0 (fr 1)⟩ H ⟨fun v12 H =>
 G' v10 false ⟨ld' v12 H⟩ H ⟨fun v13 H =>
 G' v10 false ⟨bn' .geq v13 (.int .i64 21)⟩ H ⟨fun v14 H =>
 q' (apick v10 (.bool true) v14) H ⟨fun v15 H =>
 e' [(1, fr 1), (15, v15)] H⟩⟩⟩⟩⟩⟩⟩)
@[simp] def r2 (fr : AFr) (H : Hp) : ARes :=
 areg (e' [(2, (.bool false))] H)
@[simp] def r3 (s0 : SpecP) (fr : AFr) (H : Hp) : ARes :=
 areg (q' (fa' 0 (fr 1)) H ⟨fun v16 H =>
 q' (ld' v16 H) H ⟨fun v17 H =>
 o' (callP false s0 [[none]] [v17] H) ⟨fun v18 H =>
 o' (z_bo T.ty_thumb_shape (some (.agg [(W16 0#16), (W8 0#8), (.int .i64 0), (.int .i64 0), (W8 0#8), (.int .i64 0), (.int .i64 0), (W8 0#8), (.int .i64 0), (.int .i64 0), (.int .i64 0), (.int .i64 0)])) H) ⟨fun v3 H =>
 w' (z_ac (some 12) v3 v18 H) ⟨fun _ H =>
 e' [(1, fr 1), (3, v3)] H⟩⟩⟩⟩⟩)
@[simp] def r4 (fr : AFr) (H : Hp) : ARes :=
 areg (q' (fa' 4 (fr 1)) H ⟨fun v19 H =>
 q' (ld' v19 H) H ⟨fun v20 H =>
 q' (fa' 10 (fr 3)) H ⟨fun v21 H =>
 q' (ld' v21 H) H ⟨fun v22 H =>
 q' (bn' .lss v20 v22) H ⟨fun v23 H =>
 G' v23 false ⟨fa' 4 (fr 1)⟩ H ⟨fun v25 H =>
 G' v23 false ⟨ld' v25 H⟩ H ⟨fun v26 H =>
 G' v23 false ⟨fa' 11 (fr 3)⟩ H ⟨fun v27 H =>
 G' v23 false ⟨ld' v27 H⟩ H ⟨fun v28 H =>
 G' v23 false ⟨bn' .gtr v26 v28⟩ H ⟨fun v29 H =>
 q' (apick v23 (.bool true) v29) H ⟨fun v30 H =>
 e' [(1, fr 1), (3, fr 3), (30, v30)] H⟩⟩⟩⟩⟩⟩⟩⟩⟩⟩⟩)
@[simp] def r5 (fr : AFr) (H : Hp) : ARes :=
 areg (e' [(2, (.bool false))] H)
@[simp] def r6 (fr : AFr) (H : Hp) : ARes :=
 areg (q' (Ld' 5 (fr 1) H) H ⟨fun v31 H =>
 o' (z_bo T.ty_api_Ins (some (.agg [(.int .i64 0), (.int .i64 0), (.int .i64 0), (.int .i64 0), (.int .i64 0)])) H) ⟨fun v4 H =>
 w' (z_ac (some 5) v4 v31 H) ⟨fun _ H =>
 e' [(1, fr 1), (3, fr 3), (4, v4)] H⟩⟩⟩)
@[simp] def r7 (fr : AFr) (H : Hp) : ARes :=
 areg (q' (fa' 1 (fr 3)) H ⟨fun v32 H =>
 q' (Ld' 9 v32 H) H ⟨fun v33 H =>
 e' [(1, fr 1), (4, fr 4), (33, v33), (34, (.int .i64 0))] H⟩⟩)
@[simp] def r8 (fr : AFr) (H : Hp) : ARes :=
 areg (q' (bn' .lss (fr 34) (.int .i64 3)) H ⟨fun v35 H =>
 e' [(1, fr 1), (4, fr 4), (33, fr 33), (34, fr 34), (35, v35)] H⟩)
@[simp] def r9 (fr : AFr) (H : Hp) : ARes :=
 areg (q' (z_fn (.arr 3 3 (some (some 3))) (fr 33) (fr 34)) H ⟨fun v36 H =>
 o' (z_bo T.ty_thumb_part (some (.agg [(W8 0#8), (.int .i64 0), (.int .i64 0)])) H) ⟨fun v6 H =>
 w' (z_ac (some 3) v6 v36 H) ⟨fun _ H =>
 e' [(1, fr 1), (4, fr 4), (6, v6), (33, fr 33), (34, fr 34)] H⟩⟩⟩)
@[simp] def r10 (s1 : SpecM) (fr : AFr) (H : Hp) : ARes :=
 areg (q' (fa' 0 (fr 6)) H ⟨fun v37 H =>
 q' (ld' v37 H) H ⟨fun v38 H =>
 o' (callM [false, false] s1 [[none], [none]] [(fr 1), v38] H) ⟨fun v39 H =>
 q' (anil v39) H ⟨fun v40 H =>
 q' (ld' v40 H) H ⟨fun v41 H =>
 e' [(1, fr 1), (4, fr 4), (6, fr 6), (7, v41), (33, fr 33), (34, fr 34)] H⟩⟩⟩⟩⟩)
@[simp] def r11 (fr : AFr) (H : Hp) : ARes :=
 areg (q' (fa' 2 (fr 6)) H ⟨fun v43 H =>
 q' (ld' v43 H) H ⟨fun v44 H =>
 q' (bn' .eql v44 (.int .i64 0)) H ⟨fun v45 H =>
 e' [(1, fr 1), (4, fr 4), (6, fr 6), (7, fr 7), (33, fr 33), (34, fr 34), (42, v45)] H⟩⟩⟩)
@[simp] def r12 (fr : AFr) (H : Hp) : ARes :=
 areg (q' (fa' 0 (fr 6)) H ⟨fun v47 H =>
 q' (ld' v47 H) H ⟨fun v48 H =>
 q' (bn' .eql v48 (W8 99#8)) H ⟨fun v49 H =>
 G' v49 true ⟨some (fr 7)⟩ H ⟨fun v51 H =>
 G' v49 true ⟨bn' .lss v51 (.int .i64 0)⟩ H ⟨fun v52 H =>
 G' v49 true ⟨some v52⟩ H ⟨fun v53 H =>
 G' v53 false ⟨some (fr 7)⟩ H ⟨fun v54 H =>
 G' v53 false ⟨bn' .gtr v54 (.int .i64 13)⟩ H ⟨fun v55 H =>
 G' v49 true ⟨apick v53 (.bool true) v55⟩ H ⟨fun v56 H =>
 q' (apick v49 v56 (.bool false)) H ⟨fun v57 H =>
 e' [(1, fr 1), (4, fr 4), (6, fr 6), (7, fr 7), (33, fr 33), (34, fr 34), (46, v57)] H⟩⟩⟩⟩⟩⟩⟩⟩⟩⟩)
@[simp] def r13 (fr : AFr) (H : Hp) : ARes :=
 areg (q' (fa' 0 (fr 6)) H ⟨fun v58 H =>
 q' (ld' v58 H) H ⟨fun v59 H =>
 q' (bn' .neq v59 (W8 99#8)) H ⟨fun v60 H =>
 G' v60 true ⟨fa' 0 (fr 6)⟩ H ⟨fun v62 H =>
 G' v60 true ⟨ld' v62 H⟩ H ⟨fun v63 H =>
 G' v60 true ⟨bn' .neq v63 (W8 105#8)⟩ H ⟨fun v64 H =>
 q' (apick v60 v64 (.bool false)) H ⟨fun v65 H =>
 G' v65 true ⟨some (fr 7)⟩ H ⟨fun v67 H =>
 G' v65 true ⟨bn' .lss v67 (.int .i64 0)⟩ H ⟨fun v68 H =>
 G' v65 true ⟨some v68⟩ H ⟨fun v69 H =>
 G' v69 false ⟨some (fr 7)⟩ H ⟨fun v70 H =>
 G' v69 false ⟨bn' .geq v70 (.int .i64 8)⟩ H ⟨fun v71 H =>
 G' v65 true ⟨apick v69 (.bool true) v71⟩ H ⟨fun v72 H =>
 q' (apick v65 v72 (.bool false)) H ⟨fun v73 H =>
 e' [(1, fr 1), (4, fr 4), (6, fr 6), (33, fr 33), (34, fr 34), (46, v73)] H⟩⟩⟩⟩⟩⟩⟩⟩⟩⟩⟩⟩⟩⟩)
@[simp] def r14 (fr : AFr) (H : Hp) : ARes :=
 areg (e' [(2, (.bool false))] H)
@[simp] def r15 (s1 : SpecM) (fr : AFr) (H : Hp) : ARes :=
 areg (q' (fa' 0 (fr 6)) H ⟨fun v74 H =>
 q' (ld' v74 H) H ⟨fun v75 H =>
 o' (callM [false, false] s1 [[none], [none]] [(fr 4), v75] H) ⟨fun v76 H =>
 q' (anil v76) H ⟨fun v77 H =>
 w' (z_ac (some 1) v77 (.int .i64 0) H) ⟨fun _ H =>
 e' [(1, fr 1), (4, fr 4), (33, fr 33), (34, fr 34)] H⟩⟩⟩⟩⟩)
@[simp] def r16 (fr : AFr) (H : Hp) : ARes :=
 areg (q' (bn' .add (fr 34) (.int .i64 1)) H ⟨fun v78 H =>
 e' [(1, fr 1), (4, fr 4), (33, fr 33), (34, v78)] H⟩)
@[simp] def r17 (fr : AFr) (H : Hp) : ARes :=
 areg (q' (Ld' 5 (fr 4) H) H ⟨fun v79 H =>
 q' (fa' 0 (fr 1)) H ⟨fun v80 H =>
 q' (ld' v80 H) H ⟨fun v81 H =>
 q' (z_a3 (.str [(.int .i64 0), (.int .i64 0), (.int .i64 0), (.int .i64 0), (.int .i64 0)] [(0, 1), (1, 1), (2, 1), (3, 1), (4, 1)]) [(0, v81)]) H ⟨fun v82 H =>
 q' (abinR (.c [.i, .i, .i, .i, .i]) .eql v79 v82) H ⟨fun v83 H =>
 e' [(2, v83)] H⟩⟩⟩⟩⟩)
def l0 (s0 : SpecP) (s1 : SpecM) (fr : AFr) (H : Hp) : ARes :=
 s' (r8 fr H) ⟨fun fr H =>
 s' (c' (fr 35)
 ⟨some (.normal, fr, H)⟩
 ⟨some (.exit 0, fr, H)⟩) ⟨fun fr H =>
 s' (aexit 1 (s' (r9 fr H) ⟨fun fr H =>
 s' (r10 s1 fr H) ⟨fun fr H =>
 s' (aexit 2 (s' (r11 fr H) ⟨fun fr H =>
 c' (fr 42)
 ⟨some (.exit 1, fr, H)⟩
 ⟨s' (s' (r12 fr H) ⟨fun fr H =>
 c' (fr 46)
 ⟨some (.normal, fr, H)⟩
 ⟨r13 fr H⟩⟩) ⟨fun fr H =>
 c' (fr 46)
 ⟨s' (r14 fr H) ⟨fun fr H =>
 some (.ret, fr, H)⟩⟩
 ⟨some (.normal, fr, H)⟩⟩⟩⟩)) ⟨fun fr H =>
 r15 s1 fr H⟩⟩⟩)) ⟨fun fr H =>
 r16 fr H⟩⟩⟩
@[simp] def body (s0 : SpecP) (s1 : SpecM) (fr : AFr) (H : Hp) : ARes :=
 s' (r0 fr H) ⟨fun fr H =>
 s' (s' (r1 fr H) ⟨fun fr H =>
 c' (fr 15)
 ⟨s' (r2 fr H) ⟨fun fr H =>
 some (.ret, fr, H)⟩⟩
 ⟨some (.normal, fr, H)⟩⟩) ⟨fun fr H =>
 s' (r3 s0 fr H) ⟨fun fr H =>
 s' (s' (r4 fr H) ⟨fun fr H =>
 c' (fr 30)
 ⟨s' (r5 fr H) ⟨fun fr H =>
 some (.ret, fr, H)⟩⟩
 ⟨some (.normal, fr, H)⟩⟩) ⟨fun fr H =>
 s' (r6 fr H) ⟨fun fr H =>
 s' (s' (r7 fr H) ⟨fun fr H =>
 aexit 0 (aloop (l0 s0 s1) fr H)⟩) ⟨fun fr H =>
 s' (r17 fr H) ⟨fun fr H =>
 some (.ret, fr, H)⟩⟩⟩⟩⟩⟩⟩
@[simp] def res (fr : AFr) (H : Hp) : Option (List AV) := res2 (some (fr 2)) (some [])
end z_af
def z_af (a0 : AV) : Option AV := z_ap (some [[none]]) (afinR z_af.res (z_af.body z_ab.spec z_a5.spec (args0 [a0]) Hp.empty))
def z_af.spec : List AV → Option AV
 | [a0] => z_af a0
 | _ => none
namespace z_ag
def C (s0 : SpecP) (s1 : SpecM) : Tab := ((Tab.none.add 65 (.pure false s0)).add 66 (.ref [false, false] s1))
@[simp] def r0 (fr : AFr) (H : Hp) : ARes :=
 areg (o' (abox T.ty_api_Ins (fr 0) H) ⟨fun v1 H =>
 e' [(1, v1)] H⟩)
@[simp] def r1 (s0 : SpecP) (fr : AFr) (H : Hp) : ARes :=
 areg (q' (fa' 0 (fr 1)) H ⟨fun v7 H =>
 q' (ld' v7 H) H ⟨fun v8 H =>
 o' (callP false s0 [[none]] [v8] H) ⟨fun v9 H =>
 o' (z_bo T.ty_thumb_shape (some (.agg [(W16 0#16), (W8 0#8), (.int .i64 0), (.int .i64 0), (W8 0#8), (.int .i64 0), (.int .i64 0), (W8 0#8), (.int .i64 0), (.int .i64 0), (.int .i64 0), (.int .i64 0)])) H) ⟨fun v3 H =>
 w' (z_ac (some 12) v3 v9 H) ⟨fun _ H =>
 e' [(1, fr 1), (3, v3)] H⟩⟩⟩⟩⟩)
@[simp] def r2 (fr : AFr) (H : Hp) : ARes :=
 areg (q' (fa' 0 (fr 3)) H ⟨fun v10 H =>
 q' (ld' v10 H) H ⟨fun v11 H =>
 e' [(1, fr 1), (3, fr 3), (4, v11)] H⟩⟩)
@[simp] def r3 (fr : AFr) (H : Hp) : ARes :=
 areg (q' (fa' 1 (fr 3)) H ⟨fun v12 H =>
 q' (Ld' 9 v12 H) H ⟨fun v13 H =>
 e' [(1, fr 1), (4, fr 4), (13, v13), (14, (.int .i64 0))] H⟩⟩)
@[simp] def r4 (fr : AFr) (H : Hp) : ARes :=
 areg (q' (bn' .lss (fr 14) (.int .i64 3)) H ⟨fun v15 H =>
 e' [(1, fr 1), (4, fr 4), (13, fr 13), (14, fr 14), (15, v15)] H⟩)
@[simp] def r5 (fr : AFr) (H : Hp) : ARes :=
 areg (q' (z_fn (.arr 3 3 (some (some 3))) (fr 13) (fr 14)) H ⟨fun v16 H =>
 o' (z_bo T.ty_thumb_part (some (.agg [(W8 0#8), (.int .i64 0), (.int .i64 0)])) H) ⟨fun v6 H =>
 w' (z_ac (some 3) v6 v16 H) ⟨fun _ H =>
 e' [(1, fr 1), (4, fr 4), (6, v6), (13, fr 13), (14, fr 14)] H⟩⟩⟩)
@[simp] def r6 (fr : AFr) (H : Hp) : ARes :=
 areg (q' (fa' 2 (fr 6)) H ⟨fun v17 H =>
 q' (ld' v17 H) H ⟨fun v18 H =>
 q' (bn' .gtr v18 (.int .i64 0)) H ⟨fun v19 H =>
 e' [(1, fr 1), (4, fr 4), (6, fr 6), (13, fr 13), (14, fr 14), (19, v19)] H⟩⟩⟩)
@[simp] def r7 (s1 : SpecM) (fr : AFr) (H : Hp) : ARes :=
 areg (q' (some (fr 4)) H ⟨fun v20 H1 =>
 q' (fa' 0 (fr 6)) H1 ⟨fun v21 H2 =>
 q' (ld' v21 H2) H2 ⟨fun v22 H3 =>
 o' (san H3 (callM [false, false] s1 [[none], [none]] [(fr 1), v22] H3)) ⟨fun v23 H4 =>
 q' (anil v23) H4 ⟨fun v24 H5 =>
 q' (ld' v24 H5) H5 ⟨fun v25 H6 =>
 q' (fa' 2 (fr 6)) H6 ⟨fun v26 H7 =>
 q' (ld' v26 H7) H7 ⟨fun v27 H8 =>
 q' (bn' .shl (.int .i64 1) v27) H8 ⟨fun v28 H9 =>
 q' (bn' .sub v28 (.int .i64 1)) H9 ⟨fun v29 H10 =>
 q' (bn' .and v25 v29) H10 ⟨fun v30 H11 =>
 q' (z_du (some .u16) v30) H11 ⟨fun v31 H12 =>
 q' (fa' 1 (fr 6)) H12 ⟨fun v32 H13 =>
 q' (ld' v32 H13) H13 ⟨fun v33 H14 =>
 q' (bn' .shl v31 v33) H14 ⟨fun v34 H15 =>
 q' (bn' .or v20 v34) H15 ⟨fun v35 H16 =>
 q' (some v35) H16 ⟨fun v4 H17 =>
 z_bw [z_am (some none) v26 H3 = z_am (some none) v26 H4, z_am (some none) v32 H3 = z_am (some none) v32 H4] (e' [(1, fr 1), (4, v4), (13, fr 13), (14, fr 14)] H17)⟩⟩⟩⟩⟩⟩⟩⟩⟩⟩⟩⟩⟩⟩⟩⟩⟩)
@[simp] def r8 (fr : AFr) (H : Hp) : ARes :=
 areg (q' (bn' .add (fr 14) (.int .i64 1)) H ⟨fun v36 H =>
 e' [(1, fr 1), (4, fr 4), (13, fr 13), (14, v36)] H⟩)
@[simp] def r9 (fr : AFr) (H : Hp) : ARes :=
 areg (e' [(2, (fr 4))] H)
def l0 (s0 : SpecP) (s1 : SpecM) (fr : AFr) (H : Hp) : ARes :=
 s' (r4 fr H) ⟨fun fr H =>
 s' (c' (fr 15)
 ⟨some (.normal, fr, H)⟩
 ⟨some (.exit 0, fr, H)⟩) ⟨fun fr H =>
 s' (aexit 1 (s' (r5 fr H) ⟨fun fr H =>
 s' (r6 fr H) ⟨fun fr H =>
 c' (fr 19)
 ⟨r7 s1 fr H⟩
 ⟨some (.normal, fr, H)⟩⟩⟩)) ⟨fun fr H =>
 r8 fr H⟩⟩⟩
@[simp] def body (s0 : SpecP) (s1 : SpecM) (fr : AFr) (H : Hp) : ARes :=
 s' (r0 fr H) ⟨fun fr H =>
 s' (r1 s0 fr H) ⟨fun fr H =>
 s' (r2 fr H) ⟨fun fr H =>
 s' (s' (r3 fr H) ⟨fun fr H =>
 aexit 0 (aloop (l0 s0 s1) fr H)⟩) ⟨fun fr H =>
 s' (r9 fr H) ⟨fun fr H =>
 some (.ret, fr, H)⟩⟩⟩⟩⟩
@[simp] def res (fr : AFr) (H : Hp) : Option (List AV) := res2 (some (fr 2)) (some [])
end z_ag
def z_ag (a0 : AV) : Option AV := z_ap (some [[none]]) (afinR z_ag.res (z_ag.body z_ab.spec z_a5.spec (args0 [a0]) Hp.empty))
def z_ag.spec : List AV → Option AV
 | [a0] => z_ag a0
 | _ => none
namespace z_dd
def C (s0 s1 : SpecP) : Tab := ((Tab.none.add 59 (.pure false s0)).add 67 (.pure false s1))
@[simp] def r0 (fr : AFr) (H : Hp) : ARes :=
 areg (o' (abox T.ty_api_Ins (fr 0) H) ⟨fun v1 H =>
 e' [(1, v1)] H⟩)
@[simp] def r1 (s0 : SpecP) (fr : AFr) (H : Hp) : ARes :=
 areg (q' (Ld' 5 (fr 1) H) H ⟨fun v4 H =>
 o' (callP false s0 [[none, none, none, none, none]] [v4] H) ⟨fun v5 H =>
 q' (aun .not v5) H ⟨fun v6 H =>
 e' [(1, fr 1), (6, v6)] H⟩⟩⟩)
@[simp] def r2 (fr : AFr) (H : Hp) : ARes :=
 areg (e' [(2, (W16 0#16)), (3, (.int .i64 1))] H)
@[simp] def r3 (s1 : SpecP) (fr : AFr) (H : Hp) : ARes :=
 areg (q' (Ld' 5 (fr 1) H) H ⟨fun v7 H =>
 o' (callP false s1 [[none, none, none, none, none]] [v7] H) ⟨fun v8 H =>
 e' [(2, v8), (3, (.int .i64 0))] H⟩⟩)
@[simp] def body (s0 s1 : SpecP) (fr : AFr) (H : Hp) : ARes :=
 s' (r0 fr H) ⟨fun fr H =>
 s' (s' (r1 s0 fr H) ⟨fun fr H =>
 c' (fr 6)
 ⟨s' (r2 fr H) ⟨fun fr H =>
 some (.ret, fr, H)⟩⟩
 ⟨some (.normal, fr, H)⟩⟩) ⟨fun fr H =>
 s' (r3 s1 fr H) ⟨fun fr H =>
 some (.ret, fr, H)⟩⟩⟩
@[simp] def res (fr : AFr) (H : Hp) : Option (List AV) := res2 (some (fr 2)) (res2 (some (fr 3)) (some []))
end z_dd
def z_dd (a0 : AV) : Option AV := z_ap (some [[none], [none]]) (afinR z_dd.res (z_dd.body z_af.spec z_ag.spec (args0 [a0]) Hp.empty))
def z_dd.spec : List AV → Option AV
 | [a0] => z_dd a0
 | _ => none
end
end Go.Abs
end
section
namespace Go.Abs
noncomputable section
namespace z_ax
def C : Tab := Tab.none
@[simp] def r0 (fr : AFr) (H : Hp) : ARes :=
 areg (e' [(0, fr 0)] H)
@[simp] def r1 (fr : AFr) (H : Hp) : ARes :=
 areg (o' (z_ae (some ⟨T.ty_string, 1, 16, [(.str (bs []))]⟩) 21 [(0, (.str (bs [48, 48, 49, 48, 48, 100, 100, 100, 105, 105, 105, 105, 105, 105, 105, 105]))), (1, (.str (bs [48, 48, 49, 48, 49, 100, 100, 100, 105, 105, 105, 105, 105, 105, 105, 105]))), (2, (.str (bs [48, 48, 49, 49, 48, 100, 100, 100, 105, 105, 105, 105, 105, 105, 105, 105]))), (3, (.str (bs [48, 48, 49, 49, 49, 100, 100, 100, 105, 105, 105, 105, 105, 105, 105, 105]))), (4, (.str (bs [48, 48, 48, 48, 48, 105, 105, 105, 105, 105, 109, 109, 109, 100, 100, 100]))), (5, (.str (bs [48, 48, 48, 48, 49, 105, 105, 105, 105, 105, 109, 109, 109, 100, 100, 100]))), (6, (.str (bs [48, 48, 48, 49, 48, 105, 105, 105, 105, 105, 109, 109, 109, 100, 100, 100]))), (7, (.str (bs [48, 48, 48, 49, 49, 48, 48, 109, 109, 109, 110, 110, 110, 100, 100, 100]))), (8, (.str (bs [48, 48, 48, 49, 49, 48, 49, 109, 109, 109, 110, 110, 110, 100, 100, 100]))), (9, (.str (bs [48, 48, 48, 49, 49, 49, 48, 105, 105, 105, 110, 110, 110, 100, 100, 100]))), (10, (.str (bs [48, 48, 48, 49, 49, 49, 49, 105, 105, 105, 110, 110, 110, 100, 100, 100]))), (11, (.str (bs [48, 49, 48, 48, 48, 48, 105, 105, 105, 105, 109, 109, 109, 100, 100, 100]))), (12, (.str (bs [48, 49, 49, 48, 49, 105, 105, 105, 105, 105, 110, 110, 110, 100, 100, 100]))), (13, (.str (bs [48, 49, 49, 48, 48, 105, 105, 105, 105, 105, 110, 110, 110, 100, 100, 100]))), (14, (.str (bs [48, 49, 48, 49, 49, 48, 48, 109, 109, 109, 110, 110, 110, 100, 100, 100]))), (15, (.str (bs [48, 49, 48, 49, 48, 48, 48, 109, 109, 109, 110, 110, 110, 100, 100, 100]))), (16, (.str (bs [48, 49, 48, 48, 49, 100, 100, 100, 105, 105, 105, 105, 105, 105, 105, 105]))), (17, (.str (bs [49, 49, 49, 48, 48, 105, 105, 105, 105, 105, 105, 105, 105, 105, 105, 105]))), (18, (.str (bs [49, 49, 48, 49, 99, 99, 99, 99, 105, 105, 105, 105, 105, 105, 105, 105]))), (19, (.str (bs [49, 48, 49, 49, 49, 49, 49, 49, 48, 48, 48, 48, 48, 48, 48, 48]))), (20, (.str (bs [49, 48, 49, 49, 49, 49, 49, 48, 105, 105, 105, 105, 105, 105, 105, 105])))] H) ⟨fun v3 H =>
 q' (z_aa (.sl 1) v3 (fr 0)) H ⟨fun v5 H =>
 q' (ld' v5 H) H ⟨fun v6 H =>
 e' [(2, v6)] H⟩⟩⟩)
@[simp] def body (fr : AFr) (H : Hp) : ARes :=
 s' (r0 fr H) ⟨fun fr H =>
 s' (r1 fr H) ⟨fun fr H =>
 some (.ret, fr, H)⟩⟩
@[simp] def res (fr : AFr) (H : Hp) : Option (List AV) := res2 (some (fr 2)) (some [])
end z_ax
def z_ax (a0 : AV) : Option AV := z_ap (some [[none]]) (afinR z_ax.res (z_ax.body (args0 [a0]) Hp.empty))
def z_ax.spec : List AV → Option AV
 | [a0] => z_ax a0
 | _ => none
namespace z_cw
def C : Tab := Tab.none
@[simp] def r0 (fr : AFr) (H : Hp) : ARes :=
 areg (e' [(0, fr 0), (1, fr 1)] H)
@[simp] def r1 (fr : AFr) (H : Hp) : ARes :=
 areg (e' [(0, fr 0), (1, fr 1), (5, (.int .i64 0))] H)
@[simp] def r2 (fr : AFr) (H : Hp) : ARes :=
 areg (q' (alenR .str (fr 0)) H ⟨fun v8 H =>
 q' (bn' .lss (fr 5) v8) H ⟨fun v9 H =>
 e' [(0, fr 0), (1, fr 1), (5, fr 5), (9, v9)] H⟩⟩)
@[simp] def r4 (fr : AFr) (H : Hp) : ARes :=
 areg (q' (z_fn .str (fr 0) (fr 5)) H ⟨fun v14 H =>
 q' (bn' .eql v14 (fr 1)) H ⟨fun v16 H =>
 e' [(0, fr 0), (1, fr 1), (5, fr 5), (16, v16)] H⟩⟩)
@[simp] def r5 (fr : AFr) (H : Hp) : ARes :=
 areg (e' [(4, (.bool true))] H)
@[simp] def r3 (fr : AFr) (H : Hp) : ARes :=
 areg (q' (bn' .add (fr 5) (.int .i64 1)) H ⟨fun v11 H =>
 e' [(0, fr 0), (1, fr 1), (5, v11)] H⟩)
@[simp] def r6 (fr : AFr) (H : Hp) : ARes :=
 areg (e' [(4, (.bool false))] H)
def l0 (fr : AFr) (H : Hp) : ARes :=
 s' (s' (r2 fr H) ⟨fun fr H =>
 c' (fr 9)
 ⟨some (.normal, fr, H)⟩
 ⟨some (.exit 0, fr, H)⟩⟩) ⟨fun fr H =>
 s' (aexit 1 (s' (r4 fr H) ⟨fun fr H =>
 c' (fr 16)
 ⟨s' (r5 fr H) ⟨fun fr H =>
 some (.ret, fr, H)⟩⟩
 ⟨some (.normal, fr, H)⟩⟩)) ⟨fun fr H =>
 r3 fr H⟩⟩
@[simp] def body (fr : AFr) (H : Hp) : ARes :=
 s' (r0 fr H) ⟨fun fr H =>
 s' (s' (r1 fr H) ⟨fun fr H =>
 aexit 0 (aloop (l0) fr H)⟩) ⟨fun fr H =>
 s' (r6 fr H) ⟨fun fr H =>
 some (.ret, fr, H)⟩⟩⟩
@[simp] def res (fr : AFr) (H : Hp) : Option (List AV) := res2 (some (fr 4)) (some [])
end z_cw
def z_cw (a0 a1 : AV) : Option AV := z_ap (some [[none]]) (afinR z_cw.res (z_cw.body (args0 [a0, a1]) Hp.empty))
def z_cw.spec : List AV → Option AV
 | [a0, a1] => z_cw a0 a1
 | _ => none
namespace z_be
def C : Tab := Tab.none
@[simp] def r0 (fr : AFr) (H : Hp) : ARes :=
 areg (e' [(0, fr 0)] H)
@[simp] def r1 (fr : AFr) (H : Hp) : ARes :=
 areg (o' (z_ae (some ⟨T.ty_int, 1, 8, [(.int .i64 0)]⟩) 21 [(0, (.int .i64 0)), (1, (.int .i64 0)), (2, (.int .i64 0)), (3, (.int .i64 0)), (4, (.int .i64 0)), (5, (.int .i64 1)), (6, (.int .i64 1)), (7, (.int .i64 0)), (8, (.int .i64 0)), (9, (.int .i64 0)), (10, (.int .i64 0)), (11, (.int .i64 0)), (12, (.int .i64 0)), (13, (.int .i64 0)), (14, (.int .i64 0)), (15, (.int .i64 0)), (16, (.int .i64 0)), (17, (.int .i64 (-1024))), (18, (.int .i64 (-128))), (19, (.int .i64 0)), (20, (.int .i64 0))] H) ⟨fun v3 H =>
 q' (z_aa (.sl 1) v3 (fr 0)) H ⟨fun v5 H =>
 q' (ld' v5 H) H ⟨fun v6 H =>
 e' [(2, v6)] H⟩⟩⟩)
@[simp] def body (fr : AFr) (H : Hp) : ARes :=
 s' (r0 fr H) ⟨fun fr H =>
 s' (r1 fr H) ⟨fun fr H =>
 some (.ret, fr, H)⟩⟩
@[simp] def res (fr : AFr) (H : Hp) : Option (List AV) := res2 (some (fr 2)) (some [])
end z_be
def z_be (a0 : AV) : Option AV := z_ap (some [[none]]) (afinR z_be.res (z_be.body (args0 [a0]) Hp.empty))
def z_be.spec : List AV → Option AV
 | [a0] => z_be a0
 | _ => none
namespace z_a2
def C : Tab := Tab.none
@[simp] def r0 (fr : AFr) (H : Hp) : ARes :=
 areg (e' [(0, fr 0)] H)
@[simp] def r1 (fr : AFr) (H : Hp) : ARes :=
 areg (o' (z_ae (some ⟨T.ty_int, 1, 8, [(.int .i64 0)]⟩) 21 [(0, (.int .i64 255)), (1, (.int .i64 255)), (2, (.int .i64 255)), (3, (.int .i64 255)), (4, (.int .i64 31)), (5, (.int .i64 32)), (6, (.int .i64 32)), (7, (.int .i64 0)), (8, (.int .i64 0)), (9, (.int .i64 7)), (10, (.int .i64 7)), (11, (.int .i64 15)), (12, (.int .i64 31)), (13, (.int .i64 31)), (14, (.int .i64 0)), (15, (.int .i64 0)), (16, (.int .i64 255)), (17, (.int .i64 1023)), (18, (.int .i64 127)), (19, (.int .i64 0)), (20, (.int .i64 255))] H) ⟨fun v3 H =>
 q' (z_aa (.sl 1) v3 (fr 0)) H ⟨fun v5 H =>
 q' (ld' v5 H) H ⟨fun v6 H =>
 e' [(2, v6)] H⟩⟩⟩)
@[simp] def body (fr : AFr) (H : Hp) : ARes :=
 s' (r0 fr H) ⟨fun fr H =>
 s' (r1 fr H) ⟨fun fr H =>
 some (.ret, fr, H)⟩⟩
@[simp] def res (fr : AFr) (H : Hp) : Option (List AV) := res2 (some (fr 2)) (some [])
end z_a2
def z_a2 (a0 : AV) : Option AV := z_ap (some [[none]]) (afinR z_a2.res (z_a2.body (args0 [a0]) Hp.empty))
def z_a2.spec : List AV → Option AV
 | [a0] => z_a2 a0
 | _ => none
namespace z_ah
def C (s0 s1 s2 s3 : SpecP) : Tab := ((((Tab.none.add 107 (.pure false s0)).add 108 (.pure false s1)).add 109 (.pure false s2)).add 110 (.pure false s3))
@[simp] def r0 (fr : AFr) (H : Hp) : ARes :=
 areg (o' (abox T.ty_api_Ins (fr 0) H) ⟨fun v1 H =>
 e' [(1, v1)] H⟩)
@[simp] def r1 (fr : AFr) (H : Hp) : ARes :=
 areg (q' (fa' 0 (fr 1)) H ⟨fun v4 H =>
 q' (ld' v4 H) H ⟨fun v5 H =>
 q' (bn' .lss v5 (.int .i64 0)) H ⟨fun v6 H =>
 G' v6 false ⟨fa' 0 (fr 1)⟩ H ⟨fun v8 H =>
 G' v6 false ⟨ld' v8 H⟩ H ⟨fun v9 H =>
 G' v6 false ⟨bn' .gtr v9 (.int .i64 20)⟩ H ⟨fun v10 H =>
 q' (apick v6 (.bool true) v10) H ⟨fun v11 H =>
 e' [(1, fr 1), (11, v11)] H⟩⟩⟩⟩⟩⟩⟩)
@[simp] def r2 (fr : AFr) (H : Hp) : ARes :=
 areg (e' [(2, (.bool false))] H)
@[simp] def r3 (s0 : SpecP) (fr : AFr) (H : Hp) : ARes :=
 areg (q' (fa' 0 (fr 1)) H ⟨fun v12 H =>
 q' (ld' v12 H) H ⟨fun v13 H =>
 o' (callP false s0 [[none]] [v13] H) ⟨fun v14 H =>
 e' [(1, fr 1), (3, v14)] H⟩⟩⟩)
@[simp] def r4 (s1 : SpecP) (fr : AFr) (H : Hp) : ARes :=
 areg (o' (callP false s1 [[none], [none]] [(fr 3), (W8 99#8)] H) ⟨fun v16 H =>
 e' [(1, fr 1), (3, fr 3), (16, v16)] H⟩)
@[simp] def r5 (fr : AFr) (H : Hp) : ARes :=
 areg (q' (fa' 1 (fr 1)) H ⟨fun v17 H =>
 q' (ld' v17 H) H ⟨fun v18 H =>
 q' (bn' .lss v18 (.int .i64 0)) H ⟨fun v19 H =>
 G' v19 false ⟨fa' 1 (fr 1)⟩ H ⟨fun v21 H =>
 G' v19 false ⟨ld' v21 H⟩ H ⟨fun v22 H =>
 G' v19 false ⟨bn' .gtr v22 (.int .i64 13)⟩ H ⟨fun v23 H =>
 q' (apick v19 (.bool true) v23) H ⟨fun v24 H =>
 e' [(1, fr 1), (3, fr 3), (24, v24)] H⟩⟩⟩⟩⟩⟩⟩)
@[simp] def r6 (fr : AFr) (H : Hp) : ARes :=
 areg (e' [(2, (.bool false))] H)
@[simp] def r7 (s1 : SpecP) (fr : AFr) (H : Hp) : ARes :=
 areg (q' (fa' 1 (fr 1)) H ⟨fun v25 H =>
 q' (ld' v25 H) H ⟨fun v26 H =>
 q' (bn' .neq v26 (.int .i64 0)) H ⟨fun v27 H =>
 G' v27 true ⟨some (fr 3)⟩ H ⟨fun v29 H =>
 o' (g' (gw v27 true) ⟨callP false s1 [[none], [none]] [v29, (W8 100#8)] H⟩ H) ⟨fun v30 H =>
 G' v27 true ⟨aun .not v30⟩ H ⟨fun v31 H =>
 q' (apick v27 v31 (.bool false)) H ⟨fun v32 H =>
 G' v32 false ⟨fa' 1 (fr 1)⟩ H ⟨fun v34 H =>
 G' v32 false ⟨ld' v34 H⟩ H ⟨fun v35 H =>
 G' v32 false ⟨bn' .lss v35 (.int .i64 0)⟩ H ⟨fun v36 H =>
 q' (apick v32 (.bool true) v36) H ⟨fun v37 H =>
 G' v37 false ⟨fa' 1 (fr 1)⟩ H ⟨fun v39 H =>
 G' v37 false ⟨ld' v39 H⟩ H ⟨fun v40 H =>
 G' v37 false ⟨bn' .gtr v40 (.int .i64 7)⟩ H ⟨fun v41 H =>
 q' (apick v37 (.bool true) v41) H ⟨fun v42 H =>
 e' [(1, fr 1), (3, fr 3), (42, v42)] H⟩⟩⟩⟩⟩⟩⟩⟩⟩⟩⟩⟩⟩⟩⟩)
@[simp] def r8 (fr : AFr) (H : Hp) : ARes :=
 areg (e' [(2, (.bool false))] H)
@[simp] def r9 (s1 s2 s3 : SpecP) (fr : AFr) (H : Hp) : ARes :=
 areg (q' (fa' 2 (fr 1)) H ⟨fun v43 H1 =>
 q' (ld' v43 H1) H1 ⟨fun v44 H2 =>
 q' (bn' .eql v44 (.int .i64 0)) H2 ⟨fun v45 H3 =>
 q' (some v45) H3 ⟨fun v46 H4 =>
 G' v46 false ⟨some (fr 3)⟩ H4 ⟨fun v47 H5 =>
 o' (g' (gw v46 false) ⟨callP false s1 [[none], [none]] [v47, (W8 110#8)] H5⟩ H5) ⟨fun v48 H6 =>
 q' (apick v46 (.bool true) v48) H6 ⟨fun v49 H7 =>
 q' (some v49) H7 ⟨fun v50 H8 =>
 G' v50 true ⟨fa' 2 (fr 1)⟩ H8 ⟨fun v51 H9 =>
 G' v50 true ⟨ld' v51 H9⟩ H9 ⟨fun v52 H10 =>
 G' v50 true ⟨bn' .geq v52 (.int .i64 0)⟩ H10 ⟨fun v53 H11 =>
 q' (apick v50 v53 (.bool false)) H11 ⟨fun v54 H12 =>
 q' (some v54) H12 ⟨fun v55 H13 =>
 G' v55 true ⟨fa' 2 (fr 1)⟩ H13 ⟨fun v56 H14 =>
 G' v55 true ⟨ld' v56 H14⟩ H14 ⟨fun v57 H15 =>
 G' v55 true ⟨bn' .leq v57 (.int .i64 7)⟩ H15 ⟨fun v58 H16 =>
 q' (apick v55 v58 (.bool false)) H16 ⟨fun v59 H17 =>
 q' (some v59) H17 ⟨fun v60 H18 =>
 G' v60 true ⟨fa' 3 (fr 1)⟩ H18 ⟨fun v61 H19 =>
 G' v60 true ⟨ld' v61 H19⟩ H19 ⟨fun v62 H20 =>
 G' v60 true ⟨bn' .eql v62 (.int .i64 0)⟩ H20 ⟨fun v63 H21 =>
 G' v60 true ⟨some v63⟩ H21 ⟨fun v64 H22 =>
 G' v64 false ⟨some (fr 3)⟩ H22 ⟨fun v65 H23 =>
 o' (g' (gw v64 false) ⟨callP false s1 [[none], [none]] [v65, (W8 109#8)] H23⟩ H23) ⟨fun v66 H24 =>
 G' v60 true ⟨apick v64 (.bool true) v66⟩ H24 ⟨fun v67 H25 =>
 q' (apick v60 v67 (.bool false)) H25 ⟨fun v68 H26 =>
 q' (some v68) H26 ⟨fun v69 H27 =>
 G' v69 true ⟨fa' 3 (fr 1)⟩ H27 ⟨fun v70 H28 =>
 G' v69 true ⟨ld' v70 H28⟩ H28 ⟨fun v71 H29 =>
 G' v69 true ⟨bn' .geq v71 (.int .i64 0)⟩ H29 ⟨fun v72 H30 =>
 q' (apick v69 v72 (.bool false)) H30 ⟨fun v73 H31 =>
 q' (some v73) H31 ⟨fun v74 H32 =>
 G' v74 true ⟨fa' 3 (fr 1)⟩ H32 ⟨fun v75 H33 =>
 G' v74 true ⟨ld' v75 H33⟩ H33 ⟨fun v76 H34 =>
 G' v74 true ⟨bn' .leq v76 (.int .i64 7)⟩ H34 ⟨fun v77 H35 =>
 q' (apick v74 v77 (.bool false)) H35 ⟨fun v78 H36 =>
 q' (some v78) H36 ⟨fun v79 H37 =>
 G' v79 true ⟨fa' 4 (fr 1)⟩ H37 ⟨fun v80 H38 =>
 G' v79 true ⟨ld' v80 H38⟩ H38 ⟨fun v81 H39 =>
 G' v79 true ⟨fa' 0 (fr 1)⟩ H39 ⟨fun v82 H40 =>
 G' v79 true ⟨ld' v82 H40⟩ H40 ⟨fun v83 H41 =>
 o' (g' (gw v79 true) ⟨callP false s2 [[none]] [v83] H41⟩ H41) ⟨fun v84 H42 =>
 G' v79 true ⟨bn' .geq v81 v84⟩ H42 ⟨fun v85 H43 =>
 q' (apick v79 v85 (.bool false)) H43 ⟨fun v86 H44 =>
 q' (some v86) H44 ⟨fun v87 H45 =>
 G' v87 true ⟨fa' 4 (fr 1)⟩ H45 ⟨fun v88 H46 =>
 G' v87 true ⟨ld' v88 H46⟩ H46 ⟨fun v89 H47 =>
 G' v87 true ⟨fa' 0 (fr 1)⟩ H47 ⟨fun v90 H48 =>
 G' v87 true ⟨ld' v90 H48⟩ H48 ⟨fun v91 H49 =>
 o' (g' (gw v87 true) ⟨callP false s3 [[none]] [v91] H49⟩ H49) ⟨fun v92 H50 =>
 G' v87 true ⟨bn' .leq v89 v92⟩ H50 ⟨fun v93 H51 =>
 q' (apick v87 v93 (.bool false)) H51 ⟨fun v94 H52 =>
 q' (some v94) H52 ⟨fun v2 H53 =>
 z_bw [z_am (some none) v80 H41 = z_am (some none) v80 H42, z_am (some none) v88 H49 = z_am (some none) v88 H50] (e' [(2, v2)] H53)⟩⟩⟩⟩⟩⟩⟩⟩⟩⟩⟩⟩⟩⟩⟩⟩⟩⟩⟩⟩⟩⟩⟩⟩⟩⟩⟩⟩⟩⟩⟩⟩⟩⟩⟩⟩⟩⟩⟩⟩⟩⟩⟩⟩⟩⟩⟩⟩⟩⟩⟩⟩⟩)
@[simp] def body (s0 s1 s2 s3 : SpecP) (fr : AFr) (H : Hp) : ARes :=
 s' (r0 fr H) ⟨fun fr H =>
 s' (s' (r1 fr H) ⟨fun fr H =>
 c' (fr 11)
 ⟨s' (r2 fr H) ⟨fun fr H =>
 some (.ret, fr, H)⟩⟩
 ⟨some (.normal, fr, H)⟩⟩) ⟨fun fr H =>
 s' (r3 s0 fr H) ⟨fun fr H =>
 s' (s' (r4 s1 fr H) ⟨fun fr H =>
 c' (fr 16)
 ⟨s' (r5 fr H) ⟨fun fr H =>
 c' (fr 24)
 ⟨s' (r6 fr H) ⟨fun fr H =>
 some (.ret, fr, H)⟩⟩
 ⟨some (.normal, fr, H)⟩⟩⟩
 ⟨s' (r7 s1 fr H) ⟨fun fr H =>
 c' (fr 42)
 ⟨s' (r8 fr H) ⟨fun fr H =>
 some (.ret, fr, H)⟩⟩
 ⟨some (.normal, fr, H)⟩⟩⟩⟩) ⟨fun fr H =>
 s' (r9 s1 s2 s3 fr H) ⟨fun fr H =>
 some (.ret, fr, H)⟩⟩⟩⟩⟩
@[simp] def res (fr : AFr) (H : Hp) : Option (List AV) := res2 (some (fr 2)) (some [])
end z_ah
def z_ah (a0 : AV) : Option AV := z_ap (some [[none]]) (afinR z_ah.res (z_ah.body z_ax.spec z_cw.spec z_be.spec z_a2.spec (args0 [a0]) Hp.empty))
def z_ah.spec : List AV → Option AV
 | [a0] => z_ah a0
 | _ => none
namespace z_bj
def C (s0 : SpecP) : Tab := (Tab.none.add 60 (.pure false s0))
@[simp] def r0 (fr : AFr) (H : Hp) : ARes :=
 areg (o' (abox T.ty_api_Ins (fr 0) H) ⟨fun v1 H =>
 e' [(1, v1)] H⟩)
@[simp] def r1 (fr : AFr) (H : Hp) : ARes :=
 areg (q' (fa' 0 (fr 1)) H ⟨fun v5 H =>
 q' (ld' v5 H) H ⟨fun v6 H =>
 e' [(1, fr 1), (4, v6)] H⟩⟩)
@[simp] def r2 (s0 : SpecP) (fr : AFr) (H : Hp) : ARes :=
 areg (q' (Ld' 5 (fr 1) H) H ⟨fun v7 H =>
 o' (callP false s0 [[none, none, none, none, none]] [v7] H) ⟨fun v8 H =>
 q' (aun .not v8) H ⟨fun v9 H =>
 G' v9 false ⟨some (fr 4)⟩ H ⟨fun v11 H =>
 G' v9 false ⟨bn' .eql v11 (.int .i64 1)⟩ H ⟨fun v12 H =>
 q' (apick v9 (.bool true) v12) H ⟨fun v13 H =>
 G' v13 false ⟨some (fr 4)⟩ H ⟨fun v15 H =>
 G' v13 false ⟨bn' .eql v15 (.int .i64 13)⟩ H ⟨fun v16 H =>
 q' (apick v13 (.bool true) v16) H ⟨fun v17 H =>
 G' v17 false ⟨some (fr 4)⟩ H ⟨fun v19 H =>
 G' v17 false ⟨bn' .eql v19 (.int .i64 15)⟩ H ⟨fun v20 H =>
 q' (apick v17 (.bool true) v20) H ⟨fun v21 H =>
 G' v21 false ⟨some (fr 4)⟩ H ⟨fun v23 H =>
 G' v21 false ⟨bn' .gtr v23 (.int .i64 16)⟩ H ⟨fun v24 H =>
 q' (apick v21 (.bool true) v24) H ⟨fun v25 H =>
 G' v25 false ⟨some (fr 4)⟩ H ⟨fun v27 H =>
 G' v25 false ⟨bn' .eql v27 (.int .i64 11)⟩ H ⟨fun v28 H =>
 G' v25 false ⟨some v28⟩ H ⟨fun v29 H =>
 G' v29 true ⟨fa' 4 (fr 1)⟩ H ⟨fun v30 H =>
 G' v29 true ⟨ld' v30 H⟩ H ⟨fun v31 H =>
 G' v29 true ⟨bn' .eql v31 (.int .i64 8)⟩ H ⟨fun v32 H =>
 G' v29 true ⟨some v32⟩ H ⟨fun v33 H =>
 G' v33 false ⟨fa' 4 (fr 1)⟩ H ⟨fun v34 H =>
 G' v33 false ⟨ld' v34 H⟩ H ⟨fun v35 H =>
 G' v33 false ⟨bn' .eql v35 (.int .i64 10)⟩ H ⟨fun v36 H =>
 G' v29 true ⟨apick v33 (.bool true) v36⟩ H ⟨fun v37 H =>
 G' v29 true ⟨some v37⟩ H ⟨fun v38 H =>
 G' v38 false ⟨fa' 4 (fr 1)⟩ H ⟨fun v39 H =>
 G' v38 false ⟨ld' v39 H⟩ H ⟨fun v40 H =>
 G' v38 false ⟨bn' .eql v40 (.int .i64 11)⟩ H ⟨fun v41 H =>
 G' v29 true ⟨apick v38 (.bool true) v41⟩ H ⟨fun v42 H =>
 G' v25 false ⟨apick v29 v42 (.bool false)⟩ H ⟨fun v43 H =>
 q' (apick v25 (.bool true) v43) H ⟨fun v44 H =>
 e' [(1, fr 1), (44, v44)] H⟩⟩⟩⟩⟩⟩⟩⟩⟩⟩⟩⟩⟩⟩⟩⟩⟩⟩⟩⟩⟩⟩⟩⟩⟩⟩⟩⟩⟩⟩⟩⟩⟩)
@[simp] def r3 (fr : AFr) (H : Hp) : ARes :=
 areg (e' [(2, (.int .i64 0)), (3, (.bool false))] H)
@[simp] def r4 (fr : AFr) (H : Hp) : ARes :=
 areg (q' (fa' 1 (fr 1)) H ⟨fun v45 H =>
 q' (ld' v45 H) H ⟨fun v46 H =>
 e' [(2, v46), (3, (.bool true))] H⟩⟩)
@[simp] def body (s0 : SpecP) (fr : AFr) (H : Hp) : ARes :=
 s' (r0 fr H) ⟨fun fr H =>
 s' (r1 fr H) ⟨fun fr H =>
 s' (s' (r2 s0 fr H) ⟨fun fr H =>
 c' (fr 44)
 ⟨s' (r3 fr H) ⟨fun fr H =>
 some (.ret, fr, H)⟩⟩
 ⟨some (.normal, fr, H)⟩⟩) ⟨fun fr H =>
 s' (r4 fr H) ⟨fun fr H =>
 some (.ret, fr, H)⟩⟩⟩⟩
@[simp] def res (fr : AFr) (H : Hp) : Option (List AV) := res2 (some (fr 2)) (res2 (some (fr 3)) (some []))
end z_bj
def z_bj (a0 : AV) : Option AV := z_ap (some [[none], [none]]) (afinR z_bj.res (z_bj.body z_ah.spec (args0 [a0]) Hp.empty))
def z_bj.spec : List AV → Option AV
 | [a0] => z_bj a0
 | _ => none
namespace z_az
def C (s0 s1 s2 s3 : SpecP) : Tab := ((((Tab.none.add 107 (.pure false s0)).add 109 (.pure false s1)).add 110 (.pure false s2)).add 60 (.pure false s3))
@[simp] def r0 (fr : AFr) (H : Hp) : ARes :=
 areg (o' (z_bo T.ty_api_Ins (some (.agg [(.int .i64 0), (.int .i64 0), (.int .i64 0), (.int .i64 0), (.int .i64 0)])) H) ⟨fun v2 H =>
 e' [(0, fr 0), (2, v2)] H⟩)
@[simp] def r1 (fr : AFr) (H : Hp) : ARes :=
 areg (e' [(0, fr 0), (2, fr 2), (4, (.int .i64 0))] H)
@[simp] def r2 (fr : AFr) (H : Hp) : ARes :=
 areg (q' (bn' .lss (fr 4) (.int .i64 21)) H ⟨fun v13 H =>
 e' [(0, fr 0), (2, fr 2), (4, fr 4), (13, v13)] H⟩)
@[simp] def r4 (s0 : SpecP) (fr : AFr) (H : Hp) : ARes :=
 areg (o' (callP false s0 [[none]] [(fr 4)] H) ⟨fun v17 H =>
 q' (z_a3 (.str [(.int .i64 0), (.int .i64 0), (.int .i64 0), (.int .i64 0), (.int .i64 0)] [(0, 1), (1, 1), (2, 1), (3, 1), (4, 1)]) [(0, (fr 4))]) H ⟨fun v19 H =>
 o' (z_bo T.ty_api_Ins (some (.agg [(.int .i64 0), (.int .i64 0), (.int .i64 0), (.int .i64 0), (.int .i64 0)])) H) ⟨fun v6 H =>
 w' (z_ac (some 5) v6 v19 H) ⟨fun _ H =>
 e' [(0, fr 0), (2, fr 2), (4, fr 4), (5, v17), (6, v6), (7, (.bool true)), (8, (.int .i64 1))] H⟩⟩⟩⟩)
@[simp] def r5 (fr : AFr) (H : Hp) : ARes :=
 areg (q' (z_du (some .i64) (fr 0)) H ⟨fun v21 H =>
 e' [(0, fr 0), (2, fr 2), (4, fr 4), (5, fr 5), (6, fr 6), (7, fr 7), (8, fr 8), (9, v21)] H⟩)
@[simp] def r6 (fr : AFr) (H : Hp) : ARes :=
 areg (e' [(0, fr 0), (2, fr 2), (4, fr 4), (5, fr 5), (6, fr 6), (7, fr 7), (8, fr 8), (9, fr 9), (10, (.int .i64 0))] H)
@[simp] def r7 (fr : AFr) (H : Hp) : ARes :=
 areg (q' (bn' .lss (fr 10) (.int .i64 16)) H ⟨fun v23 H =>
 e' [(0, fr 0), (2, fr 2), (4, fr 4), (5, fr 5), (6, fr 6), (7, fr 7), (8, fr 8), (9, fr 9), (10, fr 10), (23, v23)] H⟩)
@[simp] def r9 (fr : AFr) (H : Hp) : ARes :=
 areg (e' [(0, fr 0), (2, fr 2), (4, fr 4), (5, fr 5), (6, fr 6), (7, fr 7), (8, fr 8), (9, fr 9), (10, fr 10), (11, (.int .i64 0))] H)
@[simp] def r10 (fr : AFr) (H : Hp) : ARes :=
 areg (q' (bn' .geq (fr 9) (.int .i64 32768)) H ⟨fun v27 H =>
 e' [(0, fr 0), (2, fr 2), (4, fr 4), (5, fr 5), (6, fr 6), (7, fr 7), (8, fr 8), (9, fr 9), (10, fr 10), (11, fr 11), (27, v27)] H⟩)
@[simp] def r11 (fr : AFr) (H : Hp) : ARes :=
 areg (q' (bn' .sub (fr 9) (.int .i64 32768)) H ⟨fun v29 H =>
 e' [(0, fr 0), (2, fr 2), (4, fr 4), (5, fr 5), (6, fr 6), (7, fr 7), (8, fr 8), (9, v29), (10, fr 10), (11, (.int .i64 1))] H⟩)
@[simp] def r12 (fr : AFr) (H : Hp) : ARes :=
 areg (q' (bn' .mul (fr 9) (.int .i64 2)) H ⟨fun v31 H =>
 e' [(0, fr 0), (2, fr 2), (4, fr 4), (5, fr 5), (6, fr 6), (7, fr 7), (8, fr 8), (9, v31), (10, fr 10), (11, fr 11)] H⟩)
@[simp] def r13 (fr : AFr) (H : Hp) : ARes :=
 areg (q' (z_fn .str (fr 5) (fr 10)) H ⟨fun v34 H =>
 e' [(0, fr 0), (2, fr 2), (4, fr 4), (5, fr 5), (6, fr 6), (7, fr 7), (8, fr 8), (9, fr 9), (10, fr 10), (11, fr 11), (34, v34)] H⟩)
@[simp] def r14 (fr : AFr) (H : Hp) : ARes :=
 areg (q' (bn' .eql (fr 34) (W8 48#8)) H ⟨fun v36 H =>
 e' [(0, fr 0), (2, fr 2), (4, fr 4), (5, fr 5), (6, fr 6), (7, fr 7), (8, fr 8), (9, fr 9), (10, fr 10), (11, fr 11), (34, fr 34), (35, v36)] H⟩)
@[simp] def r15 (fr : AFr) (H : Hp) : ARes :=
 areg (q' (bn' .eql (fr 34) (W8 49#8)) H ⟨fun v37 H =>
 e' [(0, fr 0), (2, fr 2), (4, fr 4), (5, fr 5), (6, fr 6), (7, fr 7), (8, fr 8), (9, fr 9), (10, fr 10), (11, fr 11), (34, fr 34), (35, v37)] H⟩)
@[simp] def r16 (fr : AFr) (H : Hp) : ARes :=
 areg (G' (fr 7) true ⟨some (fr 5)⟩ H ⟨fun v40 H =>
 G' (fr 7) true ⟨some (fr 10)⟩ H ⟨fun v41 H =>
 G' (fr 7) true ⟨z_fn .str v40 v41⟩ H ⟨fun v42 H =>
 G' (fr 7) true ⟨some (fr 11)⟩ H ⟨fun v43 H =>
 G' (fr 7) true ⟨z_du (some .u8) v43⟩ H ⟨fun v44 H =>
 G' (fr 7) true ⟨bn' .add (W8 48#8) v44⟩ H ⟨fun v45 H =>
 G' (fr 7) true ⟨bn' .eql v42 v45⟩ H ⟨fun v46 H =>
 q' (apick (fr 7) v46 (.bool false)) H ⟨fun v47 H =>
 e' [(0, fr 0), (2, fr 2), (4, fr 4), (5, fr 5), (6, fr 6), (7, v47), (8, fr 8), (9, fr 9), (10, fr 10)] H⟩⟩⟩⟩⟩⟩⟩⟩)
@[simp] def r17 (fr : AFr) (H : Hp) : ARes :=
 areg (q' (bn' .eql (fr 34) (W8 100#8)) H ⟨fun v49 H =>
 e' [(0, fr 0), (2, fr 2), (4, fr 4), (5, fr 5), (6, fr 6), (7, fr 7), (8, fr 8), (9, fr 9), (10, fr 10), (11, fr 11), (34, fr 34), (48, v49)] H⟩)
@[simp] def r18 (fr : AFr) (H : Hp) : ARes :=
 areg (q' (bn' .eql (fr 34) (W8 99#8)) H ⟨fun v50 H =>
 e' [(0, fr 0), (2, fr 2), (4, fr 4), (5, fr 5), (6, fr 6), (7, fr 7), (8, fr 8), (9, fr 9), (10, fr 10), (11, fr 11), (34, fr 34), (48, v50)] H⟩)
@[simp] def r19 (fr : AFr) (H : Hp) : ARes :=
 areg (q' (fa' 1 (fr 6)) H ⟨fun v51 H =>
 q' (ld' v51 H) H ⟨fun v52 H =>
 q' (bn' .mul v52 (.int .i64 2)) H ⟨fun v53 H =>
 q' (bn' .add v53 (fr 11)) H ⟨fun v55 H =>
 q' (fa' 1 (fr 6)) H ⟨fun v56 H =>
 w' (z_ac (some 1) v56 v55 H) ⟨fun _ H =>
 e' [(0, fr 0), (2, fr 2), (4, fr 4), (5, fr 5), (6, fr 6), (7, fr 7), (8, fr 8), (9, fr 9), (10, fr 10)] H⟩⟩⟩⟩⟩⟩)
@[simp] def r20 (fr : AFr) (H : Hp) : ARes :=
 areg (q' (bn' .eql (fr 34) (W8 110#8)) H ⟨fun v58 H =>
 e' [(0, fr 0), (2, fr 2), (4, fr 4), (5, fr 5), (6, fr 6), (7, fr 7), (8, fr 8), (9, fr 9), (10, fr 10), (11, fr 11), (34, fr 34), (57, v58)] H⟩)
@[simp] def r21 (fr : AFr) (H : Hp) : ARes :=
 areg (q' (fa' 2 (fr 6)) H ⟨fun v59 H =>
 q' (ld' v59 H) H ⟨fun v60 H =>
 q' (bn' .mul v60 (.int .i64 2)) H ⟨fun v61 H =>
 q' (bn' .add v61 (fr 11)) H ⟨fun v63 H =>
 q' (fa' 2 (fr 6)) H ⟨fun v64 H =>
 w' (z_ac (some 1) v64 v63 H) ⟨fun _ H =>
 e' [(0, fr 0), (2, fr 2), (4, fr 4), (5, fr 5), (6, fr 6), (7, fr 7), (8, fr 8), (9, fr 9), (10, fr 10)] H⟩⟩⟩⟩⟩⟩)
@[simp] def r22 (fr : AFr) (H : Hp) : ARes :=
 areg (q' (bn' .eql (fr 34) (W8 109#8)) H ⟨fun v66 H =>
 e' [(0, fr 0), (2, fr 2), (4, fr 4), (5, fr 5), (6, fr 6), (7, fr 7), (8, fr 8), (9, fr 9), (10, fr 10), (11, fr 11), (34, fr 34), (65, v66)] H⟩)
@[simp] def r23 (fr : AFr) (H : Hp) : ARes :=
 areg (q' (fa' 3 (fr 6)) H ⟨fun v67 H =>
 q' (ld' v67 H) H ⟨fun v68 H =>
 q' (bn' .mul v68 (.int .i64 2)) H ⟨fun v69 H =>
 q' (bn' .add v69 (fr 11)) H ⟨fun v71 H =>
 q' (fa' 3 (fr 6)) H ⟨fun v72 H =>
 w' (z_ac (some 1) v72 v71 H) ⟨fun _ H =>
 e' [(0, fr 0), (2, fr 2), (4, fr 4), (5, fr 5), (6, fr 6), (7, fr 7), (8, fr 8), (9, fr 9), (10, fr 10)] H⟩⟩⟩⟩⟩⟩)
@[simp] def r24 (fr : AFr) (H : Hp) : ARes :=
 areg (q' (bn' .eql (fr 34) (W8 105#8)) H ⟨fun v74 H =>
 e' [(0, fr 0), (2, fr 2), (4, fr 4), (5, fr 5), (6, fr 6), (7, fr 7), (8, fr 8), (9, fr 9), (10, fr 10), (11, fr 11), (73, v74)] H⟩)
@[simp] def r25 (fr : AFr) (H : Hp) : ARes :=
 areg (q' (fa' 4 (fr 6)) H ⟨fun v75 H =>
 q' (ld' v75 H) H ⟨fun v76 H =>
 q' (bn' .mul v76 (.int .i64 2)) H ⟨fun v77 H =>
 q' (bn' .add v77 (fr 11)) H ⟨fun v79 H =>
 q' (bn' .mul (fr 8) (.int .i64 2)) H ⟨fun v81 H =>
 q' (fa' 4 (fr 6)) H ⟨fun v82 H =>
 w' (z_ac (some 1) v82 v79 H) ⟨fun _ H =>
 e' [(0, fr 0), (2, fr 2), (4, fr 4), (5, fr 5), (6, fr 6), (7, fr 7), (8, v81), (9, fr 9), (10, fr 10)] H⟩⟩⟩⟩⟩⟩⟩)
@[simp] def r8 (fr : AFr) (H : Hp) : ARes :=
 areg (q' (bn' .add (fr 10) (.int .i64 1)) H ⟨fun v25 H =>
 e' [(0, fr 0), (2, fr 2), (4, fr 4), (5, fr 5), (6, fr 6), (7, fr 7), (8, fr 8), (9, fr 9), (10, v25)] H⟩)
@[simp] def r26 (s1 s2 : SpecP) (fr : AFr) (H : Hp) : ARes :=
 areg (q' (some (fr 4)) H ⟨fun v83 H1 =>
 o' (callP false s1 [[none]] [v83] H1) ⟨fun v84 H2 =>
 q' (bn' .lss v84 (.int .i64 0)) H2 ⟨fun v85 H3 =>
 q' (some v85) H3 ⟨fun v86 H4 =>
 G' v86 true ⟨fa' 4 (fr 6)⟩ H4 ⟨fun v87 H5 =>
 G' v86 true ⟨ld' v87 H5⟩ H5 ⟨fun v88 H6 =>
 G' v86 true ⟨some (fr 4)⟩ H6 ⟨fun v89 H7 =>
 o' (g' (gw v86 true) ⟨callP false s2 [[none]] [v89] H7⟩ H7) ⟨fun v90 H8 =>
 G' v86 true ⟨bn' .gtr v88 v90⟩ H8 ⟨fun v91 H9 =>
 q' (apick v86 v91 (.bool false)) H9 ⟨fun v92 H10 =>
 z_bw [z_am (some none) v87 H7 = z_am (some none) v87 H8] (e' [(0, fr 0), (2, fr 2), (4, fr 4), (6, fr 6), (7, fr 7), (8, fr 8), (92, v92)] H10)⟩⟩⟩⟩⟩⟩⟩⟩⟩⟩)
@[simp] def r27 (fr : AFr) (H : Hp) : ARes :=
 areg (q' (fa' 4 (fr 6)) H ⟨fun v93 H =>
 q' (ld' v93 H) H ⟨fun v94 H =>
 q' (bn' .sub v94 (fr 8)) H ⟨fun v96 H =>
 q' (fa' 4 (fr 6)) H ⟨fun v97 H =>
 w' (z_ac (some 1) v97 v96 H) ⟨fun _ H =>
 e' [(0, fr 0), (2, fr 2), (4, fr 4), (6, fr 6), (7, fr 7)] H⟩⟩⟩⟩⟩)
@[simp] def r28 (s1 : SpecP) (fr : AFr) (H : Hp) : ARes :=
 areg (o' (callP false s1 [[none]] [(fr 4)] H) ⟨fun v99 H =>
 q' (bn' .eql v99 (.int .i64 1)) H ⟨fun v100 H =>
 G' v100 true ⟨fa' 4 (fr 6)⟩ H ⟨fun v102 H =>
 G' v100 true ⟨ld' v102 H⟩ H ⟨fun v103 H =>
 G' v100 true ⟨bn' .eql v103 (.int .i64 0)⟩ H ⟨fun v104 H =>
 q' (apick v100 v104 (.bool false)) H ⟨fun v105 H =>
 e' [(0, fr 0), (2, fr 2), (4, fr 4), (6, fr 6), (7, fr 7), (105, v105)] H⟩⟩⟩⟩⟩⟩)
@[simp] def r29 (fr : AFr) (H : Hp) : ARes :=
 areg (q' (fa' 4 (fr 6)) H ⟨fun v106 H =>
 w' (z_ac (some 1) v106 (.int .i64 32) H) ⟨fun _ H =>
 e' [(0, fr 0), (2, fr 2), (4, fr 4), (6, fr 6), (7, fr 7)] H⟩⟩)
@[simp] def r30 (s3 : SpecP) (fr : AFr) (H : Hp) : ARes :=
 areg (G' (fr 7) true ⟨Ld' 5 (fr 6) H⟩ H ⟨fun v109 H =>
 o' (g' (gw (fr 7) true) ⟨callP false s3 [[none, none, none, none, none]] [v109] H⟩ H) ⟨fun v110 H =>
 q' (apick (fr 7) v110 (.bool false)) H ⟨fun v111 H =>
 e' [(0, fr 0), (2, fr 2), (4, fr 4), (6, fr 6), (111, v111)] H⟩⟩⟩)
@[simp] def r31 (fr : AFr) (H : Hp) : ARes :=
 areg (q' (Ld' 5 (fr 6) H) H ⟨fun v112 H =>
 w' (z_ac (some 5) (fr 2) v112 H) ⟨fun _ H =>
 e' [(2, fr 2), (3, (.int .i64 0))] H⟩⟩)
@[simp] def r3 (fr : AFr) (H : Hp) : ARes :=
 areg (q' (bn' .add (fr 4) (.int .i64 1)) H ⟨fun v15 H =>
 e' [(0, fr 0), (2, fr 2), (4, v15)] H⟩)
@[simp] def r32 (fr : AFr) (H : Hp) : ARes :=
 areg (q' (z_a3 (.str [(.int .i64 0), (.int .i64 0), (.int .i64 0), (.int .i64 0), (.int .i64 0)] [(0, 1), (1, 1), (2, 1), (3, 1), (4, 1)]) []) H ⟨fun v113 H =>
 w' (z_ac (some 5) (fr 2) v113 H) ⟨fun _ H =>
 e' [(2, fr 2), (3, (.int .i64 20))] H⟩⟩)
def l1 (s0 s1 s2 s3 : SpecP) (fr : AFr) (H : Hp) : ARes :=
 s' (s' (r7 fr H) ⟨fun fr H =>
 c' (fr 23)
 ⟨some (.normal, fr, H)⟩
 ⟨some (.exit 2, fr, H)⟩⟩) ⟨fun fr H =>
 s' (aexit 3 (s' (r9 fr H) ⟨fun fr H =>
 s' (s' (r10 fr H) ⟨fun fr H =>
 c' (fr 27)
 ⟨r11 fr H⟩
 ⟨some (.normal, fr, H)⟩⟩) ⟨fun fr H =>
 s' (r12 fr H) ⟨fun fr H =>
 s' (r13 fr H) ⟨fun fr H =>
 aexit 4 (s' (s' (r14 fr H) ⟨fun fr H =>
 c' (fr 35)
 ⟨some (.normal, fr, H)⟩
 ⟨r15 fr H⟩⟩) ⟨fun fr H =>
 c' (fr 35)
 ⟨r16 fr H⟩
 ⟨s' (s' (r17 fr H) ⟨fun fr H =>
 c' (fr 48)
 ⟨some (.normal, fr, H)⟩
 ⟨r18 fr H⟩⟩) ⟨fun fr H =>
 c' (fr 48)
 ⟨r19 fr H⟩
 ⟨s' (r20 fr H) ⟨fun fr H =>
 c' (fr 57)
 ⟨r21 fr H⟩
 ⟨s' (r22 fr H) ⟨fun fr H =>
 c' (fr 65)
 ⟨r23 fr H⟩
 ⟨s' (r24 fr H) ⟨fun fr H =>
 c' (fr 73)
 ⟨r25 fr H⟩
 ⟨some (.normal, fr, H)⟩⟩⟩⟩⟩⟩⟩⟩⟩⟩)⟩⟩⟩⟩)) ⟨fun fr H =>
 r8 fr H⟩⟩
def l0 (s0 s1 s2 s3 : SpecP) (fr : AFr) (H : Hp) : ARes :=
 s' (s' (r2 fr H) ⟨fun fr H =>
 c' (fr 13)
 ⟨some (.normal, fr, H)⟩
 ⟨some (.exit 0, fr, H)⟩⟩) ⟨fun fr H =>
 s' (aexit 1 (s' (r4 s0 fr H) ⟨fun fr H =>
 s' (r5 fr H) ⟨fun fr H =>
 s' (s' (r6 fr H) ⟨fun fr H =>
 aexit 2 (aloop (l1 s0 s1 s2 s3) fr H)⟩) ⟨fun fr H =>
 s' (s' (r26 s1 s2 fr H) ⟨fun fr H =>
 c' (fr 92)
 ⟨r27 fr H⟩
 ⟨some (.normal, fr, H)⟩⟩) ⟨fun fr H =>
 s' (s' (r28 s1 fr H) ⟨fun fr H =>
 c' (fr 105)
 ⟨r29 fr H⟩
 ⟨some (.normal, fr, H)⟩⟩) ⟨fun fr H =>
 s' (r30 s3 fr H) ⟨fun fr H =>
 c' (fr 111)
 ⟨s' (r31 fr H) ⟨fun fr H =>
 some (.ret, fr, H)⟩⟩
 ⟨some (.normal, fr, H)⟩⟩⟩⟩⟩⟩⟩)) ⟨fun fr H =>
 r3 fr H⟩⟩
@[simp] def body (s0 s1 s2 s3 : SpecP) (fr : AFr) (H : Hp) : ARes :=
 s' (r0 fr H) ⟨fun fr H =>
 s' (s' (r1 fr H) ⟨fun fr H =>
 aexit 0 (aloop (l0 s0 s1 s2 s3) fr H)⟩) ⟨fun fr H =>
 s' (r32 fr H) ⟨fun fr H =>
 some (.ret, fr, H)⟩⟩⟩
@[simp] def res (fr : AFr) (H : Hp) : Option (List AV) := res2 (z_am (some (some 5)) (fr 2) H) (res2 (some (fr 3)) (some []))
end z_az
def z_az (a0 : AV) : Option AV := z_ap (some [[none, none, none, none, none], [none]]) (afinR z_az.res (z_az.body z_ax.spec z_be.spec z_a2.spec z_ah.spec (args0 [a0]) Hp.empty))
def z_az.spec : List AV → Option AV
 | [a0] => z_az a0
 | _ => none
end
end Go.Abs
end
section
namespace Go.Abs
noncomputable section
namespace z_c9
@[simp] def r0 (fr : AFr) (H : Hp) : ARes :=
 areg (e' [(0, fr 0)] H)
@[simp] def r1 (fr : AFr) (H : Hp) : ARes :=
 areg (q' (abinR .s .eql (fr 0) .nils) H ⟨fun v4 H =>
 e' [(0, fr 0), (4, v4)] H⟩)
@[simp] def r2 (fr : AFr) (H : Hp) : ARes :=
 areg (e' [(2, .nils)] H)
@[simp] def r3 (fr : AFr) (H : Hp) : ARes :=
 areg (o' (z_ae (some ⟨T.ty_uint16, 1, 2, [(W16 0#16)]⟩) 0 [] H) ⟨fun v5 H =>
 o' (z_bt (some ⟨T.ty_uint16, 1, 2, [(W16 0#16)]⟩) v5 (fr 0) H) ⟨fun v7 H =>
 e' [(2, v7)] H⟩⟩)
@[simp] def body (fr : AFr) (H : Hp) : ARes :=
 s' (r0 fr H) ⟨fun fr H =>
 s' (s' (r1 fr H) ⟨fun fr H =>
 c' (fr 4)
 ⟨s' (r2 fr H) ⟨fun fr H =>
 some (.ret, fr, H)⟩⟩
 ⟨some (.normal, fr, H)⟩⟩) ⟨fun fr H =>
 s' (r3 fr H) ⟨fun fr H =>
 some (.ret, fr, H)⟩⟩⟩
@[simp] def res (fr : AFr) (H : Hp) : Option (List AV) := res2 (some (fr 2)) (some [])
end z_c9
def z_c9.run (a0 : AV) : Option AV := z_t9 (some [[some 1]]) (afinR z_c9.res (z_c9.body (args0 [a0]) Hp.empty))
def z_c9.run.spec : List AV → Option AV
 | [a0] => z_c9.run a0
 | _ => none
namespace z_c8
@[simp] def r0 (fr : AFr) (H : Hp) : ARes :=
 areg (e' [(0, fr 0)] H)
@[simp] def r1 (fr : AFr) (H : Hp) : ARes :=
 areg (q' (abinR .s .eql (fr 0) .nils) H ⟨fun v4 H =>
 e' [(0, fr 0), (4, v4)] H⟩)
@[simp] def r2 (fr : AFr) (H : Hp) : ARes :=
 areg (e' [(2, .nils)] H)
@[simp] def r3 (fr : AFr) (H : Hp) : ARes :=
 areg (o' (z_ae (some ⟨T.ty_uint32, 1, 4, [(W32 0#32)]⟩) 0 [] H) ⟨fun v5 H =>
 o' (z_bt (some ⟨T.ty_uint32, 1, 4, [(W32 0#32)]⟩) v5 (fr 0) H) ⟨fun v7 H =>
 e' [(2, v7)] H⟩⟩)
@[simp] def body (fr : AFr) (H : Hp) : ARes :=
 s' (r0 fr H) ⟨fun fr H =>
 s' (s' (r1 fr H) ⟨fun fr H =>
 c' (fr 4)
 ⟨s' (r2 fr H) ⟨fun fr H =>
 some (.ret, fr, H)⟩⟩
 ⟨some (.normal, fr, H)⟩⟩) ⟨fun fr H =>
 s' (r3 fr H) ⟨fun fr H =>
 some (.ret, fr, H)⟩⟩⟩
@[simp] def res (fr : AFr) (H : Hp) : Option (List AV) := res2 (some (fr 2)) (some [])
end z_c8
def z_c8.run (a0 : AV) : Option AV := z_t9 (some [[some 1]]) (afinR z_c8.res (z_c8.body (args0 [a0]) Hp.empty))
def z_c8.run.spec : List AV → Option AV
 | [a0] => z_c8.run a0
 | _ => none
end
end Go.Abs
end
section
namespace Go.Abs
noncomputable section
namespace z_b1
def C : Tab := Tab.none
@[simp] def r0 (fr : AFr) (H : Hp) : ARes :=
 areg (e' [(0, fr 0), (1, fr 1), (2, fr 2)] H)
@[simp] def r1 (fr : AFr) (H : Hp) : ARes :=
 areg (o' (z_ae (some ⟨T.ty_uint32, 1, 4, [(W32 0#32)]⟩) 0 [] H) ⟨fun v9 H =>
 o' (z_bt (some ⟨T.ty_uint32, 1, 4, [(W32 0#32)]⟩) v9 (fr 2) H) ⟨fun v11 H =>
 q' (z_a3 (.str [.nils, .nils, .nils, (.int .i64 0), (W32 0#32)] [(0, 1), (1, 1), (2, 1), (3, 1), (4, 1)]) [(2, v11)]) H ⟨fun v12 H =>
 o' (abox T.ty_bautaref05_Mem v12 H) ⟨fun v13 H =>
 e' [(0, fr 0), (1, fr 1), (7, v13)] H⟩⟩⟩⟩)
@[simp] def r2 (fr : AFr) (H : Hp) : ARes :=
 areg (e' [(0, fr 0), (1, fr 1), (7, fr 7), (8, (.int .i64 0))] H)
@[simp] def r3 (fr : AFr) (H : Hp) : ARes :=
 areg (q' (alenR .sl (fr 0)) H ⟨fun v16 H =>
 q' (bn' .lss (fr 8) v16) H ⟨fun v17 H =>
 G' v17 true ⟨some (fr 8)⟩ H ⟨fun v19 H =>
 G' v17 true ⟨bn' .lss v19 (.int .i64 60000)⟩ H ⟨fun v20 H =>
 q' (apick v17 v20 (.bool false)) H ⟨fun v21 H =>
 e' [(0, fr 0), (1, fr 1), (7, fr 7), (8, fr 8), (21, v21)] H⟩⟩⟩⟩⟩)
@[simp] def r5 (fr : AFr) (H : Hp) : ARes :=
 areg (q' (some (fr 7)) H ⟨fun v24 H1 =>
 q' (some (fr 7)) H1 ⟨fun v25 H2 =>
 q' (anil v25) H2 ⟨fun v26 H3 =>
 q' (fa' 0 v26) H3 ⟨fun v27 H4 =>
 q' (ld' v27 H4) H4 ⟨fun v28 H5 =>
 q' (some (fr 0)) H5 ⟨fun v29 H6 =>
 q' (some (fr 8)) H6 ⟨fun v30 H7 =>
 q' (z_aa (.sl 1) v29 v30) H7 ⟨fun v31 H8 =>
 q' (ld' v31 H8) H8 ⟨fun v32 H9 =>
 o' (z_ae (some ⟨T.ty_uint16, 1, 2, [(W16 0#16)]⟩) 1 [(0, v32)] H9) ⟨fun v33 H10 =>
 o' (z_bt (some ⟨T.ty_uint16, 1, 2, [(W16 0#16)]⟩) v28 v33 H10) ⟨fun v34 H11 =>
 q' (anil v24) H11 ⟨fun v35 H12 =>
 q' (fa' 0 v35) H12 ⟨fun v36 H13 =>
 w' (z_ac (some 1) v36 v34 H13) ⟨fun _ H14 =>
 e' [(0, fr 0), (1, fr 1), (7, fr 7), (8, fr 8)] H14⟩⟩⟩⟩⟩⟩⟩⟩⟩⟩⟩⟩⟩⟩)
@[simp] def r4 (fr : AFr) (H : Hp) : ARes :=
 areg (q' (bn' .add (fr 8) (.int .i64 1)) H ⟨fun v23 H =>
 e' [(0, fr 0), (1, fr 1), (7, fr 7), (8, v23)] H⟩)
@[simp] def r6 (fr : AFr) (H : Hp) : ARes :=
 areg (q' (bn' .gtr (fr 1) (.int .i64 16000)) H ⟨fun v38 H =>
 e' [(1, fr 1), (7, fr 7), (38, v38)] H⟩)
@[simp] def r7 (fr : AFr) (H : Hp) : ARes :=
 areg (e' [(1, (.int .i64 16000)), (7, fr 7)] H)
@[simp] def r8 (fr : AFr) (H : Hp) : ARes :=
 areg (q' (bn' .gtr (fr 1) (.int .i64 0)) H ⟨fun v40 H =>
 e' [(1, fr 1), (7, fr 7), (40, v40)] H⟩)
@[simp] def r9 (fr : AFr) (H : Hp) : ARes :=
 areg (o' (z_gs (some ⟨T.ty_uint32, 1, 4, [(W32 0#32)]⟩) (fr 1) (fr 1) H) ⟨fun v43 H =>
 q' (anil (fr 7)) H ⟨fun v44 H =>
 q' (fa' 1 v44) H ⟨fun v45 H =>
 w' (z_ac (some 1) v45 v43 H) ⟨fun _ H =>
 e' [(7, fr 7)] H⟩⟩⟩⟩)
@[simp] def r10 (fr : AFr) (H : Hp) : ARes :=
 areg (e' [(6, (fr 7))] H)
def l0 (fr : AFr) (H : Hp) : ARes :=
 s' (s' (r3 fr H) ⟨fun fr H =>
 c' (fr 21)
 ⟨some (.normal, fr, H)⟩
 ⟨some (.exit 0, fr, H)⟩⟩) ⟨fun fr H =>
 s' (aexit 1 (r5 fr H)) ⟨fun fr H =>
 r4 fr H⟩⟩
@[simp] def body (fr : AFr) (H : Hp) : ARes :=
 s' (r0 fr H) ⟨fun fr H =>
 s' (r1 fr H) ⟨fun fr H =>
 s' (s' (r2 fr H) ⟨fun fr H =>
 aexit 0 (aloop (l0) fr H)⟩) ⟨fun fr H =>
 s' (s' (r6 fr H) ⟨fun fr H =>
 c' (fr 38)
 ⟨r7 fr H⟩
 ⟨some (.normal, fr, H)⟩⟩) ⟨fun fr H =>
 s' (s' (r8 fr H) ⟨fun fr H =>
 c' (fr 40)
 ⟨r9 fr H⟩
 ⟨some (.normal, fr, H)⟩⟩) ⟨fun fr H =>
 s' (r10 fr H) ⟨fun fr H =>
 some (.ret, fr, H)⟩⟩⟩⟩⟩⟩
@[simp] def res (fr : AFr) (H : Hp) : Option (List AV) := res2 (some (fr 6)) (some [])
end z_b1
def z_b1 (a0 a1 a2 : AV) (H : Hp) : Option (AV × Hp) := raw (afinR z_b1.res (z_b1.body (args0 [a0, a1, a2]) H))
def z_b1.spec : List AV → Hp → Option (AV × Hp)
 | [a0, a1, a2], H => z_b1 a0 a1 a2 H
 | _, _ => none
namespace z_ay
def C : Tab := Tab.none
@[simp] def r0 (fr : AFr) (H : Hp) : ARes :=
 areg (e' [(0, fr 0), (1, fr 1)] H)
@[simp] def r1 (fr : AFr) (H : Hp) : ARes :=
 areg (q' (bn' .rem (fr 1) (W32 2#32)) H ⟨fun v7 H =>
 q' (bn' .neq v7 (W32 0#32)) H ⟨fun v8 H =>
 G' v8 false ⟨some (fr 1)⟩ H ⟨fun v10 H =>
 G' v8 false ⟨bn' .quo v10 (W32 2#32)⟩ H ⟨fun v11 H =>
 G' v8 false ⟨z_du (some .i64) v11⟩ H ⟨fun v12 H =>
 G' v8 false ⟨some (fr 0)⟩ H ⟨fun v13 H =>
 G' v8 false ⟨anil v13⟩ H ⟨fun v14 H =>
 G' v8 false ⟨fa' 0 v14⟩ H ⟨fun v15 H =>
 G' v8 false ⟨ld' v15 H⟩ H ⟨fun v16 H =>
 G' v8 false ⟨alenR .sl v16⟩ H ⟨fun v17 H =>
 G' v8 false ⟨bn' .geq v12 v17⟩ H ⟨fun v18 H =>
 q' (apick v8 (.bool true) v18) H ⟨fun v19 H =>
 e' [(0, fr 0), (1, fr 1), (19, v19)] H⟩⟩⟩⟩⟩⟩⟩⟩⟩⟩⟩⟩)
@[simp] def r2 (fr : AFr) (H : Hp) : ARes :=
 areg (e' [(4, (W16 0#16)), (5, (.int .i64 50))] H)
@[simp] def r3 (fr : AFr) (H : Hp) : ARes :=
 areg (q' (anil (fr 0)) H ⟨fun v21 H =>
 q' (fa' 0 v21) H ⟨fun v22 H =>
 q' (ld' v22 H) H ⟨fun v23 H =>
 q' (bn' .quo (fr 1) (W32 2#32)) H ⟨fun v25 H =>
 q' (z_aa (.sl 1) v23 v25) H ⟨fun v26 H =>
 q' (ld' v26 H) H ⟨fun v27 H =>
 e' [(4, v27), (5, (.int .i64 0))] H⟩⟩⟩⟩⟩⟩)
@[simp] def body (fr : AFr) (H : Hp) : ARes :=
 s' (r0 fr H) ⟨fun fr H =>
 s' (s' (r1 fr H) ⟨fun fr H =>
 c' (fr 19)
 ⟨s' (r2 fr H) ⟨fun fr H =>
 some (.ret, fr, H)⟩⟩
 ⟨some (.normal, fr, H)⟩⟩) ⟨fun fr H =>
 s' (r3 fr H) ⟨fun fr H =>
 some (.ret, fr, H)⟩⟩⟩
@[simp] def res (fr : AFr) (H : Hp) : Option (List AV) := res2 (some (fr 4)) (res2 (some (fr 5)) (some []))
end z_ay
def z_ay (a0 a1 : AV) (H : Hp) : Option (AV × Hp) := forget H (afinR z_ay.res (z_ay.body (args0 [a0, a1]) H))
def z_ay.spec : List AV → Hp → Option (AV × Hp)
 | [a0, a1], H => z_ay a0 a1 H
 | _, _ => none
namespace z_au
def C : Tab := Tab.none
@[simp] def r0 (fr : AFr) (H : Hp) : ARes :=
 areg (e' [(0, fr 0), (1, fr 1)] H)
@[simp] def r1 (fr : AFr) (H : Hp) : ARes :=
 areg (q' (bn' .rem (fr 1) (W32 4#32)) H ⟨fun v9 H =>
 q' (bn' .neq v9 (W32 0#32)) H ⟨fun v10 H =>
 e' [(0, fr 0), (1, fr 1), (10, v10)] H⟩⟩)
@[simp] def r2 (fr : AFr) (H : Hp) : ARes :=
 areg (e' [(4, (W32 0#32)), (5, (.int .i64 50))] H)
@[simp] def r3 (fr : AFr) (H : Hp) : ARes :=
 areg (e' [(0, fr 0), (1, fr 1)] H)
@[simp] def r4 (fr : AFr) (H : Hp) : ARes :=
 areg (q' (bn' .eql (fr 1) (W32 1073741824#32)) H ⟨fun v12 H =>
 e' [(0, fr 0), (1, fr 1), (12, v12)] H⟩)
@[simp] def r5 (fr : AFr) (H : Hp) : ARes :=
 areg (q' (some (fr 0)) H ⟨fun v13 H1 =>
 q' (anil v13) H1 ⟨fun v14 H2 =>
 q' (fa' 3 v14) H2 ⟨fun v15 H3 =>
 q' (ld' v15 H3) H3 ⟨fun v16 H4 =>
 q' (some (fr 0)) H4 ⟨fun v17 H5 =>
 q' (anil v17) H5 ⟨fun v18 H6 =>
 q' (fa' 2 v18) H6 ⟨fun v19 H7 =>
 q' (ld' v19 H7) H7 ⟨fun v20 H8 =>
 q' (alenR .sl v20) H8 ⟨fun v21 H9 =>
 q' (bn' .geq v16 v21) H9 ⟨fun v22 H10 =>
 e' [(0, fr 0), (22, v22)] H10⟩⟩⟩⟩⟩⟩⟩⟩⟩⟩)
@[simp] def r6 (fr : AFr) (H : Hp) : ARes :=
 areg (e' [(4, (W32 0#32)), (5, (.int .i64 51))] H)
@[simp] def r7 (fr : AFr) (H : Hp) : ARes :=
 areg (q' (some (fr 0)) H ⟨fun v23 H1 =>
 q' (some (fr 0)) H1 ⟨fun v24 H2 =>
 q' (anil v24) H2 ⟨fun v25 H3 =>
 q' (fa' 2 v25) H3 ⟨fun v26 H4 =>
 q' (ld' v26 H4) H4 ⟨fun v27 H5 =>
 q' (some (fr 0)) H5 ⟨fun v28 H6 =>
 q' (anil v28) H6 ⟨fun v29 H7 =>
 q' (fa' 3 v29) H7 ⟨fun v30 H8 =>
 q' (ld' v30 H8) H8 ⟨fun v31 H9 =>
 q' (z_aa (.sl 1) v27 v31) H9 ⟨fun v32 H10 =>
 q' (ld' v32 H10) H10 ⟨fun v33 H11 =>
 q' (some (fr 0)) H11 ⟨fun v34 H12 =>
 q' (anil v34) H12 ⟨fun v35 H13 =>
 q' (fa' 3 v35) H13 ⟨fun v36 H14 =>
 q' (ld' v36 H14) H14 ⟨fun v37 H15 =>
 q' (bn' .add v37 (.int .i64 1)) H15 ⟨fun v38 H16 =>
 q' (some v33) H16 ⟨fun v6 H17 =>
 q' (anil v23) H17 ⟨fun v39 H18 =>
 q' (fa' 3 v39) H18 ⟨fun v40 H19 =>
 w' (z_ac (some 1) v40 v38 H19) ⟨fun _ H20 =>
 e' [(0, fr 0), (6, v6)] H20⟩⟩⟩⟩⟩⟩⟩⟩⟩⟩⟩⟩⟩⟩⟩⟩⟩⟩⟩⟩)
@[simp] def r8 (fr : AFr) (H : Hp) : ARes :=
 areg (q' (bn' .geq (fr 1) (W32 536870912#32)) H ⟨fun v42 H =>
 G' v42 true ⟨some (fr 1)⟩ H ⟨fun v44 H =>
 G' v42 true ⟨bn' .sub v44 (W32 536870912#32)⟩ H ⟨fun v45 H =>
 G' v42 true ⟨bn' .quo v45 (W32 4#32)⟩ H ⟨fun v46 H =>
 G' v42 true ⟨z_du (some .i64) v46⟩ H ⟨fun v47 H =>
 G' v42 true ⟨some (fr 0)⟩ H ⟨fun v48 H =>
 G' v42 true ⟨anil v48⟩ H ⟨fun v49 H =>
 G' v42 true ⟨fa' 1 v49⟩ H ⟨fun v50 H =>
 G' v42 true ⟨ld' v50 H⟩ H ⟨fun v51 H =>
 G' v42 true ⟨alenR .sl v51⟩ H ⟨fun v52 H =>
 G' v42 true ⟨bn' .lss v47 v52⟩ H ⟨fun v53 H =>
 q' (apick v42 v53 (.bool false)) H ⟨fun v54 H =>
 e' [(0, fr 0), (1, fr 1), (54, v54)] H⟩⟩⟩⟩⟩⟩⟩⟩⟩⟩⟩⟩)
@[simp] def r9 (fr : AFr) (H : Hp) : ARes :=
 areg (q' (anil (fr 0)) H ⟨fun v56 H =>
 q' (fa' 1 v56) H ⟨fun v57 H =>
 q' (ld' v57 H) H ⟨fun v58 H =>
 q' (bn' .sub (fr 1) (W32 536870912#32)) H ⟨fun v60 H =>
 q' (bn' .quo v60 (W32 4#32)) H ⟨fun v61 H =>
 q' (z_aa (.sl 1) v58 v61) H ⟨fun v62 H =>
 q' (ld' v62 H) H ⟨fun v63 H =>
 e' [(0, fr 0), (6, v63)] H⟩⟩⟩⟩⟩⟩⟩)
@[simp] def r10 (fr : AFr) (H : Hp) : ARes :=
 areg (q' (bn' .quo (fr 1) (W32 2#32)) H ⟨fun v65 H =>
 q' (z_du (some .i64) v65) H ⟨fun v66 H =>
 e' [(0, fr 0), (7, v66)] H⟩⟩)
@[simp] def r11 (fr : AFr) (H : Hp) : ARes :=
 areg (q' (bn' .add (fr 7) (.int .i64 2)) H ⟨fun v68 H =>
 q' (anil (fr 0)) H ⟨fun v70 H =>
 q' (fa' 0 v70) H ⟨fun v71 H =>
 q' (ld' v71 H) H ⟨fun v72 H =>
 q' (alenR .sl v72) H ⟨fun v73 H =>
 q' (bn' .leq v68 v73) H ⟨fun v74 H =>
 e' [(0, fr 0), (7, fr 7), (74, v74)] H⟩⟩⟩⟩⟩⟩)
@[simp] def r12 (fr : AFr) (H : Hp) : ARes :=
 areg (q' (some (fr 0)) H ⟨fun v75 H1 =>
 q' (anil v75) H1 ⟨fun v76 H2 =>
 q' (fa' 0 v76) H2 ⟨fun v77 H3 =>
 q' (ld' v77 H3) H3 ⟨fun v78 H4 =>
 q' (some (fr 7)) H4 ⟨fun v79 H5 =>
 q' (z_aa (.sl 1) v78 v79) H5 ⟨fun v80 H6 =>
 q' (ld' v80 H6) H6 ⟨fun v81 H7 =>
 q' (z_du (some .u32) v81) H7 ⟨fun v82 H8 =>
 q' (some (fr 0)) H8 ⟨fun v83 H9 =>
 q' (anil v83) H9 ⟨fun v84 H10 =>
 q' (fa' 0 v84) H10 ⟨fun v85 H11 =>
 q' (ld' v85 H11) H11 ⟨fun v86 H12 =>
 q' (some (fr 7)) H12 ⟨fun v87 H13 =>
 q' (bn' .add v87 (.int .i64 1)) H13 ⟨fun v88 H14 =>
 q' (z_aa (.sl 1) v86 v88) H14 ⟨fun v89 H15 =>
 q' (ld' v89 H15) H15 ⟨fun v90 H16 =>
 q' (z_du (some .u32) v90) H16 ⟨fun v91 H17 =>
 q' (bn' .mul (W32 65536#32) v91) H17 ⟨fun v92 H18 =>
 q' (bn' .add v82 v92) H18 ⟨fun v93 H19 =>
 q' (some v93) H19 ⟨fun v6 H20 =>
 e' [(0, fr 0), (6, v6)] H20⟩⟩⟩⟩⟩⟩⟩⟩⟩⟩⟩⟩⟩⟩⟩⟩⟩⟩⟩⟩)
@[simp] def r13 (fr : AFr) (H : Hp) : ARes :=
 areg (e' [(4, (W32 0#32)), (5, (.int .i64 50))] H)
@[simp] def r14 (fr : AFr) (H : Hp) : ARes :=
 areg (q' (anil (fr 0)) H ⟨fun v96 H =>
 q' (fa' 4 v96) H ⟨fun v97 H =>
 w' (z_ac (some 1) v97 (fr 6) H) ⟨fun _ H =>
 e' [(6, fr 6)] H⟩⟩⟩)
@[simp] def r15 (fr : AFr) (H : Hp) : ARes :=
 areg (e' [(4, (fr 6)), (5, (.int .i64 0))] H)
@[simp] def body (fr : AFr) (H : Hp) : ARes :=
 s' (r0 fr H) ⟨fun fr H =>
 s' (s' (r1 fr H) ⟨fun fr H =>
 c' (fr 10)
 ⟨s' (r2 fr H) ⟨fun fr H =>
 some (.ret, fr, H)⟩⟩
 ⟨some (.normal, fr, H)⟩⟩) ⟨fun fr H =>
 s' (r3 fr H) ⟨fun fr H =>
 s' (s' (r4 fr H) ⟨fun fr H =>
 c' (fr 12)
 ⟨s' (s' (r5 fr H) ⟨fun fr H =>
 c' (fr 22)
 ⟨s' (r6 fr H) ⟨fun fr H =>
 some (.ret, fr, H)⟩⟩
 ⟨some (.normal, fr, H)⟩⟩) ⟨fun fr H =>
 r7 fr H⟩⟩
 ⟨s' (r8 fr H) ⟨fun fr H =>
 c' (fr 54)
 ⟨r9 fr H⟩
 ⟨s' (r10 fr H) ⟨fun fr H =>
 s' (r11 fr H) ⟨fun fr H =>
 c' (fr 74)
 ⟨r12 fr H⟩
 ⟨s' (r13 fr H) ⟨fun fr H =>
 some (.ret, fr, H)⟩⟩⟩⟩⟩⟩⟩⟩) ⟨fun fr H =>
 s' (r14 fr H) ⟨fun fr H =>
 s' (r15 fr H) ⟨fun fr H =>
 some (.ret, fr, H)⟩⟩⟩⟩⟩⟩
@[simp] def res (fr : AFr) (H : Hp) : Option (List AV) := res2 (some (fr 4)) (res2 (some (fr 5)) (some []))
end z_au
def z_au (a0 a1 : AV) (H : Hp) : Option (AV × Hp) := forget H (afinR z_au.res (z_au.body (args0 [a0, a1]) H))
def z_au.spec : List AV → Hp → Option (AV × Hp)
 | [a0, a1], H => z_au a0 a1 H
 | _, _ => none
namespace z_a6
def C : Tab := Tab.none
@[simp] def r0 (fr : AFr) (H : Hp) : ARes :=
 areg (e' [(0, fr 0), (1, fr 1), (2, fr 2)] H)
@[simp] def r1 (fr : AFr) (H : Hp) : ARes :=
 areg (q' (bn' .rem (fr 1) (W32 4#32)) H ⟨fun v8 H =>
 q' (bn' .neq v8 (W32 0#32)) H ⟨fun v9 H =>
 G' v9 false ⟨some (fr 1)⟩ H ⟨fun v11 H =>
 G' v9 false ⟨bn' .lss v11 (W32 536870912#32)⟩ H ⟨fun v12 H =>
 q' (apick v9 (.bool true) v12) H ⟨fun v13 H =>
 G' v13 false ⟨some (fr 1)⟩ H ⟨fun v15 H =>
 G' v13 false ⟨bn' .sub v15 (W32 536870912#32)⟩ H ⟨fun v16 H =>
 G' v13 false ⟨bn' .quo v16 (W32 4#32)⟩ H ⟨fun v17 H =>
 G' v13 false ⟨z_du (some .i64) v17⟩ H ⟨fun v18 H =>
 G' v13 false ⟨some (fr 0)⟩ H ⟨fun v19 H =>
 G' v13 false ⟨anil v19⟩ H ⟨fun v20 H =>
 G' v13 false ⟨fa' 1 v20⟩ H ⟨fun v21 H =>
 G' v13 false ⟨ld' v21 H⟩ H ⟨fun v22 H =>
 G' v13 false ⟨alenR .sl v22⟩ H ⟨fun v23 H =>
 G' v13 false ⟨bn' .geq v18 v23⟩ H ⟨fun v24 H =>
 q' (apick v13 (.bool true) v24) H ⟨fun v25 H =>
 e' [(0, fr 0), (1, fr 1), (2, fr 2), (25, v25)] H⟩⟩⟩⟩⟩⟩⟩⟩⟩⟩⟩⟩⟩⟩⟩⟩)
@[simp] def r2 (fr : AFr) (H : Hp) : ARes :=
 areg (e' [(6, (.int .i64 50))] H)
@[simp] def r3 (fr : AFr) (H : Hp) : ARes :=
 areg (q' (anil (fr 0)) H ⟨fun v27 H =>
 q' (fa' 1 v27) H ⟨fun v28 H =>
 q' (ld' v28 H) H ⟨fun v29 H =>
 q' (bn' .sub (fr 1) (W32 536870912#32)) H ⟨fun v31 H =>
 q' (bn' .quo v31 (W32 4#32)) H ⟨fun v32 H =>
 q' (z_aa (.sl 1) v29 v32) H ⟨fun v36 H =>
 w' (z_ac (some 1) v36 (fr 2) H) ⟨fun _ H =>
 q' (anil (fr 0)) H ⟨fun v37 H =>
 q' (fa' 4 v37) H ⟨fun v38 H =>
 w' (z_ac (some 1) v38 (fr 2) H) ⟨fun _ H =>
 e' [] H⟩⟩⟩⟩⟩⟩⟩⟩⟩⟩)
@[simp] def r4 (fr : AFr) (H : Hp) : ARes :=
 areg (e' [(6, (.int .i64 0))] H)
@[simp] def body (fr : AFr) (H : Hp) : ARes :=
 s' (r0 fr H) ⟨fun fr H =>
 s' (s' (r1 fr H) ⟨fun fr H =>
 c' (fr 25)
 ⟨s' (r2 fr H) ⟨fun fr H =>
 some (.ret, fr, H)⟩⟩
 ⟨some (.normal, fr, H)⟩⟩) ⟨fun fr H =>
 s' (r3 fr H) ⟨fun fr H =>
 s' (r4 fr H) ⟨fun fr H =>
 some (.ret, fr, H)⟩⟩⟩⟩
@[simp] def res (fr : AFr) (H : Hp) : Option (List AV) := res2 (some (fr 6)) (some [])
end z_a6
def z_a6 (a0 a1 a2 : AV) (H : Hp) : Option (AV × Hp) := forget H (afinR z_a6.res (z_a6.body (args0 [a0, a1, a2]) H))
def z_a6.spec : List AV → Hp → Option (AV × Hp)
 | [a0, a1, a2], H => z_a6 a0 a1 a2 H
 | _, _ => none
end
end Go.Abs
end
section
namespace Go.Abs
noncomputable section
end
end Go.Abs
end
section
namespace Go.Abs
noncomputable section
namespace z_bu
def C : Tab := Tab.none
@[simp] def r0 (fr : AFr) (H : Hp) : ARes :=
 areg (e' [(0, fr 0)] H)
@[simp] def r1 (fr : AFr) (H : Hp) : ARes :=
 areg (o' (z_ae (some ⟨T.ty_bool, 1, 1, [(.bool false)]⟩) 0 [] H) ⟨fun v5 H =>
 e' [(0, fr 0), (3, v5)] H⟩)
@[simp] def r2 (fr : AFr) (H : Hp) : ARes :=
 areg (e' [(0, fr 0), (3, fr 3), (4, (.int .i64 0))] H)
@[simp] def r3 (fr : AFr) (H : Hp) : ARes :=
 areg (q' (bn' .lss (fr 4) (.int .i64 32)) H ⟨fun v7 H =>
 e' [(0, fr 0), (3, fr 3), (4, fr 4), (7, v7)] H⟩)
@[simp] def r5 (fr : AFr) (H : Hp) : ARes :=
 areg (q' (bn' .rem (fr 0) (W32 2#32)) H ⟨fun v12 H =>
 q' (bn' .eql v12 (W32 1#32)) H ⟨fun v13 H =>
 o' (z_ae (some ⟨T.ty_bool, 1, 1, [(.bool false)]⟩) 1 [(0, v13)] H) ⟨fun v14 H =>
 o' (z_bt (some ⟨T.ty_bool, 1, 1, [(.bool false)]⟩) (fr 3) v14 H) ⟨fun v15 H =>
 e' [(0, fr 0), (3, v15), (4, fr 4)] H⟩⟩⟩⟩)
@[simp] def r6 (fr : AFr) (H : Hp) : ARes :=
 areg (q' (bn' .quo (fr 0) (W32 2#32)) H ⟨fun v17 H =>
 e' [(0, v17), (3, fr 3), (4, fr 4)] H⟩)
@[simp] def r4 (fr : AFr) (H : Hp) : ARes :=
 areg (q' (bn' .add (fr 4) (.int .i64 1)) H ⟨fun v9 H =>
 e' [(0, fr 0), (3, fr 3), (4, v9)] H⟩)
@[simp] def r7 (fr : AFr) (H : Hp) : ARes :=
 areg (e' [(2, (fr 3))] H)
def l0 (fr : AFr) (H : Hp) : ARes :=
 s' (s' (r3 fr H) ⟨fun fr H =>
 c' (fr 7)
 ⟨some (.normal, fr, H)⟩
 ⟨some (.exit 0, fr, H)⟩⟩) ⟨fun fr H =>
 s' (aexit 1 (s' (r5 fr H) ⟨fun fr H =>
 r6 fr H⟩)) ⟨fun fr H =>
 r4 fr H⟩⟩
@[simp] def body (fr : AFr) (H : Hp) : ARes :=
 s' (r0 fr H) ⟨fun fr H =>
 s' (r1 fr H) ⟨fun fr H =>
 s' (s' (r2 fr H) ⟨fun fr H =>
 aexit 0 (aloop (l0) fr H)⟩) ⟨fun fr H =>
 s' (r7 fr H) ⟨fun fr H =>
 some (.ret, fr, H)⟩⟩⟩⟩
@[simp] def res (fr : AFr) (H : Hp) : Option (List AV) := res2 (some (fr 2)) (some [])
end z_bu
def z_bu (a0 : AV) : Option AV := z_ap (some [[some 1]]) (afinR z_bu.res (z_bu.body (args0 [a0]) Hp.empty))
def z_bu.spec : List AV → Option AV
 | [a0] => z_bu a0
 | _ => none
namespace z_br
def C : Tab := Tab.none
@[simp] def r0 (fr : AFr) (H : Hp) : ARes :=
 areg (e' [(0, fr 0)] H)
@[simp] def r1 (fr : AFr) (H : Hp) : ARes :=
 areg (e' [(0, fr 0), (3, (W32 0#32))] H)
@[simp] def r2 (fr : AFr) (H : Hp) : ARes :=
 areg (q' (alenR .sl (fr 0)) H ⟨fun v6 H =>
 q' (bn' .sub v6 (.int .i64 1)) H ⟨fun v7 H =>
 e' [(0, fr 0), (3, fr 3), (4, v7)] H⟩⟩)
@[simp] def r3 (fr : AFr) (H : Hp) : ARes :=
 areg (q' (bn' .geq (fr 4) (.int .i64 0)) H ⟨fun v9 H =>
 e' [(0, fr 0), (3, fr 3), (4, fr 4), (9, v9)] H⟩)
@[simp] def r5 (fr : AFr) (H : Hp) : ARes :=
 areg (q' (bn' .mul (fr 3) (W32 2#32)) H ⟨fun v13 H =>
 e' [(0, fr 0), (3, v13), (4, fr 4)] H⟩)
@[simp] def r6 (fr : AFr) (H : Hp) : ARes :=
 areg (q' (z_aa (.sl 1) (fr 0) (fr 4)) H ⟨fun v16 H =>
 q' (ld' v16 H) H ⟨fun v17 H =>
 e' [(0, fr 0), (3, fr 3), (4, fr 4), (17, v17)] H⟩⟩)
@[simp] def r7 (fr : AFr) (H : Hp) : ARes :=
 areg (q' (bn' .add (fr 3) (W32 1#32)) H ⟨fun v19 H =>
 e' [(0, fr 0), (3, v19), (4, fr 4)] H⟩)
@[simp] def r4 (fr : AFr) (H : Hp) : ARes :=
 areg (q' (bn' .sub (fr 4) (.int .i64 1)) H ⟨fun v11 H =>
 e' [(0, fr 0), (3, fr 3), (4, v11)] H⟩)
@[simp] def r8 (fr : AFr) (H : Hp) : ARes :=
 areg (e' [(2, (fr 3))] H)
def l0 (fr : AFr) (H : Hp) : ARes :=
 s' (s' (r3 fr H) ⟨fun fr H =>
 c' (fr 9)
 ⟨some (.normal, fr, H)⟩
 ⟨some (.exit 0, fr, H)⟩⟩) ⟨fun fr H =>
 s' (aexit 1 (s' (r5 fr H) ⟨fun fr H =>
 s' (r6 fr H) ⟨fun fr H =>
 c' (fr 17)
 ⟨r7 fr H⟩
 ⟨some (.normal, fr, H)⟩⟩⟩)) ⟨fun fr H =>
 r4 fr H⟩⟩
@[simp] def body (fr : AFr) (H : Hp) : ARes :=
 s' (r0 fr H) ⟨fun fr H =>
 s' (r1 fr H) ⟨fun fr H =>
 s' (s' (r2 fr H) ⟨fun fr H =>
 aexit 0 (aloop (l0) fr H)⟩) ⟨fun fr H =>
 s' (r8 fr H) ⟨fun fr H =>
 some (.ret, fr, H)⟩⟩⟩⟩
@[simp] def res (fr : AFr) (H : Hp) : Option (List AV) := res2 (some (fr 2)) (some [])
end z_br
def z_br (a0 : AV) : Option AV := z_ap (some [[none]]) (afinR z_br.res (z_br.body (args0 [a0]) Hp.empty))
def z_br.spec : List AV → Option AV
 | [a0] => z_br a0
 | _ => none
namespace z_c5
def C (s0 s1 : SpecP) : Tab := ((Tab.none.add 96 (.pure false s0)).add 97 (.pure false s1))
@[simp] def r0 (fr : AFr) (H : Hp) : ARes :=
 areg (e' [(0, fr 0), (1, fr 1), (2, fr 2)] H)
@[simp] def r1 (s0 : SpecP) (fr : AFr) (H : Hp) : ARes :=
 areg (o' (callP false s0 [[none]] [(fr 0)] H) ⟨fun v15 H =>
 o' (callP false s0 [[none]] [(fr 1)] H) ⟨fun v17 H =>
 o' (z_ae (some ⟨T.ty_bool, 1, 1, [(.bool false)]⟩) 0 [] H) ⟨fun v18 H =>
 e' [(2, fr 2), (9, v15), (10, v17), (11, v18)] H⟩⟩⟩)
@[simp] def r2 (fr : AFr) (H : Hp) : ARes :=
 areg (e' [(2, fr 2), (9, fr 9), (10, fr 10), (11, fr 11), (12, (.int .i64 0))] H)
@[simp] def r3 (fr : AFr) (H : Hp) : ARes :=
 areg (q' (bn' .lss (fr 12) (.int .i64 32)) H ⟨fun v20 H =>
 e' [(2, fr 2), (9, fr 9), (10, fr 10), (11, fr 11), (12, fr 12), (20, v20)] H⟩)
@[simp] def r5 (fr : AFr) (H : Hp) : ARes :=
 areg (e' [(2, fr 2), (9, fr 9), (10, fr 10), (11, fr 11), (12, fr 12), (13, (.int .i64 0))] H)
@[simp] def r6 (fr : AFr) (H : Hp) : ARes :=
 areg (q' (z_aa (.sl 1) (fr 9) (fr 12)) H ⟨fun v25 H =>
 q' (ld' v25 H) H ⟨fun v26 H =>
 e' [(2, fr 2), (9, fr 9), (10, fr 10), (11, fr 11), (12, fr 12), (13, fr 13), (26, v26)] H⟩⟩)
@[simp] def r7 (fr : AFr) (H : Hp) : ARes :=
 areg (q' (bn' .add (fr 13) (.int .i64 1)) H ⟨fun v28 H =>
 e' [(2, fr 2), (9, fr 9), (10, fr 10), (11, fr 11), (12, fr 12), (13, v28)] H⟩)
@[simp] def r8 (fr : AFr) (H : Hp) : ARes :=
 areg (q' (z_aa (.sl 1) (fr 10) (fr 12)) H ⟨fun v31 H =>
 q' (ld' v31 H) H ⟨fun v32 H =>
 e' [(2, fr 2), (9, fr 9), (10, fr 10), (11, fr 11), (12, fr 12), (13, fr 13), (32, v32)] H⟩⟩)
@[simp] def r9 (fr : AFr) (H : Hp) : ARes :=
 areg (q' (bn' .add (fr 13) (.int .i64 1)) H ⟨fun v34 H =>
 e' [(2, fr 2), (9, fr 9), (10, fr 10), (11, fr 11), (12, fr 12), (13, v34)] H⟩)
@[simp] def r10 (fr : AFr) (H : Hp) : ARes :=
 areg (e' [(9, fr 9), (10, fr 10), (11, fr 11), (12, fr 12), (13, fr 13), (35, (fr 2))] H)
@[simp] def r11 (fr : AFr) (H : Hp) : ARes :=
 areg (q' (bn' .add (fr 13) (.int .i64 1)) H ⟨fun v37 H =>
 e' [(9, fr 9), (10, fr 10), (11, fr 11), (12, fr 12), (13, v37)] H⟩)
@[simp] def r12 (fr : AFr) (H : Hp) : ARes :=
 areg (q' (bn' .rem (fr 13) (.int .i64 2)) H ⟨fun v40 H =>
 q' (bn' .eql v40 (.int .i64 1)) H ⟨fun v41 H =>
 o' (z_ae (some ⟨T.ty_bool, 1, 1, [(.bool false)]⟩) 1 [(0, v41)] H) ⟨fun v42 H =>
 o' (z_bt (some ⟨T.ty_bool, 1, 1, [(.bool false)]⟩) (fr 11) v42 H) ⟨fun v43 H =>
 q' (bn' .gtr (fr 13) (.int .i64 1)) H ⟨fun v45 H =>
 e' [(2, v45), (9, fr 9), (10, fr 10), (11, v43), (12, fr 12)] H⟩⟩⟩⟩⟩)
@[simp] def r4 (fr : AFr) (H : Hp) : ARes :=
 areg (q' (bn' .add (fr 12) (.int .i64 1)) H ⟨fun v22 H =>
 e' [(2, fr 2), (9, fr 9), (10, fr 10), (11, fr 11), (12, v22)] H⟩)
@[simp] def r13 (s1 : SpecP) (fr : AFr) (H : Hp) : ARes :=
 areg (q' (some (fr 11)) H ⟨fun v46 H1 =>
 o' (callP false s1 [[some 1]] [v46] H1) ⟨fun v47 H2 =>
 q' (some (fr 2)) H2 ⟨fun v48 H3 =>
 q' (some (fr 9)) H3 ⟨fun v49 H4 =>
 q' (z_aa (.sl 1) v49 (.int .i64 31)) H4 ⟨fun v50 H5 =>
 q' (ld' v50 H5) H5 ⟨fun v51 H6 =>
 q' (some (fr 10)) H6 ⟨fun v52 H7 =>
 q' (z_aa (.sl 1) v52 (.int .i64 31)) H7 ⟨fun v53 H8 =>
 q' (ld' v53 H8) H8 ⟨fun v54 H9 =>
 q' (abinR .b .eql v51 v54) H9 ⟨fun v55 H10 =>
 q' (some v55) H10 ⟨fun v56 H11 =>
 G' v56 true ⟨some (fr 11)⟩ H11 ⟨fun v57 H12 =>
 G' v56 true ⟨z_aa (.sl 1) v57 (.int .i64 31)⟩ H12 ⟨fun v58 H13 =>
 G' v56 true ⟨ld' v58 H13⟩ H13 ⟨fun v59 H14 =>
 G' v56 true ⟨some (fr 9)⟩ H14 ⟨fun v60 H15 =>
 G' v56 true ⟨z_aa (.sl 1) v60 (.int .i64 31)⟩ H15 ⟨fun v61 H16 =>
 G' v56 true ⟨ld' v61 H16⟩ H16 ⟨fun v62 H17 =>
 G' v56 true ⟨abinR .b .neq v59 v62⟩ H17 ⟨fun v63 H18 =>
 q' (apick v56 v63 (.bool false)) H18 ⟨fun v64 H19 =>
 q' (some v47) H19 ⟨fun v6 H20 =>
 q' (some v48) H20 ⟨fun v7 H21 =>
 q' (some v64) H21 ⟨fun v8 H22 =>
 z_bw [z_am (some none) v50 H1 = z_am (some none) v50 H2, z_am (some none) v53 H1 = z_am (some none) v53 H2] (e' [(6, v6), (7, v7), (8, v8)] H22)⟩⟩⟩⟩⟩⟩⟩⟩⟩⟩⟩⟩⟩⟩⟩⟩⟩⟩⟩⟩⟩⟩)
def l0 (s0 s1 : SpecP) (fr : AFr) (H : Hp) : ARes :=
 s' (s' (r3 fr H) ⟨fun fr H =>
 c' (fr 20)
 ⟨some (.normal, fr, H)⟩
 ⟨some (.exit 0, fr, H)⟩⟩) ⟨fun fr H =>
 s' (aexit 1 (s' (r5 fr H) ⟨fun fr H =>
 s' (s' (r6 fr H) ⟨fun fr H =>
 c' (fr 26)
 ⟨r7 fr H⟩
 ⟨some (.normal, fr, H)⟩⟩) ⟨fun fr H =>
 s' (s' (r8 fr H) ⟨fun fr H =>
 c' (fr 32)
 ⟨r9 fr H⟩
 ⟨some (.normal, fr, H)⟩⟩) ⟨fun fr H =>
 s' (s' (r10 fr H) ⟨fun fr H =>
 c' (fr 35)
 ⟨r11 fr H⟩
 ⟨some (.normal, fr, H)⟩⟩) ⟨fun fr H =>
 r12 fr H⟩⟩⟩⟩)) ⟨fun fr H =>
 r4 fr H⟩⟩
@[simp] def body (s0 s1 : SpecP) (fr : AFr) (H : Hp) : ARes :=
 s' (r0 fr H) ⟨fun fr H =>
 s' (r1 s0 fr H) ⟨fun fr H =>
 s' (s' (r2 fr H) ⟨fun fr H =>
 aexit 0 (aloop (l0 s0 s1) fr H)⟩) ⟨fun fr H =>
 s' (r13 s1 fr H) ⟨fun fr H =>
 some (.ret, fr, H)⟩⟩⟩⟩
@[simp] def res (fr : AFr) (H : Hp) : Option (List AV) := res2 (some (fr 6)) (res2 (some (fr 7)) (res2 (some (fr 8)) (some [])))
end z_c5
def z_c5 (a0 a1 a2 : AV) : Option AV := z_ap (some [[none], [none], [none]]) (afinR z_c5.res (z_c5.body z_bu.spec z_br.spec (args0 [a0, a1, a2]) Hp.empty))
def z_c5.spec : List AV → Option AV
 | [a0, a1, a2] => z_c5 a0 a1 a2
 | _ => none
namespace z_aq
def C (s0 s1 : SpecP) : Tab := ((Tab.none.add 96 (.pure false s0)).add 97 (.pure false s1))
@[simp] def r0 (fr : AFr) (H : Hp) : ARes :=
 areg (e' [(0, fr 0), (1, fr 1), (2, fr 2), (3, fr 3)] H)
@[simp] def r1 (fr : AFr) (H : Hp) : ARes :=
 areg (q' (bn' .lss (fr 0) (.int .i64 0)) H ⟨fun v15 H =>
 G' v15 false ⟨some (fr 0)⟩ H ⟨fun v17 H =>
 G' v15 false ⟨bn' .gtr v17 (.int .i64 3)⟩ H ⟨fun v18 H =>
 q' (apick v15 (.bool true) v18) H ⟨fun v19 H =>
 e' [(0, fr 0), (1, fr 1), (2, fr 2), (3, fr 3), (19, v19)] H⟩⟩⟩⟩)
@[simp] def r2 (fr : AFr) (H : Hp) : ARes :=
 areg (e' [(8, (W32 0#32)), (9, (.bool false))] H)
@[simp] def r3 (fr : AFr) (H : Hp) : ARes :=
 areg (q' (bn' .eql (fr 0) (.int .i64 3)) H ⟨fun v21 H =>
 G' v21 true ⟨some (fr 2)⟩ H ⟨fun v23 H =>
 G' v21 true ⟨bn' .gtr v23 (W32 64#32)⟩ H ⟨fun v24 H =>
 q' (apick v21 v24 (.bool false)) H ⟨fun v25 H =>
 e' [(0, fr 0), (1, fr 1), (2, fr 2), (3, fr 3), (25, v25)] H⟩⟩⟩⟩)
@[simp] def r4 (fr : AFr) (H : Hp) : ARes :=
 areg (q' (bn' .rem (fr 2) (W32 32#32)) H ⟨fun v27 H =>
 q' (bn' .add (W32 32#32) v27) H ⟨fun v28 H =>
 e' [(0, fr 0), (1, fr 1), (2, v28), (3, fr 3)] H⟩⟩)
@[simp] def r5 (s0 : SpecP) (fr : AFr) (H : Hp) : ARes :=
 areg (o' (callP false s0 [[none]] [(fr 1)] H) ⟨fun v30 H =>
 e' [(0, fr 0), (2, fr 2), (3, fr 3), (10, v30)] H⟩)
@[simp] def r6 (fr : AFr) (H : Hp) : ARes :=
 areg (e' [(0, fr 0), (2, fr 2), (3, fr 3), (10, fr 10), (11, (W32 0#32))] H)
@[simp] def r7 (fr : AFr) (H : Hp) : ARes :=
 areg (q' (bn' .lss (fr 11) (fr 2)) H ⟨fun v33 H =>
 G' v33 true ⟨some (fr 11)⟩ H ⟨fun v35 H =>
 G' v33 true ⟨bn' .lss v35 (W32 70#32)⟩ H ⟨fun v36 H =>
 q' (apick v33 v36 (.bool false)) H ⟨fun v37 H =>
 e' [(0, fr 0), (2, fr 2), (3, fr 3), (10, fr 10), (11, fr 11), (37, v37)] H⟩⟩⟩⟩)
@[simp] def r9 (fr : AFr) (H : Hp) : ARes :=
 areg (o' (z_gs (some ⟨T.ty_bool, 1, 1, [(.bool false)]⟩) (.int .i64 32) (.int .i64 32) H) ⟨fun v40 H =>
 e' [(0, fr 0), (2, fr 2), (10, fr 10), (11, fr 11), (12, v40)] H⟩)
@[simp] def r10 (fr : AFr) (H : Hp) : ARes :=
 areg (e' [(0, fr 0), (2, fr 2), (10, fr 10), (11, fr 11), (12, fr 12), (13, (.int .i64 0))] H)
@[simp] def r11 (fr : AFr) (H : Hp) : ARes :=
 areg (q' (bn' .lss (fr 13) (.int .i64 32)) H ⟨fun v42 H =>
 e' [(0, fr 0), (2, fr 2), (10, fr 10), (11, fr 11), (12, fr 12), (13, fr 13), (42, v42)] H⟩)
@[simp] def r13 (fr : AFr) (H : Hp) : ARes :=
 areg (q' (bn' .eql (fr 0) (.int .i64 0)) H ⟨fun v46 H =>
 G' v46 true ⟨some (fr 13)⟩ H ⟨fun v48 H =>
 G' v46 true ⟨bn' .gtr v48 (.int .i64 0)⟩ H ⟨fun v49 H =>
 q' (apick v46 v49 (.bool false)) H ⟨fun v50 H =>
 e' [(0, fr 0), (2, fr 2), (10, fr 10), (11, fr 11), (12, fr 12), (13, fr 13), (50, v50)] H⟩⟩⟩⟩)
@[simp] def r14 (fr : AFr) (H : Hp) : ARes :=
 areg (q' (bn' .sub (fr 13) (.int .i64 1)) H ⟨fun v55 H =>
 q' (z_aa (.sl 1) (fr 10) v55) H ⟨fun v56 H =>
 q' (ld' v56 H) H ⟨fun v57 H =>
 q' (z_aa (.sl 1) (fr 12) (fr 13)) H ⟨fun v58 H =>
 w' (z_ac (some 1) v58 v57 H) ⟨fun _ H =>
 e' [(0, fr 0), (2, fr 2), (10, fr 10), (11, fr 11), (12, fr 12), (13, fr 13)] H⟩⟩⟩⟩⟩)
@[simp] def r15 (fr : AFr) (H : Hp) : ARes :=
 areg (q' (bn' .gtr (fr 0) (.int .i64 0)) H ⟨fun v60 H =>
 G' v60 true ⟨some (fr 13)⟩ H ⟨fun v62 H =>
 G' v60 true ⟨bn' .lss v62 (.int .i64 31)⟩ H ⟨fun v63 H =>
 q' (apick v60 v63 (.bool false)) H ⟨fun v64 H =>
 e' [(0, fr 0), (2, fr 2), (10, fr 10), (11, fr 11), (12, fr 12), (13, fr 13), (64, v64)] H⟩⟩⟩⟩)
@[simp] def r16 (fr : AFr) (H : Hp) : ARes :=
 areg (q' (bn' .add (fr 13) (.int .i64 1)) H ⟨fun v69 H =>
 q' (z_aa (.sl 1) (fr 10) v69) H ⟨fun v70 H =>
 q' (ld' v70 H) H ⟨fun v71 H =>
 q' (z_aa (.sl 1) (fr 12) (fr 13)) H ⟨fun v72 H =>
 w' (z_ac (some 1) v72 v71 H) ⟨fun _ H =>
 e' [(0, fr 0), (2, fr 2), (10, fr 10), (11, fr 11), (12, fr 12), (13, fr 13)] H⟩⟩⟩⟩⟩)
@[simp] def r12 (fr : AFr) (H : Hp) : ARes :=
 areg (q' (bn' .add (fr 13) (.int .i64 1)) H ⟨fun v44 H =>
 e' [(0, fr 0), (2, fr 2), (10, fr 10), (11, fr 11), (12, fr 12), (13, v44)] H⟩)
@[simp] def r17 (fr : AFr) (H : Hp) : ARes :=
 areg (q' (bn' .eql (fr 0) (.int .i64 0)) H ⟨fun v74 H =>
 e' [(0, fr 0), (2, fr 2), (10, fr 10), (11, fr 11), (12, fr 12), (74, v74)] H⟩)
@[simp] def r18 (fr : AFr) (H : Hp) : ARes :=
 areg (q' (z_aa (.sl 1) (fr 10) (.int .i64 31)) H ⟨fun v76 H =>
 q' (ld' v76 H) H ⟨fun v77 H =>
 e' [(0, fr 0), (2, fr 2), (3, v77), (10, fr 10), (11, fr 11), (12, fr 12)] H⟩⟩)
@[simp] def r19 (fr : AFr) (H : Hp) : ARes :=
 areg (q' (z_aa (.sl 1) (fr 10) (.int .i64 0)) H ⟨fun v79 H =>
 q' (ld' v79 H) H ⟨fun v80 H =>
 e' [(0, fr 0), (2, fr 2), (3, v80), (10, fr 10), (11, fr 11), (12, fr 12)] H⟩⟩)
@[simp] def r20 (fr : AFr) (H : Hp) : ARes :=
 areg (q' (bn' .eql (fr 0) (.int .i64 2)) H ⟨fun v82 H =>
 e' [(0, fr 0), (2, fr 2), (3, fr 3), (10, fr 10), (11, fr 11), (12, fr 12), (82, v82)] H⟩)
@[simp] def r21 (fr : AFr) (H : Hp) : ARes :=
 areg (q' (z_aa (.sl 1) (fr 10) (.int .i64 31)) H ⟨fun v85 H =>
 q' (ld' v85 H) H ⟨fun v86 H =>
 q' (z_aa (.sl 1) (fr 12) (.int .i64 31)) H ⟨fun v87 H =>
 w' (z_ac (some 1) v87 v86 H) ⟨fun _ H =>
 e' [(0, fr 0), (2, fr 2), (3, fr 3), (10, fr 10), (11, fr 11), (12, fr 12)] H⟩⟩⟩⟩)
@[simp] def r22 (fr : AFr) (H : Hp) : ARes :=
 areg (q' (bn' .eql (fr 0) (.int .i64 3)) H ⟨fun v89 H =>
 e' [(0, fr 0), (2, fr 2), (3, fr 3), (10, fr 10), (11, fr 11), (12, fr 12), (89, v89)] H⟩)
@[simp] def r23 (fr : AFr) (H : Hp) : ARes :=
 areg (q' (z_aa (.sl 1) (fr 10) (.int .i64 0)) H ⟨fun v92 H =>
 q' (ld' v92 H) H ⟨fun v93 H =>
 q' (z_aa (.sl 1) (fr 12) (.int .i64 31)) H ⟨fun v94 H =>
 w' (z_ac (some 1) v94 v93 H) ⟨fun _ H =>
 e' [(0, fr 0), (2, fr 2), (3, fr 3), (11, fr 11), (12, fr 12)] H⟩⟩⟩⟩)
@[simp] def r24 (fr : AFr) (H : Hp) : ARes :=
 areg (e' [(0, fr 0), (2, fr 2), (3, fr 3), (10, (fr 12)), (11, fr 11)] H)
@[simp] def r8 (fr : AFr) (H : Hp) : ARes :=
 areg (q' (bn' .add (fr 11) (W32 1#32)) H ⟨fun v39 H =>
 e' [(0, fr 0), (2, fr 2), (3, fr 3), (10, fr 10), (11, v39)] H⟩)
@[simp] def r25 (s1 : SpecP) (fr : AFr) (H : Hp) : ARes :=
 areg (o' (callP false s1 [[some 1]] [(fr 10)] H) ⟨fun v97 H =>
 e' [(8, v97), (9, (fr 3))] H⟩)
def l1 (s0 s1 : SpecP) (fr : AFr) (H : Hp) : ARes :=
 s' (s' (r11 fr H) ⟨fun fr H =>
 c' (fr 42)
 ⟨some (.normal, fr, H)⟩
 ⟨some (.exit 2, fr, H)⟩⟩) ⟨fun fr H =>
 s' (aexit 3 (s' (s' (r13 fr H) ⟨fun fr H =>
 c' (fr 50)
 ⟨r14 fr H⟩
 ⟨some (.normal, fr, H)⟩⟩) ⟨fun fr H =>
 s' (r15 fr H) ⟨fun fr H =>
 c' (fr 64)
 ⟨r16 fr H⟩
 ⟨some (.normal, fr, H)⟩⟩⟩)) ⟨fun fr H =>
 r12 fr H⟩⟩
def l0 (s0 s1 : SpecP) (fr : AFr) (H : Hp) : ARes :=
 s' (s' (r7 fr H) ⟨fun fr H =>
 c' (fr 37)
 ⟨some (.normal, fr, H)⟩
 ⟨some (.exit 0, fr, H)⟩⟩) ⟨fun fr H =>
 s' (aexit 1 (s' (r9 fr H) ⟨fun fr H =>
 s' (s' (r10 fr H) ⟨fun fr H =>
 aexit 2 (aloop (l1 s0 s1) fr H)⟩) ⟨fun fr H =>
 s' (s' (r17 fr H) ⟨fun fr H =>
 c' (fr 74)
 ⟨r18 fr H⟩
 ⟨r19 fr H⟩⟩) ⟨fun fr H =>
 s' (s' (r20 fr H) ⟨fun fr H =>
 c' (fr 82)
 ⟨r21 fr H⟩
 ⟨some (.normal, fr, H)⟩⟩) ⟨fun fr H =>
 s' (s' (r22 fr H) ⟨fun fr H =>
 c' (fr 89)
 ⟨r23 fr H⟩
 ⟨some (.normal, fr, H)⟩⟩) ⟨fun fr H =>
 r24 fr H⟩⟩⟩⟩⟩)) ⟨fun fr H =>
 r8 fr H⟩⟩
@[simp] def body (s0 s1 : SpecP) (fr : AFr) (H : Hp) : ARes :=
 s' (r0 fr H) ⟨fun fr H =>
 s' (s' (r1 fr H) ⟨fun fr H =>
 c' (fr 19)
 ⟨s' (r2 fr H) ⟨fun fr H =>
 some (.ret, fr, H)⟩⟩
 ⟨some (.normal, fr, H)⟩⟩) ⟨fun fr H =>
 s' (s' (r3 fr H) ⟨fun fr H =>
 c' (fr 25)
 ⟨r4 fr H⟩
 ⟨some (.normal, fr, H)⟩⟩) ⟨fun fr H =>
 s' (r5 s0 fr H) ⟨fun fr H =>
 s' (s' (r6 fr H) ⟨fun fr H =>
 aexit 0 (aloop (l0 s0 s1) fr H)⟩) ⟨fun fr H =>
 s' (r25 s1 fr H) ⟨fun fr H =>
 some (.ret, fr, H)⟩⟩⟩⟩⟩⟩
@[simp] def res (fr : AFr) (H : Hp) : Option (List AV) := res2 (some (fr 8)) (res2 (some (fr 9)) (some []))
end z_aq
def z_aq (a0 a1 a2 a3 : AV) : Option AV := z_ap (some [[none], [none]]) (afinR z_aq.res (z_aq.body z_bu.spec z_br.spec (args0 [a0, a1, a2, a3]) Hp.empty))
def z_aq.spec : List AV → Option AV
 | [a0, a1, a2, a3] => z_aq a0 a1 a2 a3
 | _ => none
end
end Go.Abs
end
end
