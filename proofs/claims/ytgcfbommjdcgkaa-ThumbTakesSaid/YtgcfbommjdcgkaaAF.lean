/-
  The functions, as they are over abstract values. Printed by gen.py.
-/
import Derived.Test.YtgcfbommjdcgkaaT
set_option linter.unusedVariables false
namespace Go.Abs
/-! bauta/thumb.shapes: function 46 -/
namespace thumb_shapes
noncomputable def C : Tab := Tab.none
@[simp] noncomputable def r0 (fr : AFr) (H : AHeap) : ARes :=
  areg (@opi _ (aallocR T.ty_thumb_shape (some (.agg [(W16 0#16), (W8 0#8), (.int .i64 0), (.int .i64 0), (W8 0#8), (.int .i64 0), (.int .i64 0), (W8 0#8), (.int .i64 0), (.int .i64 0), (.int .i64 0), (.int .i64 0)])) H) ⟨fun v2 H =>
    some (AFr.al [(0, fr 0), (2, v2)], H)⟩)
@[simp] noncomputable def r1 (fr : AFr) (H : AHeap) : ARes :=
  areg (@opi _ (lift (abuildR (.str [(W8 0#8), (.int .i64 0), (.int .i64 0)] [(0, 1), (1, 1), (2, 1)]) [(0, (W8 100#8)), (1, (.int .i64 0)), (2, (.int .i64 3))]) H) ⟨fun v8 H =>
    @opi _ (lift (abuildR (.str [(W8 0#8), (.int .i64 0), (.int .i64 0)] [(0, 1), (1, 1), (2, 1)]) [(0, (W8 110#8)), (1, (.int .i64 3)), (2, (.int .i64 3))]) H) ⟨fun v9 H =>
    @opi _ (lift (abuildR (.str [(W8 0#8), (.int .i64 0), (.int .i64 0)] [(0, 1), (1, 1), (2, 1)]) [(0, (W8 109#8)), (1, (.int .i64 6)), (2, (.int .i64 3))]) H) ⟨fun v10 H =>
    @opi _ (aallocR T.ty_thumb_part (some (.agg [(W8 0#8), (.int .i64 0), (.int .i64 0)])) H) ⟨fun v3 H =>
    @opi _ (aallocR T.ty_thumb_part (some (.agg [(W8 0#8), (.int .i64 0), (.int .i64 0)])) H) ⟨fun v4 H =>
    @opi _ (aallocR T.ty_thumb_part (some (.agg [(W8 0#8), (.int .i64 0), (.int .i64 0)])) H) ⟨fun v5 H =>
    @opi _ (liftS (astoreR (some 3) v3 v8 H)) ⟨fun _ H =>
    @opi _ (liftS (astoreR (some 3) v4 v9 H)) ⟨fun _ H =>
    @opi _ (liftS (astoreR (some 3) v5 v10 H)) ⟨fun _ H =>
    some (AFr.al [(0, fr 0), (2, fr 2), (3, v3), (4, v4), (5, v5)], H)⟩⟩⟩⟩⟩⟩⟩⟩⟩)
@[simp] noncomputable def r2 (fr : AFr) (H : AHeap) : ARes :=
  areg (@opi _ (lift (abuildR (.str [(W8 0#8), (.int .i64 0), (.int .i64 0)] [(0, 1), (1, 1), (2, 1)]) [(0, (W8 105#8)), (1, (.int .i64 0)), (2, (.int .i64 8))]) H) ⟨fun v11 H =>
    @opi _ (lift (abuildR (.str [(W8 0#8), (.int .i64 0), (.int .i64 0)] [(0, 1), (1, 1), (2, 1)]) [(0, (W8 109#8)), (1, (.int .i64 3)), (2, (.int .i64 3))]) H) ⟨fun v12 H =>
    @opi _ (aallocR T.ty_thumb_part (some (.agg [(W8 0#8), (.int .i64 0), (.int .i64 0)])) H) ⟨fun v6 H =>
    @opi _ (aallocR T.ty_thumb_part (some (.agg [(W8 0#8), (.int .i64 0), (.int .i64 0)])) H) ⟨fun v7 H =>
    @opi _ (liftS (astoreR (some 3) v6 v11 H)) ⟨fun _ H =>
    @opi _ (liftS (astoreR (some 3) v7 v12 H)) ⟨fun _ H =>
    some (AFr.al [(0, fr 0), (2, fr 2), (3, fr 3), (4, fr 4), (5, fr 5), (6, v6), (7, v7)], H)⟩⟩⟩⟩⟩⟩)
@[simp] noncomputable def r3 (fr : AFr) (H : AHeap) : ARes :=
  areg (@opi _ (lift (some (fr 0)) H) ⟨fun v13 H =>
    some (AFr.al [(0, fr 0), (2, fr 2), (3, fr 3), (4, fr 4), (5, fr 5), (6, fr 6), (7, fr 7), (13, v13)], H)⟩)
@[simp] noncomputable def r4 (fr : AFr) (H : AHeap) : ARes :=
  areg (@opi _ (lift (abinR .x .eql (fr 13) (.int .i64 0)) H) ⟨fun v15 H =>
    @opi _ (lift (some v15) H) ⟨fun v14 H =>
    some (AFr.al [(0, fr 0), (2, fr 2), (3, fr 3), (4, fr 4), (5, fr 5), (6, fr 6), (7, fr 7), (13, fr 13), (14, v14)], H)⟩⟩)
@[simp] noncomputable def r5 (fr : AFr) (H : AHeap) : ARes :=
  areg (@opi _ (lift (abinR .x .eql (fr 13) (.int .i64 1)) H) ⟨fun v16 H =>
    @opi _ (lift (some v16) H) ⟨fun v14 H =>
    some (AFr.al [(0, fr 0), (2, fr 2), (3, fr 3), (4, fr 4), (5, fr 5), (6, fr 6), (7, fr 7), (13, fr 13), (14, v14)], H)⟩⟩)
@[simp] noncomputable def r6 (fr : AFr) (H : AHeap) : ARes :=
  areg (@opi _ (lift (abinR .x .eql (fr 13) (.int .i64 2)) H) ⟨fun v17 H =>
    @opi _ (lift (some v17) H) ⟨fun v14 H =>
    some (AFr.al [(0, fr 0), (2, fr 2), (3, fr 3), (4, fr 4), (5, fr 5), (6, fr 6), (7, fr 7), (13, fr 13), (14, v14)], H)⟩⟩)
@[simp] noncomputable def r7 (fr : AFr) (H : AHeap) : ARes :=
  areg (@opi _ (lift (abinR .x .eql (fr 13) (.int .i64 3)) H) ⟨fun v18 H =>
    @opi _ (lift (some v18) H) ⟨fun v14 H =>
    some (AFr.al [(0, fr 0), (2, fr 2), (3, fr 3), (4, fr 4), (5, fr 5), (6, fr 6), (7, fr 7), (13, fr 13), (14, v14)], H)⟩⟩)
@[simp] noncomputable def r8 (fr : AFr) (H : AHeap) : ARes :=
  areg (@opi _ (lift (some (fr 0)) H) ⟨fun v19 H =>
    @opi _ (lift (abinR .x .add (.int .i64 4) v19) H) ⟨fun v20 H =>
    @opi _ (lift (abinR .x .sub v20 (.int .i64 0)) H) ⟨fun v21 H =>
    @opi _ (lift (aconvR (some .u16) v21) H) ⟨fun v22 H =>
    @opi _ (lift (abinR .x .shl v22 (W64 11#64)) H) ⟨fun v23 H =>
    @opi _ (lift (abuildR (.str [(W8 0#8), (.int .i64 0), (.int .i64 0)] [(0, 1), (1, 1), (2, 1)]) [(0, (W8 100#8)), (1, (.int .i64 8)), (2, (.int .i64 3))]) H) ⟨fun v24 H =>
    @opi _ (lift (aloadR (some (some 3)) (fr 6) H) H) ⟨fun v25 H =>
    @opi _ (lift (abuildR (.arr [(W8 0#8), (.int .i64 0), (.int .i64 0), (W8 0#8), (.int .i64 0), (.int .i64 0), (W8 0#8), (.int .i64 0), (.int .i64 0)] 3) [(0, v24), (1, v25)]) H) ⟨fun v26 H =>
    @opi _ (lift (abuildR (.str [(W16 0#16), (W8 0#8), (.int .i64 0), (.int .i64 0), (W8 0#8), (.int .i64 0), (.int .i64 0), (W8 0#8), (.int .i64 0), (.int .i64 0), (.int .i64 0), (.int .i64 0)] [(0, 1), (1, 9), (10, 1), (11, 1)]) [(0, v23), (1, v26), (2, (.int .i64 0)), (3, (.int .i64 255))]) H) ⟨fun v27 H =>
    @opi _ (liftS (astoreR (some 12) (fr 2) v27 H)) ⟨fun _ H =>
    some (AFr.al [(2, fr 2)], H)⟩⟩⟩⟩⟩⟩⟩⟩⟩⟩)
@[simp] noncomputable def r9 (fr : AFr) (H : AHeap) : ARes :=
  areg (@opi _ (lift (abinR .x .eql (fr 13) (.int .i64 4)) H) ⟨fun v29 H =>
    @opi _ (lift (some v29) H) ⟨fun v28 H =>
    some (AFr.al [(0, fr 0), (2, fr 2), (3, fr 3), (4, fr 4), (5, fr 5), (6, fr 6), (7, fr 7), (13, fr 13), (28, v28)], H)⟩⟩)
@[simp] noncomputable def r10 (fr : AFr) (H : AHeap) : ARes :=
  areg (@opi _ (lift (abuildR (.str [(W8 0#8), (.int .i64 0), (.int .i64 0)] [(0, 1), (1, 1), (2, 1)]) [(0, (W8 105#8)), (1, (.int .i64 6)), (2, (.int .i64 5))]) H) ⟨fun v30 H =>
    @opi _ (lift (aloadR (some (some 3)) (fr 7) H) H) ⟨fun v31 H =>
    @opi _ (lift (aloadR (some (some 3)) (fr 3) H) H) ⟨fun v32 H =>
    @opi _ (lift (abuildR (.arr [(W8 0#8), (.int .i64 0), (.int .i64 0), (W8 0#8), (.int .i64 0), (.int .i64 0), (W8 0#8), (.int .i64 0), (.int .i64 0)] 3) [(0, v30), (1, v31), (2, v32)]) H) ⟨fun v33 H =>
    @opi _ (lift (abuildR (.str [(W16 0#16), (W8 0#8), (.int .i64 0), (.int .i64 0), (W8 0#8), (.int .i64 0), (.int .i64 0), (W8 0#8), (.int .i64 0), (.int .i64 0), (.int .i64 0), (.int .i64 0)] [(0, 1), (1, 9), (10, 1), (11, 1)]) [(0, (W16 0#16)), (1, v33), (2, (.int .i64 0)), (3, (.int .i64 31))]) H) ⟨fun v34 H =>
    @opi _ (liftS (astoreR (some 12) (fr 2) v34 H)) ⟨fun _ H =>
    some (AFr.al [(2, fr 2)], H)⟩⟩⟩⟩⟩⟩)
@[simp] noncomputable def r11 (fr : AFr) (H : AHeap) : ARes :=
  areg (@opi _ (lift (abinR .x .eql (fr 13) (.int .i64 5)) H) ⟨fun v36 H =>
    @opi _ (lift (some v36) H) ⟨fun v35 H =>
    some (AFr.al [(0, fr 0), (2, fr 2), (3, fr 3), (4, fr 4), (5, fr 5), (6, fr 6), (7, fr 7), (13, fr 13), (35, v35)], H)⟩⟩)
@[simp] noncomputable def r12 (fr : AFr) (H : AHeap) : ARes :=
  areg (@opi _ (lift (abinR .x .eql (fr 13) (.int .i64 6)) H) ⟨fun v37 H =>
    @opi _ (lift (some v37) H) ⟨fun v35 H =>
    some (AFr.al [(0, fr 0), (2, fr 2), (3, fr 3), (4, fr 4), (5, fr 5), (6, fr 6), (7, fr 7), (13, fr 13), (35, v35)], H)⟩⟩)
@[simp] noncomputable def r13 (fr : AFr) (H : AHeap) : ARes :=
  areg (@opi _ (lift (some (fr 0)) H) ⟨fun v38 H =>
    @opi _ (lift (abinR .x .sub v38 (.int .i64 4)) H) ⟨fun v39 H =>
    @opi _ (lift (aconvR (some .u16) v39) H) ⟨fun v40 H =>
    @opi _ (lift (abinR .x .shl v40 (W64 11#64)) H) ⟨fun v41 H =>
    @opi _ (lift (abuildR (.str [(W8 0#8), (.int .i64 0), (.int .i64 0)] [(0, 1), (1, 1), (2, 1)]) [(0, (W8 105#8)), (1, (.int .i64 6)), (2, (.int .i64 5))]) H) ⟨fun v42 H =>
    @opi _ (lift (aloadR (some (some 3)) (fr 7) H) H) ⟨fun v43 H =>
    @opi _ (lift (aloadR (some (some 3)) (fr 3) H) H) ⟨fun v44 H =>
    @opi _ (lift (abuildR (.arr [(W8 0#8), (.int .i64 0), (.int .i64 0), (W8 0#8), (.int .i64 0), (.int .i64 0), (W8 0#8), (.int .i64 0), (.int .i64 0)] 3) [(0, v42), (1, v43), (2, v44)]) H) ⟨fun v45 H =>
    @opi _ (lift (abuildR (.str [(W16 0#16), (W8 0#8), (.int .i64 0), (.int .i64 0), (W8 0#8), (.int .i64 0), (.int .i64 0), (W8 0#8), (.int .i64 0), (.int .i64 0), (.int .i64 0), (.int .i64 0)] [(0, 1), (1, 9), (10, 1), (11, 1)]) [(0, v41), (1, v45), (2, (.int .i64 1)), (3, (.int .i64 32))]) H) ⟨fun v46 H =>
    @opi _ (liftS (astoreR (some 12) (fr 2) v46 H)) ⟨fun _ H =>
    some (AFr.al [(2, fr 2)], H)⟩⟩⟩⟩⟩⟩⟩⟩⟩⟩)
@[simp] noncomputable def r14 (fr : AFr) (H : AHeap) : ARes :=
  areg (@opi _ (lift (abinR .x .eql (fr 13) (.int .i64 7)) H) ⟨fun v48 H =>
    @opi _ (lift (some v48) H) ⟨fun v47 H =>
    some (AFr.al [(0, fr 0), (2, fr 2), (3, fr 3), (4, fr 4), (5, fr 5), (6, fr 6), (7, fr 7), (13, fr 13), (47, v47)], H)⟩⟩)
@[simp] noncomputable def r15 (fr : AFr) (H : AHeap) : ARes :=
  areg (@opi _ (lift (abinR .x .eql (fr 13) (.int .i64 8)) H) ⟨fun v49 H =>
    @opi _ (lift (some v49) H) ⟨fun v47 H =>
    some (AFr.al [(0, fr 0), (2, fr 2), (3, fr 3), (4, fr 4), (5, fr 5), (6, fr 6), (7, fr 7), (13, fr 13), (47, v47)], H)⟩⟩)
@[simp] noncomputable def r16 (fr : AFr) (H : AHeap) : ARes :=
  areg (@opi _ (lift (some (fr 0)) H) ⟨fun v50 H =>
    @opi _ (lift (abinR .x .add (.int .i64 12) v50) H) ⟨fun v51 H =>
    @opi _ (lift (abinR .x .sub v51 (.int .i64 7)) H) ⟨fun v52 H =>
    @opi _ (lift (aconvR (some .u16) v52) H) ⟨fun v53 H =>
    @opi _ (lift (abinR .x .shl v53 (W64 9#64)) H) ⟨fun v54 H =>
    @opi _ (lift (aloadR (some (some 3)) (fr 5) H) H) ⟨fun v55 H =>
    @opi _ (lift (aloadR (some (some 3)) (fr 4) H) H) ⟨fun v56 H =>
    @opi _ (lift (aloadR (some (some 3)) (fr 3) H) H) ⟨fun v57 H =>
    @opi _ (lift (abuildR (.arr [(W8 0#8), (.int .i64 0), (.int .i64 0), (W8 0#8), (.int .i64 0), (.int .i64 0), (W8 0#8), (.int .i64 0), (.int .i64 0)] 3) [(0, v55), (1, v56), (2, v57)]) H) ⟨fun v58 H =>
    @opi _ (lift (abuildR (.str [(W16 0#16), (W8 0#8), (.int .i64 0), (.int .i64 0), (W8 0#8), (.int .i64 0), (.int .i64 0), (W8 0#8), (.int .i64 0), (.int .i64 0), (.int .i64 0), (.int .i64 0)] [(0, 1), (1, 9), (10, 1), (11, 1)]) [(0, v54), (1, v58), (2, (.int .i64 0)), (3, (.int .i64 0))]) H) ⟨fun v59 H =>
    @opi _ (liftS (astoreR (some 12) (fr 2) v59 H)) ⟨fun _ H =>
    some (AFr.al [(2, fr 2)], H)⟩⟩⟩⟩⟩⟩⟩⟩⟩⟩⟩)
@[simp] noncomputable def r17 (fr : AFr) (H : AHeap) : ARes :=
  areg (@opi _ (lift (abinR .x .eql (fr 13) (.int .i64 9)) H) ⟨fun v61 H =>
    @opi _ (lift (some v61) H) ⟨fun v60 H =>
    some (AFr.al [(0, fr 0), (2, fr 2), (3, fr 3), (4, fr 4), (5, fr 5), (6, fr 6), (7, fr 7), (13, fr 13), (60, v60)], H)⟩⟩)
@[simp] noncomputable def r18 (fr : AFr) (H : AHeap) : ARes :=
  areg (@opi _ (lift (abinR .x .eql (fr 13) (.int .i64 10)) H) ⟨fun v62 H =>
    @opi _ (lift (some v62) H) ⟨fun v60 H =>
    some (AFr.al [(0, fr 0), (2, fr 2), (3, fr 3), (4, fr 4), (5, fr 5), (6, fr 6), (7, fr 7), (13, fr 13), (60, v60)], H)⟩⟩)
@[simp] noncomputable def r19 (fr : AFr) (H : AHeap) : ARes :=
  areg (@opi _ (lift (some (fr 0)) H) ⟨fun v63 H =>
    @opi _ (lift (abinR .x .add (.int .i64 14) v63) H) ⟨fun v64 H =>
    @opi _ (lift (abinR .x .sub v64 (.int .i64 9)) H) ⟨fun v65 H =>
    @opi _ (lift (aconvR (some .u16) v65) H) ⟨fun v66 H =>
    @opi _ (lift (abinR .x .shl v66 (W64 9#64)) H) ⟨fun v67 H =>
    @opi _ (lift (abuildR (.str [(W8 0#8), (.int .i64 0), (.int .i64 0)] [(0, 1), (1, 1), (2, 1)]) [(0, (W8 105#8)), (1, (.int .i64 6)), (2, (.int .i64 3))]) H) ⟨fun v68 H =>
    @opi _ (lift (aloadR (some (some 3)) (fr 4) H) H) ⟨fun v69 H =>
    @opi _ (lift (aloadR (some (some 3)) (fr 3) H) H) ⟨fun v70 H =>
    @opi _ (lift (abuildR (.arr [(W8 0#8), (.int .i64 0), (.int .i64 0), (W8 0#8), (.int .i64 0), (.int .i64 0), (W8 0#8), (.int .i64 0), (.int .i64 0)] 3) [(0, v68), (1, v69), (2, v70)]) H) ⟨fun v71 H =>
    @opi _ (lift (abuildR (.str [(W16 0#16), (W8 0#8), (.int .i64 0), (.int .i64 0), (W8 0#8), (.int .i64 0), (.int .i64 0), (W8 0#8), (.int .i64 0), (.int .i64 0), (.int .i64 0), (.int .i64 0)] [(0, 1), (1, 9), (10, 1), (11, 1)]) [(0, v67), (1, v71), (2, (.int .i64 0)), (3, (.int .i64 7))]) H) ⟨fun v72 H =>
    @opi _ (liftS (astoreR (some 12) (fr 2) v72 H)) ⟨fun _ H =>
    some (AFr.al [(2, fr 2)], H)⟩⟩⟩⟩⟩⟩⟩⟩⟩⟩⟩)
@[simp] noncomputable def r20 (fr : AFr) (H : AHeap) : ARes :=
  areg (@opi _ (lift (abinR .x .eql (fr 13) (.int .i64 11)) H) ⟨fun v74 H =>
    @opi _ (lift (some v74) H) ⟨fun v73 H =>
    some (AFr.al [(2, fr 2), (3, fr 3), (4, fr 4), (5, fr 5), (6, fr 6), (7, fr 7), (13, fr 13), (73, v73)], H)⟩⟩)
@[simp] noncomputable def r21 (fr : AFr) (H : AHeap) : ARes :=
  areg (@opi _ (lift (abuildR (.str [(W8 0#8), (.int .i64 0), (.int .i64 0)] [(0, 1), (1, 1), (2, 1)]) [(0, (W8 105#8)), (1, (.int .i64 6)), (2, (.int .i64 4))]) H) ⟨fun v75 H =>
    @opi _ (lift (aloadR (some (some 3)) (fr 7) H) H) ⟨fun v76 H =>
    @opi _ (lift (aloadR (some (some 3)) (fr 3) H) H) ⟨fun v77 H =>
    @opi _ (lift (abuildR (.arr [(W8 0#8), (.int .i64 0), (.int .i64 0), (W8 0#8), (.int .i64 0), (.int .i64 0), (W8 0#8), (.int .i64 0), (.int .i64 0)] 3) [(0, v75), (1, v76), (2, v77)]) H) ⟨fun v78 H =>
    @opi _ (lift (abuildR (.str [(W16 0#16), (W8 0#8), (.int .i64 0), (.int .i64 0), (W8 0#8), (.int .i64 0), (.int .i64 0), (W8 0#8), (.int .i64 0), (.int .i64 0), (.int .i64 0), (.int .i64 0)] [(0, 1), (1, 9), (10, 1), (11, 1)]) [(0, (W16 16384#16)), (1, v78), (2, (.int .i64 0)), (3, (.int .i64 15))]) H) ⟨fun v79 H =>
    @opi _ (liftS (astoreR (some 12) (fr 2) v79 H)) ⟨fun _ H =>
    some (AFr.al [(2, fr 2)], H)⟩⟩⟩⟩⟩⟩)
@[simp] noncomputable def r22 (fr : AFr) (H : AHeap) : ARes :=
  areg (@opi _ (lift (abinR .x .eql (fr 13) (.int .i64 12)) H) ⟨fun v81 H =>
    @opi _ (lift (some v81) H) ⟨fun v80 H =>
    some (AFr.al [(2, fr 2), (3, fr 3), (4, fr 4), (5, fr 5), (6, fr 6), (13, fr 13), (80, v80)], H)⟩⟩)
@[simp] noncomputable def r23 (fr : AFr) (H : AHeap) : ARes :=
  areg (@opi _ (lift (abuildR (.str [(W8 0#8), (.int .i64 0), (.int .i64 0)] [(0, 1), (1, 1), (2, 1)]) [(0, (W8 105#8)), (1, (.int .i64 6)), (2, (.int .i64 5))]) H) ⟨fun v82 H =>
    @opi _ (lift (aloadR (some (some 3)) (fr 4) H) H) ⟨fun v83 H =>
    @opi _ (lift (aloadR (some (some 3)) (fr 3) H) H) ⟨fun v84 H =>
    @opi _ (lift (abuildR (.arr [(W8 0#8), (.int .i64 0), (.int .i64 0), (W8 0#8), (.int .i64 0), (.int .i64 0), (W8 0#8), (.int .i64 0), (.int .i64 0)] 3) [(0, v82), (1, v83), (2, v84)]) H) ⟨fun v85 H =>
    @opi _ (lift (abuildR (.str [(W16 0#16), (W8 0#8), (.int .i64 0), (.int .i64 0), (W8 0#8), (.int .i64 0), (.int .i64 0), (W8 0#8), (.int .i64 0), (.int .i64 0), (.int .i64 0), (.int .i64 0)] [(0, 1), (1, 9), (10, 1), (11, 1)]) [(0, (W16 26624#16)), (1, v85), (2, (.int .i64 0)), (3, (.int .i64 31))]) H) ⟨fun v86 H =>
    @opi _ (liftS (astoreR (some 12) (fr 2) v86 H)) ⟨fun _ H =>
    some (AFr.al [(2, fr 2)], H)⟩⟩⟩⟩⟩⟩)
@[simp] noncomputable def r24 (fr : AFr) (H : AHeap) : ARes :=
  areg (@opi _ (lift (abinR .x .eql (fr 13) (.int .i64 13)) H) ⟨fun v88 H =>
    @opi _ (lift (some v88) H) ⟨fun v87 H =>
    some (AFr.al [(2, fr 2), (3, fr 3), (4, fr 4), (5, fr 5), (6, fr 6), (13, fr 13), (87, v87)], H)⟩⟩)
@[simp] noncomputable def r25 (fr : AFr) (H : AHeap) : ARes :=
  areg (@opi _ (lift (abuildR (.str [(W8 0#8), (.int .i64 0), (.int .i64 0)] [(0, 1), (1, 1), (2, 1)]) [(0, (W8 105#8)), (1, (.int .i64 6)), (2, (.int .i64 5))]) H) ⟨fun v89 H =>
    @opi _ (lift (aloadR (some (some 3)) (fr 4) H) H) ⟨fun v90 H =>
    @opi _ (lift (aloadR (some (some 3)) (fr 3) H) H) ⟨fun v91 H =>
    @opi _ (lift (abuildR (.arr [(W8 0#8), (.int .i64 0), (.int .i64 0), (W8 0#8), (.int .i64 0), (.int .i64 0), (W8 0#8), (.int .i64 0), (.int .i64 0)] 3) [(0, v89), (1, v90), (2, v91)]) H) ⟨fun v92 H =>
    @opi _ (lift (abuildR (.str [(W16 0#16), (W8 0#8), (.int .i64 0), (.int .i64 0), (W8 0#8), (.int .i64 0), (.int .i64 0), (W8 0#8), (.int .i64 0), (.int .i64 0), (.int .i64 0), (.int .i64 0)] [(0, 1), (1, 9), (10, 1), (11, 1)]) [(0, (W16 24576#16)), (1, v92), (2, (.int .i64 0)), (3, (.int .i64 31))]) H) ⟨fun v93 H =>
    @opi _ (liftS (astoreR (some 12) (fr 2) v93 H)) ⟨fun _ H =>
    some (AFr.al [(2, fr 2)], H)⟩⟩⟩⟩⟩⟩)
@[simp] noncomputable def r26 (fr : AFr) (H : AHeap) : ARes :=
  areg (@opi _ (lift (abinR .x .eql (fr 13) (.int .i64 14)) H) ⟨fun v95 H =>
    @opi _ (lift (some v95) H) ⟨fun v94 H =>
    some (AFr.al [(2, fr 2), (3, fr 3), (4, fr 4), (5, fr 5), (6, fr 6), (13, fr 13), (94, v94)], H)⟩⟩)
@[simp] noncomputable def r27 (fr : AFr) (H : AHeap) : ARes :=
  areg (@opi _ (lift (aloadR (some (some 3)) (fr 5) H) H) ⟨fun v96 H =>
    @opi _ (lift (aloadR (some (some 3)) (fr 4) H) H) ⟨fun v97 H =>
    @opi _ (lift (aloadR (some (some 3)) (fr 3) H) H) ⟨fun v98 H =>
    @opi _ (lift (abuildR (.arr [(W8 0#8), (.int .i64 0), (.int .i64 0), (W8 0#8), (.int .i64 0), (.int .i64 0), (W8 0#8), (.int .i64 0), (.int .i64 0)] 3) [(0, v96), (1, v97), (2, v98)]) H) ⟨fun v99 H =>
    @opi _ (lift (abuildR (.str [(W16 0#16), (W8 0#8), (.int .i64 0), (.int .i64 0), (W8 0#8), (.int .i64 0), (.int .i64 0), (W8 0#8), (.int .i64 0), (.int .i64 0), (.int .i64 0), (.int .i64 0)] [(0, 1), (1, 9), (10, 1), (11, 1)]) [(0, (W16 22528#16)), (1, v99), (2, (.int .i64 0)), (3, (.int .i64 0))]) H) ⟨fun v100 H =>
    @opi _ (liftS (astoreR (some 12) (fr 2) v100 H)) ⟨fun _ H =>
    some (AFr.al [(2, fr 2)], H)⟩⟩⟩⟩⟩⟩)
@[simp] noncomputable def r28 (fr : AFr) (H : AHeap) : ARes :=
  areg (@opi _ (lift (abinR .x .eql (fr 13) (.int .i64 15)) H) ⟨fun v102 H =>
    @opi _ (lift (some v102) H) ⟨fun v101 H =>
    some (AFr.al [(2, fr 2), (3, fr 3), (4, fr 4), (5, fr 5), (6, fr 6), (13, fr 13), (101, v101)], H)⟩⟩)
@[simp] noncomputable def r29 (fr : AFr) (H : AHeap) : ARes :=
  areg (@opi _ (lift (aloadR (some (some 3)) (fr 5) H) H) ⟨fun v103 H =>
    @opi _ (lift (aloadR (some (some 3)) (fr 4) H) H) ⟨fun v104 H =>
    @opi _ (lift (aloadR (some (some 3)) (fr 3) H) H) ⟨fun v105 H =>
    @opi _ (lift (abuildR (.arr [(W8 0#8), (.int .i64 0), (.int .i64 0), (W8 0#8), (.int .i64 0), (.int .i64 0), (W8 0#8), (.int .i64 0), (.int .i64 0)] 3) [(0, v103), (1, v104), (2, v105)]) H) ⟨fun v106 H =>
    @opi _ (lift (abuildR (.str [(W16 0#16), (W8 0#8), (.int .i64 0), (.int .i64 0), (W8 0#8), (.int .i64 0), (.int .i64 0), (W8 0#8), (.int .i64 0), (.int .i64 0), (.int .i64 0), (.int .i64 0)] [(0, 1), (1, 9), (10, 1), (11, 1)]) [(0, (W16 20480#16)), (1, v106), (2, (.int .i64 0)), (3, (.int .i64 0))]) H) ⟨fun v107 H =>
    @opi _ (liftS (astoreR (some 12) (fr 2) v107 H)) ⟨fun _ H =>
    some (AFr.al [(2, fr 2)], H)⟩⟩⟩⟩⟩⟩)
@[simp] noncomputable def r30 (fr : AFr) (H : AHeap) : ARes :=
  areg (@opi _ (lift (abinR .x .eql (fr 13) (.int .i64 16)) H) ⟨fun v109 H =>
    @opi _ (lift (some v109) H) ⟨fun v108 H =>
    some (AFr.al [(2, fr 2), (6, fr 6), (13, fr 13), (108, v108)], H)⟩⟩)
@[simp] noncomputable def r31 (fr : AFr) (H : AHeap) : ARes :=
  areg (@opi _ (lift (abuildR (.str [(W8 0#8), (.int .i64 0), (.int .i64 0)] [(0, 1), (1, 1), (2, 1)]) [(0, (W8 100#8)), (1, (.int .i64 8)), (2, (.int .i64 3))]) H) ⟨fun v110 H =>
    @opi _ (lift (aloadR (some (some 3)) (fr 6) H) H) ⟨fun v111 H =>
    @opi _ (lift (abuildR (.arr [(W8 0#8), (.int .i64 0), (.int .i64 0), (W8 0#8), (.int .i64 0), (.int .i64 0), (W8 0#8), (.int .i64 0), (.int .i64 0)] 3) [(0, v110), (1, v111)]) H) ⟨fun v112 H =>
    @opi _ (lift (abuildR (.str [(W16 0#16), (W8 0#8), (.int .i64 0), (.int .i64 0), (W8 0#8), (.int .i64 0), (.int .i64 0), (W8 0#8), (.int .i64 0), (.int .i64 0), (.int .i64 0), (.int .i64 0)] [(0, 1), (1, 9), (10, 1), (11, 1)]) [(0, (W16 18432#16)), (1, v112), (2, (.int .i64 0)), (3, (.int .i64 255))]) H) ⟨fun v113 H =>
    @opi _ (liftS (astoreR (some 12) (fr 2) v113 H)) ⟨fun _ H =>
    some (AFr.al [(2, fr 2)], H)⟩⟩⟩⟩⟩)
@[simp] noncomputable def r32 (fr : AFr) (H : AHeap) : ARes :=
  areg (@opi _ (lift (abinR .x .eql (fr 13) (.int .i64 17)) H) ⟨fun v115 H =>
    @opi _ (lift (some v115) H) ⟨fun v114 H =>
    some (AFr.al [(2, fr 2), (6, fr 6), (13, fr 13), (114, v114)], H)⟩⟩)
@[simp] noncomputable def r33 (fr : AFr) (H : AHeap) : ARes :=
  areg (@opi _ (lift (abuildR (.str [(W8 0#8), (.int .i64 0), (.int .i64 0)] [(0, 1), (1, 1), (2, 1)]) [(0, (W8 105#8)), (1, (.int .i64 0)), (2, (.int .i64 11))]) H) ⟨fun v116 H =>
    @opi _ (lift (abuildR (.arr [(W8 0#8), (.int .i64 0), (.int .i64 0), (W8 0#8), (.int .i64 0), (.int .i64 0), (W8 0#8), (.int .i64 0), (.int .i64 0)] 3) [(0, v116)]) H) ⟨fun v117 H =>
    @opi _ (lift (abuildR (.str [(W16 0#16), (W8 0#8), (.int .i64 0), (.int .i64 0), (W8 0#8), (.int .i64 0), (.int .i64 0), (W8 0#8), (.int .i64 0), (.int .i64 0), (.int .i64 0), (.int .i64 0)] [(0, 1), (1, 9), (10, 1), (11, 1)]) [(0, (W16 57344#16)), (1, v117), (2, (.int .i64 (-1024))), (3, (.int .i64 1023))]) H) ⟨fun v118 H =>
    @opi _ (liftS (astoreR (some 12) (fr 2) v118 H)) ⟨fun _ H =>
    some (AFr.al [(2, fr 2)], H)⟩⟩⟩⟩)
@[simp] noncomputable def r34 (fr : AFr) (H : AHeap) : ARes :=
  areg (@opi _ (lift (abinR .x .eql (fr 13) (.int .i64 18)) H) ⟨fun v120 H =>
    @opi _ (lift (some v120) H) ⟨fun v119 H =>
    some (AFr.al [(2, fr 2), (6, fr 6), (13, fr 13), (119, v119)], H)⟩⟩)
@[simp] noncomputable def r35 (fr : AFr) (H : AHeap) : ARes :=
  areg (@opi _ (lift (abuildR (.str [(W8 0#8), (.int .i64 0), (.int .i64 0)] [(0, 1), (1, 1), (2, 1)]) [(0, (W8 99#8)), (1, (.int .i64 8)), (2, (.int .i64 4))]) H) ⟨fun v121 H =>
    @opi _ (lift (aloadR (some (some 3)) (fr 6) H) H) ⟨fun v122 H =>
    @opi _ (lift (abuildR (.arr [(W8 0#8), (.int .i64 0), (.int .i64 0), (W8 0#8), (.int .i64 0), (.int .i64 0), (W8 0#8), (.int .i64 0), (.int .i64 0)] 3) [(0, v121), (1, v122)]) H) ⟨fun v123 H =>
    @opi _ (lift (abuildR (.str [(W16 0#16), (W8 0#8), (.int .i64 0), (.int .i64 0), (W8 0#8), (.int .i64 0), (.int .i64 0), (W8 0#8), (.int .i64 0), (.int .i64 0), (.int .i64 0), (.int .i64 0)] [(0, 1), (1, 9), (10, 1), (11, 1)]) [(0, (W16 53248#16)), (1, v123), (2, (.int .i64 (-128))), (3, (.int .i64 127))]) H) ⟨fun v124 H =>
    @opi _ (liftS (astoreR (some 12) (fr 2) v124 H)) ⟨fun _ H =>
    some (AFr.al [(2, fr 2)], H)⟩⟩⟩⟩⟩)
@[simp] noncomputable def r36 (fr : AFr) (H : AHeap) : ARes :=
  areg (@opi _ (lift (abinR .x .eql (fr 13) (.int .i64 19)) H) ⟨fun v126 H =>
    @opi _ (lift (some v126) H) ⟨fun v125 H =>
    some (AFr.al [(2, fr 2), (6, fr 6), (125, v125)], H)⟩⟩)
@[simp] noncomputable def r37 (fr : AFr) (H : AHeap) : ARes :=
  areg (@opi _ (lift (abuildR (.str [(W16 0#16), (W8 0#8), (.int .i64 0), (.int .i64 0), (W8 0#8), (.int .i64 0), (.int .i64 0), (W8 0#8), (.int .i64 0), (.int .i64 0), (.int .i64 0), (.int .i64 0)] [(0, 1), (1, 9), (10, 1), (11, 1)]) [(0, (W16 48896#16))]) H) ⟨fun v127 H =>
    @opi _ (liftS (astoreR (some 12) (fr 2) v127 H)) ⟨fun _ H =>
    some (AFr.al [(2, fr 2)], H)⟩⟩)
@[simp] noncomputable def r38 (fr : AFr) (H : AHeap) : ARes :=
  areg (@opi _ (lift (aloadR (some (some 3)) (fr 6) H) H) ⟨fun v128 H =>
    @opi _ (lift (abuildR (.arr [(W8 0#8), (.int .i64 0), (.int .i64 0), (W8 0#8), (.int .i64 0), (.int .i64 0), (W8 0#8), (.int .i64 0), (.int .i64 0)] 3) [(0, v128)]) H) ⟨fun v129 H =>
    @opi _ (lift (abuildR (.str [(W16 0#16), (W8 0#8), (.int .i64 0), (.int .i64 0), (W8 0#8), (.int .i64 0), (.int .i64 0), (W8 0#8), (.int .i64 0), (.int .i64 0), (.int .i64 0), (.int .i64 0)] [(0, 1), (1, 9), (10, 1), (11, 1)]) [(0, (W16 48640#16)), (1, v129), (2, (.int .i64 0)), (3, (.int .i64 255))]) H) ⟨fun v130 H =>
    @opi _ (liftS (astoreR (some 12) (fr 2) v130 H)) ⟨fun _ H =>
    some (AFr.al [(2, fr 2)], H)⟩⟩⟩⟩)
@[simp] noncomputable def body (fr : AFr) (H : AHeap) : ARes :=
  @aseqi (r0 fr H) ⟨fun fr H =>
  @aseqi (r1 fr H) ⟨fun fr H =>
  @aseqi (r2 fr H) ⟨fun fr H =>
  @aseqi (@aseqi (r3 fr H) ⟨fun fr H =>
  aexit 0 (@aseqi (@aseqi (r4 fr H) ⟨fun fr H =>
  @acondi (fr 14)
    ⟨some (.normal, fr, H)⟩
    ⟨@aseqi (r5 fr H) ⟨fun fr H =>
    @acondi (fr 14)
      ⟨some (.normal, fr, H)⟩
      ⟨@aseqi (r6 fr H) ⟨fun fr H =>
      @acondi (fr 14)
        ⟨some (.normal, fr, H)⟩
        ⟨r7 fr H⟩⟩⟩⟩⟩⟩) ⟨fun fr H =>
  @acondi (fr 14)
    ⟨@aseqi (r8 fr H) ⟨fun fr H =>
    some (.ret, fr, H)⟩⟩
    ⟨@aseqi (r9 fr H) ⟨fun fr H =>
    @acondi (fr 28)
      ⟨@aseqi (r10 fr H) ⟨fun fr H =>
      some (.ret, fr, H)⟩⟩
      ⟨@aseqi (@aseqi (r11 fr H) ⟨fun fr H =>
      @acondi (fr 35)
        ⟨some (.normal, fr, H)⟩
        ⟨r12 fr H⟩⟩) ⟨fun fr H =>
      @acondi (fr 35)
        ⟨@aseqi (r13 fr H) ⟨fun fr H =>
        some (.ret, fr, H)⟩⟩
        ⟨@aseqi (@aseqi (r14 fr H) ⟨fun fr H =>
        @acondi (fr 47)
          ⟨some (.normal, fr, H)⟩
          ⟨r15 fr H⟩⟩) ⟨fun fr H =>
        @acondi (fr 47)
          ⟨@aseqi (r16 fr H) ⟨fun fr H =>
          some (.ret, fr, H)⟩⟩
          ⟨@aseqi (@aseqi (r17 fr H) ⟨fun fr H =>
          @acondi (fr 60)
            ⟨some (.normal, fr, H)⟩
            ⟨r18 fr H⟩⟩) ⟨fun fr H =>
          @acondi (fr 60)
            ⟨@aseqi (r19 fr H) ⟨fun fr H =>
            some (.ret, fr, H)⟩⟩
            ⟨@aseqi (r20 fr H) ⟨fun fr H =>
            @acondi (fr 73)
              ⟨@aseqi (r21 fr H) ⟨fun fr H =>
              some (.ret, fr, H)⟩⟩
              ⟨@aseqi (r22 fr H) ⟨fun fr H =>
              @acondi (fr 80)
                ⟨@aseqi (r23 fr H) ⟨fun fr H =>
                some (.ret, fr, H)⟩⟩
                ⟨@aseqi (r24 fr H) ⟨fun fr H =>
                @acondi (fr 87)
                  ⟨@aseqi (r25 fr H) ⟨fun fr H =>
                  some (.ret, fr, H)⟩⟩
                  ⟨@aseqi (r26 fr H) ⟨fun fr H =>
                  @acondi (fr 94)
                    ⟨@aseqi (r27 fr H) ⟨fun fr H =>
                    some (.ret, fr, H)⟩⟩
                    ⟨@aseqi (r28 fr H) ⟨fun fr H =>
                    @acondi (fr 101)
                      ⟨@aseqi (r29 fr H) ⟨fun fr H =>
                      some (.ret, fr, H)⟩⟩
                      ⟨@aseqi (r30 fr H) ⟨fun fr H =>
                      @acondi (fr 108)
                        ⟨@aseqi (r31 fr H) ⟨fun fr H =>
                        some (.ret, fr, H)⟩⟩
                        ⟨@aseqi (r32 fr H) ⟨fun fr H =>
                        @acondi (fr 114)
                          ⟨@aseqi (r33 fr H) ⟨fun fr H =>
                          some (.ret, fr, H)⟩⟩
                          ⟨@aseqi (r34 fr H) ⟨fun fr H =>
                          @acondi (fr 119)
                            ⟨@aseqi (r35 fr H) ⟨fun fr H =>
                            some (.ret, fr, H)⟩⟩
                            ⟨@aseqi (r36 fr H) ⟨fun fr H =>
                            @acondi (fr 125)
                              ⟨@aseqi (r37 fr H) ⟨fun fr H =>
                              some (.ret, fr, H)⟩⟩
                              ⟨some (.normal, fr, H)⟩⟩⟩⟩⟩⟩⟩⟩⟩⟩⟩⟩⟩⟩⟩⟩⟩⟩⟩⟩⟩⟩⟩⟩⟩⟩⟩⟩)⟩) ⟨fun fr H =>
  @aseqi (r38 fr H) ⟨fun fr H =>
  some (.ret, fr, H)⟩⟩⟩⟩⟩
@[simp] def res (fr : AFr) (H : AHeap) : Option (List AV) := res2 (aloadR (some (some 12)) (fr 2) H) (some [])
end thumb_shapes
noncomputable def thumb_shapes (a0 : AV) : Option AV := closeUpR (some [[none, none, none, none, none, none, none, none, none, none, none, none]]) (afinR thumb_shapes.res (thumb_shapes.body (args0 [a0]) AHeap.empty))
noncomputable def thumb_shapes.spec : List AV → Option AV
  | [a0] => thumb_shapes a0
  | _ => none

/-! bauta/thumb.field: function 47 -/
namespace thumb_field
noncomputable def C : Tab := Tab.none
@[simp] noncomputable def r0 (fr : AFr) (H : AHeap) : ARes :=
  areg (@opi _ (lift (some .nilp) H) ⟨fun v4 H =>
    some (AFr.al [(0, fr 0), (1, fr 1)], H)⟩)
@[simp] noncomputable def r1 (fr : AFr) (H : AHeap) : ARes :=
  areg (@opi _ (lift (some (fr 1)) H) ⟨fun v5 H =>
    some (AFr.al [(0, fr 0), (5, v5)], H)⟩)
@[simp] noncomputable def r2 (fr : AFr) (H : AHeap) : ARes :=
  areg (@opi _ (lift (abinR .x .eql (fr 5) (W8 100#8)) H) ⟨fun v7 H =>
    @opi _ (lift (some v7) H) ⟨fun v6 H =>
    some (AFr.al [(0, fr 0), (5, fr 5), (6, v6)], H)⟩⟩)
@[simp] noncomputable def r3 (fr : AFr) (H : AHeap) : ARes :=
  areg (@opi _ (lift (abinR .x .eql (fr 5) (W8 99#8)) H) ⟨fun v8 H =>
    @opi _ (lift (some v8) H) ⟨fun v6 H =>
    some (AFr.al [(0, fr 0), (5, fr 5), (6, v6)], H)⟩⟩)
@[simp] noncomputable def r4 (fr : AFr) (H : AHeap) : ARes :=
  areg (@opi _ (lift (some (fr 0)) H) ⟨fun v9 H =>
    @opi _ (lift (anil v9) H) ⟨fun v10 H =>
    @opi _ (lift (afieldAddrR (some 1) v10) H) ⟨fun v11 H =>
    @opi _ (lift (some v11) H) ⟨fun v4 H =>
    some (AFr.al [(4, v4)], H)⟩⟩⟩⟩)
@[simp] noncomputable def r5 (fr : AFr) (H : AHeap) : ARes :=
  areg (@opi _ (lift (abinR .x .eql (fr 5) (W8 110#8)) H) ⟨fun v13 H =>
    @opi _ (lift (some v13) H) ⟨fun v12 H =>
    some (AFr.al [(0, fr 0), (5, fr 5), (12, v12)], H)⟩⟩)
@[simp] noncomputable def r6 (fr : AFr) (H : AHeap) : ARes :=
  areg (@opi _ (lift (some (fr 0)) H) ⟨fun v14 H =>
    @opi _ (lift (anil v14) H) ⟨fun v15 H =>
    @opi _ (lift (afieldAddrR (some 2) v15) H) ⟨fun v16 H =>
    @opi _ (lift (some v16) H) ⟨fun v4 H =>
    some (AFr.al [(4, v4)], H)⟩⟩⟩⟩)
@[simp] noncomputable def r7 (fr : AFr) (H : AHeap) : ARes :=
  areg (@opi _ (lift (abinR .x .eql (fr 5) (W8 109#8)) H) ⟨fun v18 H =>
    @opi _ (lift (some v18) H) ⟨fun v17 H =>
    some (AFr.al [(0, fr 0), (17, v17)], H)⟩⟩)
@[simp] noncomputable def r8 (fr : AFr) (H : AHeap) : ARes :=
  areg (@opi _ (lift (some (fr 0)) H) ⟨fun v19 H =>
    @opi _ (lift (anil v19) H) ⟨fun v20 H =>
    @opi _ (lift (afieldAddrR (some 3) v20) H) ⟨fun v21 H =>
    @opi _ (lift (some v21) H) ⟨fun v4 H =>
    some (AFr.al [(4, v4)], H)⟩⟩⟩⟩)
@[simp] noncomputable def r9 (fr : AFr) (H : AHeap) : ARes :=
  areg (@opi _ (lift (some (fr 0)) H) ⟨fun v22 H =>
    @opi _ (lift (anil v22) H) ⟨fun v23 H =>
    @opi _ (lift (afieldAddrR (some 4) v23) H) ⟨fun v24 H =>
    @opi _ (lift (some v24) H) ⟨fun v4 H =>
    some (AFr.al [(4, v4)], H)⟩⟩⟩⟩)
@[simp] noncomputable def body (fr : AFr) (H : AHeap) : ARes :=
  @aseqi (r0 fr H) ⟨fun fr H =>
  @aseqi (@aseqi (r1 fr H) ⟨fun fr H =>
  aexit 0 (@aseqi (@aseqi (r2 fr H) ⟨fun fr H =>
  @acondi (fr 6)
    ⟨some (.normal, fr, H)⟩
    ⟨r3 fr H⟩⟩) ⟨fun fr H =>
  @acondi (fr 6)
    ⟨@aseqi (r4 fr H) ⟨fun fr H =>
    some (.ret, fr, H)⟩⟩
    ⟨@aseqi (r5 fr H) ⟨fun fr H =>
    @acondi (fr 12)
      ⟨@aseqi (r6 fr H) ⟨fun fr H =>
      some (.ret, fr, H)⟩⟩
      ⟨@aseqi (r7 fr H) ⟨fun fr H =>
      @acondi (fr 17)
        ⟨@aseqi (r8 fr H) ⟨fun fr H =>
        some (.ret, fr, H)⟩⟩
        ⟨some (.normal, fr, H)⟩⟩⟩⟩⟩⟩)⟩) ⟨fun fr H =>
  @aseqi (r9 fr H) ⟨fun fr H =>
  some (.ret, fr, H)⟩⟩⟩
@[simp] def res (fr : AFr) (H : AHeap) : Option (List AV) := res2 (some (fr 4)) (some [])
end thumb_field
noncomputable def thumb_field (a0 a1 : AV) (H : AHeap) : Option (AV × AHeap) := raw (afinR thumb_field.res (thumb_field.body (args0 [a0, a1]) H))
noncomputable def thumb_field.spec : List AV → AHeap → Option (AV × AHeap)
  | [a0, a1], H => thumb_field a0 a1 H
  | _, _ => none

/-! bauta/thumb.can: function 40 -/
namespace thumb_can
noncomputable def C (s0 : SpecP) (s1 : SpecM) : Tab := ((Tab.none.add 46 (.pure false s0)).add 47 (.ref [false, false] s1))
@[simp] noncomputable def r0 (s0 : SpecP) (s1 : SpecM) (fr : AFr) (H : AHeap) : ARes :=
  areg (@opi _ (abox T.ty_api_Ins (fr 0) H) ⟨fun v1 H =>
    @opi _ (lift (some (.bool false)) H) ⟨fun v2 H =>
    some (AFr.al [(1, v1)], H)⟩⟩)
@[simp] noncomputable def r1 (s0 : SpecP) (s1 : SpecM) (fr : AFr) (H : AHeap) : ARes :=
  areg (@opi _ (lift (afieldAddrR (some 0) (fr 1)) H) ⟨fun v8 H =>
    @opi _ (lift (aloadR (some none) v8 H) H) ⟨fun v9 H =>
    @opi _ (lift (abinR .x .lss v9 (.int .i64 0)) H) ⟨fun v10 H =>
    @opi _ (lift (some v10) H) ⟨fun v11 H =>
    @opi _ (@gdi (gw v11 false) ⟨lift (afieldAddrR (some 0) (fr 1)) H⟩ H) ⟨fun v12 H =>
    @opi _ (@gdi (gw v11 false) ⟨lift (aloadR (some none) v12 H) H⟩ H) ⟨fun v13 H =>
    @opi _ (@gdi (gw v11 false) ⟨lift (abinR .x .geq v13 (.int .i64 21)) H⟩ H) ⟨fun v14 H =>
    @opi _ (lift (apick v11 (.bool true) v14) H) ⟨fun v15 H =>
    some (AFr.al [(1, fr 1), (15, v15)], H)⟩⟩⟩⟩⟩⟩⟩⟩)
@[simp] noncomputable def r2 (s0 : SpecP) (s1 : SpecM) (fr : AFr) (H : AHeap) : ARes :=
  areg (@opi _ (lift (some (.bool false)) H) ⟨fun v2 H =>
    some (AFr.al [(2, v2)], H)⟩)
@[simp] noncomputable def r3 (s0 : SpecP) (s1 : SpecM) (fr : AFr) (H : AHeap) : ARes :=
  areg (@opi _ (lift (afieldAddrR (some 0) (fr 1)) H) ⟨fun v16 H =>
    @opi _ (lift (aloadR (some none) v16 H) H) ⟨fun v17 H =>
    @opi _ (callP false s0 [[none]] [v17] H) ⟨fun v18 H =>
    @opi _ (aallocR T.ty_thumb_shape (some (.agg [(W16 0#16), (W8 0#8), (.int .i64 0), (.int .i64 0), (W8 0#8), (.int .i64 0), (.int .i64 0), (W8 0#8), (.int .i64 0), (.int .i64 0), (.int .i64 0), (.int .i64 0)])) H) ⟨fun v3 H =>
    @opi _ (liftS (astoreR (some 12) v3 v18 H)) ⟨fun _ H =>
    some (AFr.al [(1, fr 1), (3, v3)], H)⟩⟩⟩⟩⟩)
@[simp] noncomputable def r4 (s0 : SpecP) (s1 : SpecM) (fr : AFr) (H : AHeap) : ARes :=
  areg (@opi _ (lift (afieldAddrR (some 4) (fr 1)) H) ⟨fun v19 H =>
    @opi _ (lift (aloadR (some none) v19 H) H) ⟨fun v20 H =>
    @opi _ (lift (afieldAddrR (some 10) (fr 3)) H) ⟨fun v21 H =>
    @opi _ (lift (aloadR (some none) v21 H) H) ⟨fun v22 H =>
    @opi _ (lift (abinR .x .lss v20 v22) H) ⟨fun v23 H =>
    @opi _ (lift (some v23) H) ⟨fun v24 H =>
    @opi _ (@gdi (gw v24 false) ⟨lift (afieldAddrR (some 4) (fr 1)) H⟩ H) ⟨fun v25 H =>
    @opi _ (@gdi (gw v24 false) ⟨lift (aloadR (some none) v25 H) H⟩ H) ⟨fun v26 H =>
    @opi _ (@gdi (gw v24 false) ⟨lift (afieldAddrR (some 11) (fr 3)) H⟩ H) ⟨fun v27 H =>
    @opi _ (@gdi (gw v24 false) ⟨lift (aloadR (some none) v27 H) H⟩ H) ⟨fun v28 H =>
    @opi _ (@gdi (gw v24 false) ⟨lift (abinR .x .gtr v26 v28) H⟩ H) ⟨fun v29 H =>
    @opi _ (lift (apick v24 (.bool true) v29) H) ⟨fun v30 H =>
    some (AFr.al [(1, fr 1), (3, fr 3), (30, v30)], H)⟩⟩⟩⟩⟩⟩⟩⟩⟩⟩⟩⟩)
@[simp] noncomputable def r5 (s0 : SpecP) (s1 : SpecM) (fr : AFr) (H : AHeap) : ARes :=
  areg (@opi _ (lift (some (.bool false)) H) ⟨fun v2 H =>
    some (AFr.al [(2, v2)], H)⟩)
@[simp] noncomputable def r6 (s0 : SpecP) (s1 : SpecM) (fr : AFr) (H : AHeap) : ARes :=
  areg (@opi _ (lift (aloadR (some (some 5)) (fr 1) H) H) ⟨fun v31 H =>
    @opi _ (aallocR T.ty_api_Ins (some (.agg [(.int .i64 0), (.int .i64 0), (.int .i64 0), (.int .i64 0), (.int .i64 0)])) H) ⟨fun v4 H =>
    @opi _ (liftS (astoreR (some 5) v4 v31 H)) ⟨fun _ H =>
    some (AFr.al [(1, fr 1), (3, fr 3), (4, v4)], H)⟩⟩⟩)
@[simp] noncomputable def r7 (s0 : SpecP) (s1 : SpecM) (fr : AFr) (H : AHeap) : ARes :=
  areg (@opi _ (lift (afieldAddrR (some 1) (fr 3)) H) ⟨fun v32 H =>
    @opi _ (lift (aloadR (some (some 9)) v32 H) H) ⟨fun v33 H =>
    @opi _ (lift (some (.int .i64 0)) H) ⟨fun v34 H =>
    some (AFr.al [(1, fr 1), (4, fr 4), (33, v33), (34, v34)], H)⟩⟩⟩)
@[simp] noncomputable def r8 (s0 : SpecP) (s1 : SpecM) (fr : AFr) (H : AHeap) : ARes :=
  areg (@opi _ (lift (abinR .x .lss (fr 34) (.int .i64 3)) H) ⟨fun v35 H =>
    some (AFr.al [(1, fr 1), (4, fr 4), (33, fr 33), (34, fr 34), (35, v35)], H)⟩)
@[simp] noncomputable def r9 (s0 : SpecP) (s1 : SpecM) (fr : AFr) (H : AHeap) : ARes :=
  areg (@opi _ (lift (aindexR (.arr 3 3 (some (some 3))) (fr 33) (fr 34)) H) ⟨fun v36 H =>
    @opi _ (aallocR T.ty_thumb_part (some (.agg [(W8 0#8), (.int .i64 0), (.int .i64 0)])) H) ⟨fun v6 H =>
    @opi _ (liftS (astoreR (some 3) v6 v36 H)) ⟨fun _ H =>
    some (AFr.al [(1, fr 1), (4, fr 4), (6, v6), (33, fr 33), (34, fr 34)], H)⟩⟩⟩)
@[simp] noncomputable def r10 (s0 : SpecP) (s1 : SpecM) (fr : AFr) (H : AHeap) : ARes :=
  areg (@opi _ (lift (afieldAddrR (some 0) (fr 6)) H) ⟨fun v37 H =>
    @opi _ (lift (aloadR (some none) v37 H) H) ⟨fun v38 H =>
    @opi _ (callM [false, false] s1 [[none], [none]] [(fr 1), v38] H) ⟨fun v39 H =>
    @opi _ (lift (anil v39) H) ⟨fun v40 H =>
    @opi _ (lift (aloadR (some none) v40 H) H) ⟨fun v41 H =>
    @opi _ (lift (some v41) H) ⟨fun v7 H =>
    some (AFr.al [(1, fr 1), (4, fr 4), (6, fr 6), (7, v7), (33, fr 33), (34, fr 34)], H)⟩⟩⟩⟩⟩⟩)
@[simp] noncomputable def r11 (s0 : SpecP) (s1 : SpecM) (fr : AFr) (H : AHeap) : ARes :=
  areg (@opi _ (lift (afieldAddrR (some 2) (fr 6)) H) ⟨fun v43 H =>
    @opi _ (lift (aloadR (some none) v43 H) H) ⟨fun v44 H =>
    @opi _ (lift (abinR .x .eql v44 (.int .i64 0)) H) ⟨fun v45 H =>
    @opi _ (lift (some v45) H) ⟨fun v42 H =>
    some (AFr.al [(1, fr 1), (4, fr 4), (6, fr 6), (7, fr 7), (33, fr 33), (34, fr 34), (42, v42)], H)⟩⟩⟩⟩)
@[simp] noncomputable def r12 (s0 : SpecP) (s1 : SpecM) (fr : AFr) (H : AHeap) : ARes :=
  areg (@opi _ (lift (afieldAddrR (some 0) (fr 6)) H) ⟨fun v47 H =>
    @opi _ (lift (aloadR (some none) v47 H) H) ⟨fun v48 H =>
    @opi _ (lift (abinR .x .eql v48 (W8 99#8)) H) ⟨fun v49 H =>
    @opi _ (lift (some v49) H) ⟨fun v50 H =>
    @opi _ (@gdi (gw v50 true) ⟨lift (some (fr 7)) H⟩ H) ⟨fun v51 H =>
    @opi _ (@gdi (gw v50 true) ⟨lift (abinR .x .lss v51 (.int .i64 0)) H⟩ H) ⟨fun v52 H =>
    @opi _ (@gdi (gw v50 true) ⟨lift (some v52) H⟩ H) ⟨fun v53 H =>
    @opi _ (@gdi (gw v53 false) ⟨lift (some (fr 7)) H⟩ H) ⟨fun v54 H =>
    @opi _ (@gdi (gw v53 false) ⟨lift (abinR .x .gtr v54 (.int .i64 13)) H⟩ H) ⟨fun v55 H =>
    @opi _ (@gdi (gw v50 true) ⟨lift (apick v53 (.bool true) v55) H⟩ H) ⟨fun v56 H =>
    @opi _ (lift (apick v50 v56 (.bool false)) H) ⟨fun v57 H =>
    @opi _ (lift (some v57) H) ⟨fun v46 H =>
    some (AFr.al [(1, fr 1), (4, fr 4), (6, fr 6), (7, fr 7), (33, fr 33), (34, fr 34), (46, v46)], H)⟩⟩⟩⟩⟩⟩⟩⟩⟩⟩⟩⟩)
@[simp] noncomputable def r13 (s0 : SpecP) (s1 : SpecM) (fr : AFr) (H : AHeap) : ARes :=
  areg (@opi _ (lift (afieldAddrR (some 0) (fr 6)) H) ⟨fun v58 H =>
    @opi _ (lift (aloadR (some none) v58 H) H) ⟨fun v59 H =>
    @opi _ (lift (abinR .x .neq v59 (W8 99#8)) H) ⟨fun v60 H =>
    @opi _ (lift (some v60) H) ⟨fun v61 H =>
    @opi _ (@gdi (gw v61 true) ⟨lift (afieldAddrR (some 0) (fr 6)) H⟩ H) ⟨fun v62 H =>
    @opi _ (@gdi (gw v61 true) ⟨lift (aloadR (some none) v62 H) H⟩ H) ⟨fun v63 H =>
    @opi _ (@gdi (gw v61 true) ⟨lift (abinR .x .neq v63 (W8 105#8)) H⟩ H) ⟨fun v64 H =>
    @opi _ (lift (apick v61 v64 (.bool false)) H) ⟨fun v65 H =>
    @opi _ (lift (some v65) H) ⟨fun v66 H =>
    @opi _ (@gdi (gw v66 true) ⟨lift (some (fr 7)) H⟩ H) ⟨fun v67 H =>
    @opi _ (@gdi (gw v66 true) ⟨lift (abinR .x .lss v67 (.int .i64 0)) H⟩ H) ⟨fun v68 H =>
    @opi _ (@gdi (gw v66 true) ⟨lift (some v68) H⟩ H) ⟨fun v69 H =>
    @opi _ (@gdi (gw v69 false) ⟨lift (some (fr 7)) H⟩ H) ⟨fun v70 H =>
    @opi _ (@gdi (gw v69 false) ⟨lift (abinR .x .geq v70 (.int .i64 8)) H⟩ H) ⟨fun v71 H =>
    @opi _ (@gdi (gw v66 true) ⟨lift (apick v69 (.bool true) v71) H⟩ H) ⟨fun v72 H =>
    @opi _ (lift (apick v66 v72 (.bool false)) H) ⟨fun v73 H =>
    @opi _ (lift (some v73) H) ⟨fun v46 H =>
    some (AFr.al [(1, fr 1), (4, fr 4), (6, fr 6), (33, fr 33), (34, fr 34), (46, v46)], H)⟩⟩⟩⟩⟩⟩⟩⟩⟩⟩⟩⟩⟩⟩⟩⟩⟩)
@[simp] noncomputable def r14 (s0 : SpecP) (s1 : SpecM) (fr : AFr) (H : AHeap) : ARes :=
  areg (@opi _ (lift (some (.bool false)) H) ⟨fun v2 H =>
    some (AFr.al [(2, v2)], H)⟩)
@[simp] noncomputable def r15 (s0 : SpecP) (s1 : SpecM) (fr : AFr) (H : AHeap) : ARes :=
  areg (@opi _ (lift (afieldAddrR (some 0) (fr 6)) H) ⟨fun v74 H =>
    @opi _ (lift (aloadR (some none) v74 H) H) ⟨fun v75 H =>
    @opi _ (callM [false, false] s1 [[none], [none]] [(fr 4), v75] H) ⟨fun v76 H =>
    @opi _ (lift (anil v76) H) ⟨fun v77 H =>
    @opi _ (liftS (astoreR (some 1) v77 (.int .i64 0) H)) ⟨fun _ H =>
    some (AFr.al [(1, fr 1), (4, fr 4), (33, fr 33), (34, fr 34)], H)⟩⟩⟩⟩⟩)
@[simp] noncomputable def r16 (s0 : SpecP) (s1 : SpecM) (fr : AFr) (H : AHeap) : ARes :=
  areg (@opi _ (lift (abinR .x .add (fr 34) (.int .i64 1)) H) ⟨fun v78 H =>
    @opi _ (lift (some v78) H) ⟨fun v34 H =>
    some (AFr.al [(1, fr 1), (4, fr 4), (33, fr 33), (34, v34)], H)⟩⟩)
@[simp] noncomputable def r17 (s0 : SpecP) (s1 : SpecM) (fr : AFr) (H : AHeap) : ARes :=
  areg (@opi _ (lift (aloadR (some (some 5)) (fr 4) H) H) ⟨fun v79 H =>
    @opi _ (lift (afieldAddrR (some 0) (fr 1)) H) ⟨fun v80 H =>
    @opi _ (lift (aloadR (some none) v80 H) H) ⟨fun v81 H =>
    @opi _ (lift (abuildR (.str [(.int .i64 0), (.int .i64 0), (.int .i64 0), (.int .i64 0), (.int .i64 0)] [(0, 1), (1, 1), (2, 1), (3, 1), (4, 1)]) [(0, v81)]) H) ⟨fun v82 H =>
    @opi _ (lift (abinR (.c [.i, .i, .i, .i, .i]) .eql v79 v82) H) ⟨fun v83 H =>
    @opi _ (lift (some v83) H) ⟨fun v2 H =>
    some (AFr.al [(2, v2)], H)⟩⟩⟩⟩⟩⟩)
noncomputable def l0 (s0 : SpecP) (s1 : SpecM) (fr : AFr) (H : AHeap) : ARes :=
  @aseqi (r8 s0 s1 fr H) ⟨fun fr H =>
  @aseqi (@acondi (fr 35)
    ⟨some (.normal, fr, H)⟩
    ⟨some (.exit 0, fr, H)⟩) ⟨fun fr H =>
  @aseqi (aexit 1 (@aseqi (r9 s0 s1 fr H) ⟨fun fr H =>
  @aseqi (r10 s0 s1 fr H) ⟨fun fr H =>
  @aseqi (aexit 2 (@aseqi (r11 s0 s1 fr H) ⟨fun fr H =>
  @acondi (fr 42)
    ⟨some (.exit 1, fr, H)⟩
    ⟨@aseqi (@aseqi (r12 s0 s1 fr H) ⟨fun fr H =>
    @acondi (fr 46)
      ⟨some (.normal, fr, H)⟩
      ⟨r13 s0 s1 fr H⟩⟩) ⟨fun fr H =>
    @acondi (fr 46)
      ⟨@aseqi (r14 s0 s1 fr H) ⟨fun fr H =>
      some (.ret, fr, H)⟩⟩
      ⟨some (.normal, fr, H)⟩⟩⟩⟩)) ⟨fun fr H =>
  r15 s0 s1 fr H⟩⟩⟩)) ⟨fun fr H =>
  r16 s0 s1 fr H⟩⟩⟩
@[simp] noncomputable def body (s0 : SpecP) (s1 : SpecM) (fr : AFr) (H : AHeap) : ARes :=
  @aseqi (r0 s0 s1 fr H) ⟨fun fr H =>
  @aseqi (@aseqi (r1 s0 s1 fr H) ⟨fun fr H =>
  @acondi (fr 15)
    ⟨@aseqi (r2 s0 s1 fr H) ⟨fun fr H =>
    some (.ret, fr, H)⟩⟩
    ⟨some (.normal, fr, H)⟩⟩) ⟨fun fr H =>
  @aseqi (r3 s0 s1 fr H) ⟨fun fr H =>
  @aseqi (@aseqi (r4 s0 s1 fr H) ⟨fun fr H =>
  @acondi (fr 30)
    ⟨@aseqi (r5 s0 s1 fr H) ⟨fun fr H =>
    some (.ret, fr, H)⟩⟩
    ⟨some (.normal, fr, H)⟩⟩) ⟨fun fr H =>
  @aseqi (r6 s0 s1 fr H) ⟨fun fr H =>
  @aseqi (@aseqi (r7 s0 s1 fr H) ⟨fun fr H =>
  aexit 0 (aloop (l0 s0 s1) fr H)⟩) ⟨fun fr H =>
  @aseqi (r17 s0 s1 fr H) ⟨fun fr H =>
  some (.ret, fr, H)⟩⟩⟩⟩⟩⟩⟩
@[simp] def res (fr : AFr) (H : AHeap) : Option (List AV) := res2 (some (fr 2)) (some [])
end thumb_can
noncomputable def thumb_can (a0 : AV) : Option AV := closeUpR (some [[none]]) (afinR thumb_can.res (thumb_can.body thumb_shapes.spec thumb_field.spec (args0 [a0]) AHeap.empty))
noncomputable def thumb_can.spec : List AV → Option AV
  | [a0] => thumb_can a0
  | _ => none

/-! bauta/thumb.put: function 41 -/
namespace thumb_put
noncomputable def C (s0 : SpecP) (s1 : SpecM) : Tab := ((Tab.none.add 46 (.pure false s0)).add 47 (.ref [false, false] s1))
@[simp] noncomputable def r0 (s0 : SpecP) (s1 : SpecM) (fr : AFr) (H : AHeap) : ARes :=
  areg (@opi _ (abox T.ty_api_Ins (fr 0) H) ⟨fun v1 H =>
    @opi _ (lift (some (W16 0#16)) H) ⟨fun v2 H =>
    some (AFr.al [(1, v1)], H)⟩⟩)
@[simp] noncomputable def r1 (s0 : SpecP) (s1 : SpecM) (fr : AFr) (H : AHeap) : ARes :=
  areg (@opi _ (lift (afieldAddrR (some 0) (fr 1)) H) ⟨fun v7 H =>
    @opi _ (lift (aloadR (some none) v7 H) H) ⟨fun v8 H =>
    @opi _ (callP false s0 [[none]] [v8] H) ⟨fun v9 H =>
    @opi _ (aallocR T.ty_thumb_shape (some (.agg [(W16 0#16), (W8 0#8), (.int .i64 0), (.int .i64 0), (W8 0#8), (.int .i64 0), (.int .i64 0), (W8 0#8), (.int .i64 0), (.int .i64 0), (.int .i64 0), (.int .i64 0)])) H) ⟨fun v3 H =>
    @opi _ (liftS (astoreR (some 12) v3 v9 H)) ⟨fun _ H =>
    some (AFr.al [(1, fr 1), (3, v3)], H)⟩⟩⟩⟩⟩)
@[simp] noncomputable def r2 (s0 : SpecP) (s1 : SpecM) (fr : AFr) (H : AHeap) : ARes :=
  areg (@opi _ (lift (afieldAddrR (some 0) (fr 3)) H) ⟨fun v10 H =>
    @opi _ (lift (aloadR (some none) v10 H) H) ⟨fun v11 H =>
    @opi _ (lift (some v11) H) ⟨fun v4 H =>
    some (AFr.al [(1, fr 1), (3, fr 3), (4, v4)], H)⟩⟩⟩)
@[simp] noncomputable def r3 (s0 : SpecP) (s1 : SpecM) (fr : AFr) (H : AHeap) : ARes :=
  areg (@opi _ (lift (afieldAddrR (some 1) (fr 3)) H) ⟨fun v12 H =>
    @opi _ (lift (aloadR (some (some 9)) v12 H) H) ⟨fun v13 H =>
    @opi _ (lift (some (.int .i64 0)) H) ⟨fun v14 H =>
    some (AFr.al [(1, fr 1), (4, fr 4), (13, v13), (14, v14)], H)⟩⟩⟩)
@[simp] noncomputable def r4 (s0 : SpecP) (s1 : SpecM) (fr : AFr) (H : AHeap) : ARes :=
  areg (@opi _ (lift (abinR .x .lss (fr 14) (.int .i64 3)) H) ⟨fun v15 H =>
    some (AFr.al [(1, fr 1), (4, fr 4), (13, fr 13), (14, fr 14), (15, v15)], H)⟩)
@[simp] noncomputable def r5 (s0 : SpecP) (s1 : SpecM) (fr : AFr) (H : AHeap) : ARes :=
  areg (@opi _ (lift (aindexR (.arr 3 3 (some (some 3))) (fr 13) (fr 14)) H) ⟨fun v16 H =>
    @opi _ (aallocR T.ty_thumb_part (some (.agg [(W8 0#8), (.int .i64 0), (.int .i64 0)])) H) ⟨fun v6 H =>
    @opi _ (liftS (astoreR (some 3) v6 v16 H)) ⟨fun _ H =>
    some (AFr.al [(1, fr 1), (4, fr 4), (6, v6), (13, fr 13), (14, fr 14)], H)⟩⟩⟩)
@[simp] noncomputable def r6 (s0 : SpecP) (s1 : SpecM) (fr : AFr) (H : AHeap) : ARes :=
  areg (@opi _ (lift (afieldAddrR (some 2) (fr 6)) H) ⟨fun v17 H =>
    @opi _ (lift (aloadR (some none) v17 H) H) ⟨fun v18 H =>
    @opi _ (lift (abinR .x .gtr v18 (.int .i64 0)) H) ⟨fun v19 H =>
    some (AFr.al [(1, fr 1), (4, fr 4), (6, fr 6), (13, fr 13), (14, fr 14), (19, v19)], H)⟩⟩⟩)
@[simp] noncomputable def r7 (s0 : SpecP) (s1 : SpecM) (fr : AFr) (H : AHeap) : ARes :=
  areg (@opi _ (lift (some (fr 4)) H) ⟨fun v20 H1 =>
    @opi _ (lift (afieldAddrR (some 0) (fr 6)) H1) ⟨fun v21 H2 =>
    @opi _ (lift (aloadR (some none) v21 H2) H2) ⟨fun v22 H3 =>
    @opi _ (san H3 (callM [false, false] s1 [[none], [none]] [(fr 1), v22] H3)) ⟨fun v23 H4 =>
    @opi _ (lift (anil v23) H4) ⟨fun v24 H5 =>
    @opi _ (lift (aloadR (some none) v24 H5) H5) ⟨fun v25 H6 =>
    @opi _ (lift (afieldAddrR (some 2) (fr 6)) H6) ⟨fun v26 H7 =>
    @opi _ (lift (aloadR (some none) v26 H7) H7) ⟨fun v27 H8 =>
    @opi _ (lift (abinR .x .shl (.int .i64 1) v27) H8) ⟨fun v28 H9 =>
    @opi _ (lift (abinR .x .sub v28 (.int .i64 1)) H9) ⟨fun v29 H10 =>
    @opi _ (lift (abinR .x .and v25 v29) H10) ⟨fun v30 H11 =>
    @opi _ (lift (aconvR (some .u16) v30) H11) ⟨fun v31 H12 =>
    @opi _ (lift (afieldAddrR (some 1) (fr 6)) H12) ⟨fun v32 H13 =>
    @opi _ (lift (aloadR (some none) v32 H13) H13) ⟨fun v33 H14 =>
    @opi _ (lift (abinR .x .shl v31 v33) H14) ⟨fun v34 H15 =>
    @opi _ (lift (abinR .x .or v20 v34) H15) ⟨fun v35 H16 =>
    @opi _ (lift (some v35) H16) ⟨fun v4 H17 =>
    withChk [aloadR (some none) v26 H3 = aloadR (some none) v26 H4, aloadR (some none) v32 H3 = aloadR (some none) v32 H4] (some (AFr.al [(1, fr 1), (4, v4), (13, fr 13), (14, fr 14)], H17))⟩⟩⟩⟩⟩⟩⟩⟩⟩⟩⟩⟩⟩⟩⟩⟩⟩)
@[simp] noncomputable def r8 (s0 : SpecP) (s1 : SpecM) (fr : AFr) (H : AHeap) : ARes :=
  areg (@opi _ (lift (abinR .x .add (fr 14) (.int .i64 1)) H) ⟨fun v36 H =>
    @opi _ (lift (some v36) H) ⟨fun v14 H =>
    some (AFr.al [(1, fr 1), (4, fr 4), (13, fr 13), (14, v14)], H)⟩⟩)
@[simp] noncomputable def r9 (s0 : SpecP) (s1 : SpecM) (fr : AFr) (H : AHeap) : ARes :=
  areg (@opi _ (lift (some (fr 4)) H) ⟨fun v37 H =>
    @opi _ (lift (some v37) H) ⟨fun v2 H =>
    some (AFr.al [(2, v2)], H)⟩⟩)
noncomputable def l0 (s0 : SpecP) (s1 : SpecM) (fr : AFr) (H : AHeap) : ARes :=
  @aseqi (r4 s0 s1 fr H) ⟨fun fr H =>
  @aseqi (@acondi (fr 15)
    ⟨some (.normal, fr, H)⟩
    ⟨some (.exit 0, fr, H)⟩) ⟨fun fr H =>
  @aseqi (aexit 1 (@aseqi (r5 s0 s1 fr H) ⟨fun fr H =>
  @aseqi (r6 s0 s1 fr H) ⟨fun fr H =>
  @acondi (fr 19)
    ⟨r7 s0 s1 fr H⟩
    ⟨some (.normal, fr, H)⟩⟩⟩)) ⟨fun fr H =>
  r8 s0 s1 fr H⟩⟩⟩
@[simp] noncomputable def body (s0 : SpecP) (s1 : SpecM) (fr : AFr) (H : AHeap) : ARes :=
  @aseqi (r0 s0 s1 fr H) ⟨fun fr H =>
  @aseqi (r1 s0 s1 fr H) ⟨fun fr H =>
  @aseqi (r2 s0 s1 fr H) ⟨fun fr H =>
  @aseqi (@aseqi (r3 s0 s1 fr H) ⟨fun fr H =>
  aexit 0 (aloop (l0 s0 s1) fr H)⟩) ⟨fun fr H =>
  @aseqi (r9 s0 s1 fr H) ⟨fun fr H =>
  some (.ret, fr, H)⟩⟩⟩⟩⟩
@[simp] def res (fr : AFr) (H : AHeap) : Option (List AV) := res2 (some (fr 2)) (some [])
end thumb_put
noncomputable def thumb_put (a0 : AV) : Option AV := closeUpR (some [[none]]) (afinR thumb_put.res (thumb_put.body thumb_shapes.spec thumb_field.spec (args0 [a0]) AHeap.empty))
noncomputable def thumb_put.spec : List AV → Option AV
  | [a0] => thumb_put a0
  | _ => none

/-! bauta/thumb.Put: function 13 -/
namespace thumb_Put
noncomputable def C (s0 : SpecP) (s1 : SpecP) : Tab := ((Tab.none.add 40 (.pure false s0)).add 41 (.pure false s1))
@[simp] noncomputable def r0 (s0 : SpecP) (s1 : SpecP) (fr : AFr) (H : AHeap) : ARes :=
  areg (@opi _ (abox T.ty_api_Ins (fr 0) H) ⟨fun v1 H =>
    @opi _ (lift (some (W16 0#16)) H) ⟨fun v2 H =>
    @opi _ (lift (some (.int .i64 0)) H) ⟨fun v3 H =>
    some (AFr.al [(1, v1)], H)⟩⟩⟩)
@[simp] noncomputable def r1 (s0 : SpecP) (s1 : SpecP) (fr : AFr) (H : AHeap) : ARes :=
  areg (@opi _ (lift (aloadR (some (some 5)) (fr 1) H) H) ⟨fun v4 H =>
    @opi _ (callP false s0 [[none, none, none, none, none]] [v4] H) ⟨fun v5 H =>
    @opi _ (lift (aun .not v5) H) ⟨fun v6 H =>
    some (AFr.al [(1, fr 1), (6, v6)], H)⟩⟩⟩)
@[simp] noncomputable def r2 (s0 : SpecP) (s1 : SpecP) (fr : AFr) (H : AHeap) : ARes :=
  areg (@opi _ (lift (some (W16 0#16)) H) ⟨fun v2 H =>
    @opi _ (lift (some (.int .i64 1)) H) ⟨fun v3 H =>
    some (AFr.al [(2, v2), (3, v3)], H)⟩⟩)
@[simp] noncomputable def r3 (s0 : SpecP) (s1 : SpecP) (fr : AFr) (H : AHeap) : ARes :=
  areg (@opi _ (lift (aloadR (some (some 5)) (fr 1) H) H) ⟨fun v7 H =>
    @opi _ (callP false s1 [[none, none, none, none, none]] [v7] H) ⟨fun v8 H =>
    @opi _ (lift (some v8) H) ⟨fun v2 H =>
    @opi _ (lift (some (.int .i64 0)) H) ⟨fun v3 H =>
    some (AFr.al [(2, v2), (3, v3)], H)⟩⟩⟩⟩)
@[simp] noncomputable def body (s0 : SpecP) (s1 : SpecP) (fr : AFr) (H : AHeap) : ARes :=
  @aseqi (r0 s0 s1 fr H) ⟨fun fr H =>
  @aseqi (@aseqi (r1 s0 s1 fr H) ⟨fun fr H =>
  @acondi (fr 6)
    ⟨@aseqi (r2 s0 s1 fr H) ⟨fun fr H =>
    some (.ret, fr, H)⟩⟩
    ⟨some (.normal, fr, H)⟩⟩) ⟨fun fr H =>
  @aseqi (r3 s0 s1 fr H) ⟨fun fr H =>
  some (.ret, fr, H)⟩⟩⟩
@[simp] def res (fr : AFr) (H : AHeap) : Option (List AV) := res2 (some (fr 2)) (res2 (some (fr 3)) (some []))
end thumb_Put
noncomputable def thumb_Put (a0 : AV) : Option AV := closeUpR (some [[none], [none]]) (afinR thumb_Put.res (thumb_Put.body thumb_can.spec thumb_put.spec (args0 [a0]) AHeap.empty))
noncomputable def thumb_Put.spec : List AV → Option AV
  | [a0] => thumb_Put a0
  | _ => none

/-! bauta/thumb.Can: function 16 -/
namespace thumb_Can
noncomputable def C (s0 : SpecP) : Tab := (Tab.none.add 40 (.pure false s0))
@[simp] noncomputable def r0 (s0 : SpecP) (fr : AFr) (H : AHeap) : ARes :=
  areg (@opi _ (abox T.ty_api_Ins (fr 0) H) ⟨fun v1 H =>
    @opi _ (lift (some (.bool false)) H) ⟨fun v2 H =>
    some (AFr.al [(1, v1)], H)⟩⟩)
@[simp] noncomputable def r1 (s0 : SpecP) (fr : AFr) (H : AHeap) : ARes :=
  areg (@opi _ (lift (aloadR (some (some 5)) (fr 1) H) H) ⟨fun v3 H =>
    @opi _ (callP false s0 [[none, none, none, none, none]] [v3] H) ⟨fun v4 H =>
    @opi _ (lift (some v4) H) ⟨fun v2 H =>
    some (AFr.al [(2, v2)], H)⟩⟩⟩)
@[simp] noncomputable def body (s0 : SpecP) (fr : AFr) (H : AHeap) : ARes :=
  @aseqi (r0 s0 fr H) ⟨fun fr H =>
  @aseqi (r1 s0 fr H) ⟨fun fr H =>
  some (.ret, fr, H)⟩⟩
@[simp] def res (fr : AFr) (H : AHeap) : Option (List AV) := res2 (some (fr 2)) (some [])
end thumb_Can
noncomputable def thumb_Can (a0 : AV) : Option AV := closeUpR (some [[none]]) (afinR thumb_Can.res (thumb_Can.body thumb_can.spec (args0 [a0]) AHeap.empty))
noncomputable def thumb_Can.spec : List AV → Option AV
  | [a0] => thumb_Can a0
  | _ => none

/-! bauta/bautalaw02.lives: function 14 -/
namespace law02_lives
noncomputable def C (s0 : SpecP) (s1 : SpecP) : Tab := ((Tab.none.add 13 (.pure false s0)).add 16 (.pure false s1))
@[simp] noncomputable def r0 (s0 : SpecP) (s1 : SpecP) (fr : AFr) (H : AHeap) : ARes :=
  areg (@opi _ (lift (some (.bool false)) H) ⟨fun v0 H =>
    some (AFr.al [], H)⟩)
@[simp] noncomputable def r1 (s0 : SpecP) (s1 : SpecP) (fr : AFr) (H : AHeap) : ARes :=
  areg (@opi _ (lift (abuildR (.str [(.int .i64 0), (.int .i64 0), (.int .i64 0), (.int .i64 0), (.int .i64 0)] [(0, 1), (1, 1), (2, 1), (3, 1), (4, 1)]) [(0, (.int .i64 0)), (1, (.int .i64 1)), (4, (.int .i64 5))]) H) ⟨fun v4 H =>
    @opi _ (callP false s0 [[none, none, none, none, none]] [v4] H) ⟨fun v5 H =>
    @opi _ (lift (some v5) H) ⟨fun v3 H =>
    @opi _ (lift (aextract v3 0) H) ⟨fun v6 H =>
    @opi _ (lift (aextract v3 1) H) ⟨fun v7 H =>
    @opi _ (lift (some v6) H) ⟨fun v1 H =>
    @opi _ (lift (some v7) H) ⟨fun v2 H =>
    some (AFr.al [(1, v1), (2, v2)], H)⟩⟩⟩⟩⟩⟩⟩)
@[simp] noncomputable def r2 (s0 : SpecP) (s1 : SpecP) (fr : AFr) (H : AHeap) : ARes :=
  areg (@opi _ (lift (some (fr 1)) H) ⟨fun v8 H =>
    @opi _ (lift (abinR .x .eql v8 (W16 8453#16)) H) ⟨fun v9 H =>
    @opi _ (lift (some v9) H) ⟨fun v10 H =>
    @opi _ (@gdi (gw v10 true) ⟨lift (some (fr 2)) H⟩ H) ⟨fun v11 H =>
    @opi _ (@gdi (gw v10 true) ⟨lift (abinR .x .eql v11 (.int .i64 0)) H⟩ H) ⟨fun v12 H =>
    @opi _ (lift (apick v10 v12 (.bool false)) H) ⟨fun v13 H =>
    @opi _ (lift (some v13) H) ⟨fun v14 H =>
    @opi _ (@gdi (gw v14 true) ⟨lift (abuildR (.str [(.int .i64 0), (.int .i64 0), (.int .i64 0), (.int .i64 0), (.int .i64 0)] [(0, 1), (1, 1), (2, 1), (3, 1), (4, 1)]) [(0, (.int .i64 19))]) H⟩ H) ⟨fun v15 H =>
    @opi _ (@gdi (gw v14 true) ⟨callP false s1 [[none, none, none, none, none]] [v15] H⟩ H) ⟨fun v16 H =>
    @opi _ (lift (apick v14 v16 (.bool false)) H) ⟨fun v17 H =>
    @opi _ (lift (some v17) H) ⟨fun v0 H =>
    some (AFr.al [(0, v0)], H)⟩⟩⟩⟩⟩⟩⟩⟩⟩⟩⟩)
@[simp] noncomputable def body (s0 : SpecP) (s1 : SpecP) (fr : AFr) (H : AHeap) : ARes :=
  @aseqi (r0 s0 s1 fr H) ⟨fun fr H =>
  @aseqi (r1 s0 s1 fr H) ⟨fun fr H =>
  @aseqi (r2 s0 s1 fr H) ⟨fun fr H =>
  some (.ret, fr, H)⟩⟩⟩
@[simp] def res (fr : AFr) (H : AHeap) : Option (List AV) := res2 (some (fr 0)) (some [])
end law02_lives
noncomputable def law02_lives : Option AV := closeUpR (some [[none]]) (afinR law02_lives.res (law02_lives.body thumb_Put.spec thumb_Can.spec (args0 []) AHeap.empty))
noncomputable def law02_lives.spec : List AV → Option AV
  | [] => law02_lives
  | _ => none

/-! bauta/bautalaw02.ThumbOne: function 3 -/
namespace law02_ThumbOne
noncomputable def C (s0 : SpecP) (s1 : SpecP) : Tab := ((Tab.none.add 13 (.pure false s0)).add 14 (.pure false s1))
@[simp] noncomputable def r0 (s0 : SpecP) (s1 : SpecP) (fr : AFr) (H : AHeap) : ARes :=
  areg (@opi _ (abox T.ty_api_Ins (fr 0) H) ⟨fun v2 H =>
    @opi _ (abox T.ty_api_Ins (fr 1) H) ⟨fun v3 H =>
    @opi _ (lift (some (.bool false)) H) ⟨fun v4 H =>
    some (AFr.al [(2, v2), (3, v3)], H)⟩⟩⟩)
@[simp] noncomputable def r1 (s0 : SpecP) (s1 : SpecP) (fr : AFr) (H : AHeap) : ARes :=
  areg (@opi _ (lift (aloadR (some (some 5)) (fr 2) H) H) ⟨fun v10 H =>
    @opi _ (callP false s0 [[none, none, none, none, none]] [v10] H) ⟨fun v11 H =>
    @opi _ (lift (some v11) H) ⟨fun v9 H =>
    @opi _ (lift (aextract v9 0) H) ⟨fun v12 H =>
    @opi _ (lift (aextract v9 1) H) ⟨fun v13 H =>
    @opi _ (lift (some v12) H) ⟨fun v5 H =>
    @opi _ (lift (some v13) H) ⟨fun v6 H =>
    some (AFr.al [(2, fr 2), (3, fr 3), (5, v5), (6, v6)], H)⟩⟩⟩⟩⟩⟩⟩)
@[simp] noncomputable def r2 (s0 : SpecP) (s1 : SpecP) (fr : AFr) (H : AHeap) : ARes :=
  areg (@opi _ (lift (aloadR (some (some 5)) (fr 3) H) H) ⟨fun v15 H =>
    @opi _ (callP false s0 [[none, none, none, none, none]] [v15] H) ⟨fun v16 H =>
    @opi _ (lift (some v16) H) ⟨fun v14 H =>
    @opi _ (lift (aextract v14 0) H) ⟨fun v17 H =>
    @opi _ (lift (aextract v14 1) H) ⟨fun v18 H =>
    @opi _ (lift (some v17) H) ⟨fun v7 H =>
    @opi _ (lift (some v18) H) ⟨fun v8 H =>
    some (AFr.al [(2, fr 2), (3, fr 3), (5, fr 5), (6, fr 6), (7, v7), (8, v8)], H)⟩⟩⟩⟩⟩⟩⟩)
@[simp] noncomputable def r3 (s0 : SpecP) (s1 : SpecP) (fr : AFr) (H : AHeap) : ARes :=
  areg (@opi _ (lift (some (fr 6)) H) ⟨fun v19 H =>
    @opi _ (lift (abinR .x .neq v19 (.int .i64 0)) H) ⟨fun v20 H =>
    @opi _ (lift (some v20) H) ⟨fun v21 H =>
    @opi _ (@gdi (gw v21 false) ⟨lift (some (fr 8)) H⟩ H) ⟨fun v22 H =>
    @opi _ (@gdi (gw v21 false) ⟨lift (abinR .x .neq v22 (.int .i64 0)) H⟩ H) ⟨fun v23 H =>
    @opi _ (lift (apick v21 (.bool true) v23) H) ⟨fun v24 H =>
    @opi _ (lift (some v24) H) ⟨fun v25 H =>
    @opi _ (@gdi (gw v25 false) ⟨lift (some (fr 5)) H⟩ H) ⟨fun v26 H =>
    @opi _ (@gdi (gw v25 false) ⟨lift (some (fr 7)) H⟩ H) ⟨fun v27 H =>
    @opi _ (@gdi (gw v25 false) ⟨lift (abinR .x .eql v26 v27) H⟩ H) ⟨fun v28 H =>
    @opi _ (@gdi (gw v25 false) ⟨lift (aloadR (some (some 5)) (fr 2) H) H⟩ H) ⟨fun v29 H =>
    @opi _ (@gdi (gw v25 false) ⟨lift (aloadR (some (some 5)) (fr 3) H) H⟩ H) ⟨fun v30 H =>
    @opi _ (@gdi (gw v25 false) ⟨lift (abinR (.c [.i, .i, .i, .i, .i]) .eql v29 v30) H⟩ H) ⟨fun v31 H =>
    @opi _ (@gdi (gw v25 false) ⟨lift (abinR .b .eql v28 v31) H⟩ H) ⟨fun v32 H =>
    @opi _ (lift (apick v25 (.bool true) v32) H) ⟨fun v33 H =>
    @opi _ (lift (some v33) H) ⟨fun v34 H =>
    @opi _ (@gdi (gw v34 true) ⟨callP false s1 [] [] H⟩ H) ⟨fun v35 H =>
    @opi _ (lift (apick v34 v35 (.bool false)) H) ⟨fun v36 H =>
    @opi _ (lift (some v36) H) ⟨fun v4 H =>
    some (AFr.al [(4, v4)], H)⟩⟩⟩⟩⟩⟩⟩⟩⟩⟩⟩⟩⟩⟩⟩⟩⟩⟩⟩)
@[simp] noncomputable def body (s0 : SpecP) (s1 : SpecP) (fr : AFr) (H : AHeap) : ARes :=
  @aseqi (r0 s0 s1 fr H) ⟨fun fr H =>
  @aseqi (r1 s0 s1 fr H) ⟨fun fr H =>
  @aseqi (r2 s0 s1 fr H) ⟨fun fr H =>
  @aseqi (r3 s0 s1 fr H) ⟨fun fr H =>
  some (.ret, fr, H)⟩⟩⟩⟩
@[simp] def res (fr : AFr) (H : AHeap) : Option (List AV) := res2 (some (fr 4)) (some [])
end law02_ThumbOne
noncomputable def law02_ThumbOne (a0 a1 : AV) : Option AV := closeUpR (some [[none]]) (afinR law02_ThumbOne.res (law02_ThumbOne.body thumb_Put.spec law02_lives.spec (args0 [a0, a1]) AHeap.empty))
noncomputable def law02_ThumbOne.spec : List AV → Option AV
  | [a0, a1] => law02_ThumbOne a0 a1
  | _ => none

/-! bauta/bautaref02.Shape: function 42 -/
namespace ref02_Shape
noncomputable def C : Tab := Tab.none
@[simp] noncomputable def r0 (fr : AFr) (H : AHeap) : ARes :=
  areg (@opi _ (lift (some (.str ⟨#[]⟩)) H) ⟨fun v2 H =>
    some (AFr.al [(0, fr 0)], H)⟩)
@[simp] noncomputable def r1 (fr : AFr) (H : AHeap) : ARes :=
  areg (@opi _ (abuildSliceR (some ⟨T.ty_string, 1, 16, [(.str ⟨#[]⟩)]⟩) 21 [(0, (.str ⟨#[48, 48, 49, 48, 48, 100, 100, 100, 105, 105, 105, 105, 105, 105, 105, 105]⟩)), (1, (.str ⟨#[48, 48, 49, 48, 49, 100, 100, 100, 105, 105, 105, 105, 105, 105, 105, 105]⟩)), (2, (.str ⟨#[48, 48, 49, 49, 48, 100, 100, 100, 105, 105, 105, 105, 105, 105, 105, 105]⟩)), (3, (.str ⟨#[48, 48, 49, 49, 49, 100, 100, 100, 105, 105, 105, 105, 105, 105, 105, 105]⟩)), (4, (.str ⟨#[48, 48, 48, 48, 48, 105, 105, 105, 105, 105, 109, 109, 109, 100, 100, 100]⟩)), (5, (.str ⟨#[48, 48, 48, 48, 49, 105, 105, 105, 105, 105, 109, 109, 109, 100, 100, 100]⟩)), (6, (.str ⟨#[48, 48, 48, 49, 48, 105, 105, 105, 105, 105, 109, 109, 109, 100, 100, 100]⟩)), (7, (.str ⟨#[48, 48, 48, 49, 49, 48, 48, 109, 109, 109, 110, 110, 110, 100, 100, 100]⟩)), (8, (.str ⟨#[48, 48, 48, 49, 49, 48, 49, 109, 109, 109, 110, 110, 110, 100, 100, 100]⟩)), (9, (.str ⟨#[48, 48, 48, 49, 49, 49, 48, 105, 105, 105, 110, 110, 110, 100, 100, 100]⟩)), (10, (.str ⟨#[48, 48, 48, 49, 49, 49, 49, 105, 105, 105, 110, 110, 110, 100, 100, 100]⟩)), (11, (.str ⟨#[48, 49, 48, 48, 48, 48, 105, 105, 105, 105, 109, 109, 109, 100, 100, 100]⟩)), (12, (.str ⟨#[48, 49, 49, 48, 49, 105, 105, 105, 105, 105, 110, 110, 110, 100, 100, 100]⟩)), (13, (.str ⟨#[48, 49, 49, 48, 48, 105, 105, 105, 105, 105, 110, 110, 110, 100, 100, 100]⟩)), (14, (.str ⟨#[48, 49, 48, 49, 49, 48, 48, 109, 109, 109, 110, 110, 110, 100, 100, 100]⟩)), (15, (.str ⟨#[48, 49, 48, 49, 48, 48, 48, 109, 109, 109, 110, 110, 110, 100, 100, 100]⟩)), (16, (.str ⟨#[48, 49, 48, 48, 49, 100, 100, 100, 105, 105, 105, 105, 105, 105, 105, 105]⟩)), (17, (.str ⟨#[49, 49, 49, 48, 48, 105, 105, 105, 105, 105, 105, 105, 105, 105, 105, 105]⟩)), (18, (.str ⟨#[49, 49, 48, 49, 99, 99, 99, 99, 105, 105, 105, 105, 105, 105, 105, 105]⟩)), (19, (.str ⟨#[49, 48, 49, 49, 49, 49, 49, 49, 48, 48, 48, 48, 48, 48, 48, 48]⟩)), (20, (.str ⟨#[49, 48, 49, 49, 49, 49, 49, 48, 105, 105, 105, 105, 105, 105, 105, 105]⟩))] H) ⟨fun v3 H =>
    @opi _ (lift (some (fr 0)) H) ⟨fun v4 H =>
    @opi _ (lift (aindexAddrR (.sl 1) v3 v4) H) ⟨fun v5 H =>
    @opi _ (lift (aloadR (some none) v5 H) H) ⟨fun v6 H =>
    @opi _ (lift (some v6) H) ⟨fun v2 H =>
    some (AFr.al [(2, v2)], H)⟩⟩⟩⟩⟩)
@[simp] noncomputable def body (fr : AFr) (H : AHeap) : ARes :=
  @aseqi (r0 fr H) ⟨fun fr H =>
  @aseqi (r1 fr H) ⟨fun fr H =>
  some (.ret, fr, H)⟩⟩
@[simp] def res (fr : AFr) (H : AHeap) : Option (List AV) := res2 (some (fr 2)) (some [])
end ref02_Shape
noncomputable def ref02_Shape (a0 : AV) : Option AV := closeUpR (some [[none]]) (afinR ref02_Shape.res (ref02_Shape.body (args0 [a0]) AHeap.empty))
noncomputable def ref02_Shape.spec : List AV → Option AV
  | [a0] => ref02_Shape a0
  | _ => none

/-! bauta/bautaref02.has: function 43 -/
namespace ref02_has
noncomputable def C : Tab := Tab.none
@[simp] noncomputable def r0 (fr : AFr) (H : AHeap) : ARes :=
  areg (@opi _ (lift (some (.bool false)) H) ⟨fun v4 H =>
    some (AFr.al [(0, fr 0), (1, fr 1)], H)⟩)
@[simp] noncomputable def r1 (fr : AFr) (H : AHeap) : ARes :=
  areg (@opi _ (lift (some (.int .i64 0)) H) ⟨fun v5 H =>
    some (AFr.al [(0, fr 0), (1, fr 1), (5, v5)], H)⟩)
@[simp] noncomputable def r2 (fr : AFr) (H : AHeap) : ARes :=
  areg (@opi _ (lift (some (fr 5)) H) ⟨fun v6 H =>
    @opi _ (lift (some (fr 0)) H) ⟨fun v7 H =>
    @opi _ (lift (alenR .str v7) H) ⟨fun v8 H =>
    @opi _ (lift (abinR .x .lss v6 v8) H) ⟨fun v9 H =>
    some (AFr.al [(0, fr 0), (1, fr 1), (5, fr 5), (9, v9)], H)⟩⟩⟩⟩)
@[simp] noncomputable def r4 (fr : AFr) (H : AHeap) : ARes :=
  areg (@opi _ (lift (some (fr 0)) H) ⟨fun v12 H =>
    @opi _ (lift (some (fr 5)) H) ⟨fun v13 H =>
    @opi _ (lift (aindexR .str v12 v13) H) ⟨fun v14 H =>
    @opi _ (lift (some (fr 1)) H) ⟨fun v15 H =>
    @opi _ (lift (abinR .x .eql v14 v15) H) ⟨fun v16 H =>
    some (AFr.al [(0, fr 0), (1, fr 1), (5, fr 5), (16, v16)], H)⟩⟩⟩⟩⟩)
@[simp] noncomputable def r5 (fr : AFr) (H : AHeap) : ARes :=
  areg (@opi _ (lift (some (.bool true)) H) ⟨fun v4 H =>
    some (AFr.al [(4, v4)], H)⟩)
@[simp] noncomputable def r3 (fr : AFr) (H : AHeap) : ARes :=
  areg (@opi _ (lift (some (fr 5)) H) ⟨fun v10 H =>
    @opi _ (lift (abinR .x .add v10 (.int .i64 1)) H) ⟨fun v11 H =>
    @opi _ (lift (some v11) H) ⟨fun v5 H =>
    some (AFr.al [(0, fr 0), (1, fr 1), (5, v5)], H)⟩⟩⟩)
@[simp] noncomputable def r6 (fr : AFr) (H : AHeap) : ARes :=
  areg (@opi _ (lift (some (.bool false)) H) ⟨fun v4 H =>
    some (AFr.al [(4, v4)], H)⟩)
noncomputable def l0 (fr : AFr) (H : AHeap) : ARes :=
  @aseqi (@aseqi (r2 fr H) ⟨fun fr H =>
  @acondi (fr 9)
    ⟨some (.normal, fr, H)⟩
    ⟨some (.exit 0, fr, H)⟩⟩) ⟨fun fr H =>
  @aseqi (aexit 1 (@aseqi (r4 fr H) ⟨fun fr H =>
  @acondi (fr 16)
    ⟨@aseqi (r5 fr H) ⟨fun fr H =>
    some (.ret, fr, H)⟩⟩
    ⟨some (.normal, fr, H)⟩⟩)) ⟨fun fr H =>
  r3 fr H⟩⟩
@[simp] noncomputable def body (fr : AFr) (H : AHeap) : ARes :=
  @aseqi (r0 fr H) ⟨fun fr H =>
  @aseqi (@aseqi (r1 fr H) ⟨fun fr H =>
  aexit 0 (aloop (l0) fr H)⟩) ⟨fun fr H =>
  @aseqi (r6 fr H) ⟨fun fr H =>
  some (.ret, fr, H)⟩⟩⟩
@[simp] def res (fr : AFr) (H : AHeap) : Option (List AV) := res2 (some (fr 4)) (some [])
end ref02_has
noncomputable def ref02_has (a0 a1 : AV) : Option AV := closeUpR (some [[none]]) (afinR ref02_has.res (ref02_has.body (args0 [a0, a1]) AHeap.empty))
noncomputable def ref02_has.spec : List AV → Option AV
  | [a0, a1] => ref02_has a0 a1
  | _ => none

/-! bauta/bautaref02.Low: function 44 -/
namespace ref02_Low
noncomputable def C : Tab := Tab.none
@[simp] noncomputable def r0 (fr : AFr) (H : AHeap) : ARes :=
  areg (@opi _ (lift (some (.int .i64 0)) H) ⟨fun v2 H =>
    some (AFr.al [(0, fr 0)], H)⟩)
@[simp] noncomputable def r1 (fr : AFr) (H : AHeap) : ARes :=
  areg (@opi _ (abuildSliceR (some ⟨T.ty_int, 1, 8, [(.int .i64 0)]⟩) 21 [(0, (.int .i64 0)), (1, (.int .i64 0)), (2, (.int .i64 0)), (3, (.int .i64 0)), (4, (.int .i64 0)), (5, (.int .i64 1)), (6, (.int .i64 1)), (7, (.int .i64 0)), (8, (.int .i64 0)), (9, (.int .i64 0)), (10, (.int .i64 0)), (11, (.int .i64 0)), (12, (.int .i64 0)), (13, (.int .i64 0)), (14, (.int .i64 0)), (15, (.int .i64 0)), (16, (.int .i64 0)), (17, (.int .i64 (-1024))), (18, (.int .i64 (-128))), (19, (.int .i64 0)), (20, (.int .i64 0))] H) ⟨fun v3 H =>
    @opi _ (lift (some (fr 0)) H) ⟨fun v4 H =>
    @opi _ (lift (aindexAddrR (.sl 1) v3 v4) H) ⟨fun v5 H =>
    @opi _ (lift (aloadR (some none) v5 H) H) ⟨fun v6 H =>
    @opi _ (lift (some v6) H) ⟨fun v2 H =>
    some (AFr.al [(2, v2)], H)⟩⟩⟩⟩⟩)
@[simp] noncomputable def body (fr : AFr) (H : AHeap) : ARes :=
  @aseqi (r0 fr H) ⟨fun fr H =>
  @aseqi (r1 fr H) ⟨fun fr H =>
  some (.ret, fr, H)⟩⟩
@[simp] def res (fr : AFr) (H : AHeap) : Option (List AV) := res2 (some (fr 2)) (some [])
end ref02_Low
noncomputable def ref02_Low (a0 : AV) : Option AV := closeUpR (some [[none]]) (afinR ref02_Low.res (ref02_Low.body (args0 [a0]) AHeap.empty))
noncomputable def ref02_Low.spec : List AV → Option AV
  | [a0] => ref02_Low a0
  | _ => none

/-! bauta/bautaref02.High: function 45 -/
namespace ref02_High
noncomputable def C : Tab := Tab.none
@[simp] noncomputable def r0 (fr : AFr) (H : AHeap) : ARes :=
  areg (@opi _ (lift (some (.int .i64 0)) H) ⟨fun v2 H =>
    some (AFr.al [(0, fr 0)], H)⟩)
@[simp] noncomputable def r1 (fr : AFr) (H : AHeap) : ARes :=
  areg (@opi _ (abuildSliceR (some ⟨T.ty_int, 1, 8, [(.int .i64 0)]⟩) 21 [(0, (.int .i64 255)), (1, (.int .i64 255)), (2, (.int .i64 255)), (3, (.int .i64 255)), (4, (.int .i64 31)), (5, (.int .i64 32)), (6, (.int .i64 32)), (7, (.int .i64 0)), (8, (.int .i64 0)), (9, (.int .i64 7)), (10, (.int .i64 7)), (11, (.int .i64 15)), (12, (.int .i64 31)), (13, (.int .i64 31)), (14, (.int .i64 0)), (15, (.int .i64 0)), (16, (.int .i64 255)), (17, (.int .i64 1023)), (18, (.int .i64 127)), (19, (.int .i64 0)), (20, (.int .i64 255))] H) ⟨fun v3 H =>
    @opi _ (lift (some (fr 0)) H) ⟨fun v4 H =>
    @opi _ (lift (aindexAddrR (.sl 1) v3 v4) H) ⟨fun v5 H =>
    @opi _ (lift (aloadR (some none) v5 H) H) ⟨fun v6 H =>
    @opi _ (lift (some v6) H) ⟨fun v2 H =>
    some (AFr.al [(2, v2)], H)⟩⟩⟩⟩⟩)
@[simp] noncomputable def body (fr : AFr) (H : AHeap) : ARes :=
  @aseqi (r0 fr H) ⟨fun fr H =>
  @aseqi (r1 fr H) ⟨fun fr H =>
  some (.ret, fr, H)⟩⟩
@[simp] def res (fr : AFr) (H : AHeap) : Option (List AV) := res2 (some (fr 2)) (some [])
end ref02_High
noncomputable def ref02_High (a0 : AV) : Option AV := closeUpR (some [[none]]) (afinR ref02_High.res (ref02_High.body (args0 [a0]) AHeap.empty))
noncomputable def ref02_High.spec : List AV → Option AV
  | [a0] => ref02_High a0
  | _ => none

/-! bauta/bautaref02.Can: function 17 -/
namespace ref02_Can
noncomputable def C (s0 : SpecP) (s1 : SpecP) (s2 : SpecP) (s3 : SpecP) : Tab := ((((Tab.none.add 42 (.pure false s0)).add 43 (.pure false s1)).add 44 (.pure false s2)).add 45 (.pure false s3))
@[simp] noncomputable def r0 (s0 : SpecP) (s1 : SpecP) (s2 : SpecP) (s3 : SpecP) (fr : AFr) (H : AHeap) : ARes :=
  areg (@opi _ (abox T.ty_api_Ins (fr 0) H) ⟨fun v1 H =>
    @opi _ (lift (some (.bool false)) H) ⟨fun v2 H =>
    some (AFr.al [(1, v1)], H)⟩⟩)
@[simp] noncomputable def r1 (s0 : SpecP) (s1 : SpecP) (s2 : SpecP) (s3 : SpecP) (fr : AFr) (H : AHeap) : ARes :=
  areg (@opi _ (lift (afieldAddrR (some 0) (fr 1)) H) ⟨fun v4 H =>
    @opi _ (lift (aloadR (some none) v4 H) H) ⟨fun v5 H =>
    @opi _ (lift (abinR .x .lss v5 (.int .i64 0)) H) ⟨fun v6 H =>
    @opi _ (lift (some v6) H) ⟨fun v7 H =>
    @opi _ (@gdi (gw v7 false) ⟨lift (afieldAddrR (some 0) (fr 1)) H⟩ H) ⟨fun v8 H =>
    @opi _ (@gdi (gw v7 false) ⟨lift (aloadR (some none) v8 H) H⟩ H) ⟨fun v9 H =>
    @opi _ (@gdi (gw v7 false) ⟨lift (abinR .x .gtr v9 (.int .i64 20)) H⟩ H) ⟨fun v10 H =>
    @opi _ (lift (apick v7 (.bool true) v10) H) ⟨fun v11 H =>
    some (AFr.al [(1, fr 1), (11, v11)], H)⟩⟩⟩⟩⟩⟩⟩⟩)
@[simp] noncomputable def r2 (s0 : SpecP) (s1 : SpecP) (s2 : SpecP) (s3 : SpecP) (fr : AFr) (H : AHeap) : ARes :=
  areg (@opi _ (lift (some (.bool false)) H) ⟨fun v2 H =>
    some (AFr.al [(2, v2)], H)⟩)
@[simp] noncomputable def r3 (s0 : SpecP) (s1 : SpecP) (s2 : SpecP) (s3 : SpecP) (fr : AFr) (H : AHeap) : ARes :=
  areg (@opi _ (lift (afieldAddrR (some 0) (fr 1)) H) ⟨fun v12 H =>
    @opi _ (lift (aloadR (some none) v12 H) H) ⟨fun v13 H =>
    @opi _ (callP false s0 [[none]] [v13] H) ⟨fun v14 H =>
    @opi _ (lift (some v14) H) ⟨fun v3 H =>
    some (AFr.al [(1, fr 1), (3, v3)], H)⟩⟩⟩⟩)
@[simp] noncomputable def r4 (s0 : SpecP) (s1 : SpecP) (s2 : SpecP) (s3 : SpecP) (fr : AFr) (H : AHeap) : ARes :=
  areg (@opi _ (lift (some (fr 3)) H) ⟨fun v15 H =>
    @opi _ (callP false s1 [[none], [none]] [v15, (W8 99#8)] H) ⟨fun v16 H =>
    some (AFr.al [(1, fr 1), (3, fr 3), (16, v16)], H)⟩⟩)
@[simp] noncomputable def r5 (s0 : SpecP) (s1 : SpecP) (s2 : SpecP) (s3 : SpecP) (fr : AFr) (H : AHeap) : ARes :=
  areg (@opi _ (lift (afieldAddrR (some 1) (fr 1)) H) ⟨fun v17 H =>
    @opi _ (lift (aloadR (some none) v17 H) H) ⟨fun v18 H =>
    @opi _ (lift (abinR .x .lss v18 (.int .i64 0)) H) ⟨fun v19 H =>
    @opi _ (lift (some v19) H) ⟨fun v20 H =>
    @opi _ (@gdi (gw v20 false) ⟨lift (afieldAddrR (some 1) (fr 1)) H⟩ H) ⟨fun v21 H =>
    @opi _ (@gdi (gw v20 false) ⟨lift (aloadR (some none) v21 H) H⟩ H) ⟨fun v22 H =>
    @opi _ (@gdi (gw v20 false) ⟨lift (abinR .x .gtr v22 (.int .i64 13)) H⟩ H) ⟨fun v23 H =>
    @opi _ (lift (apick v20 (.bool true) v23) H) ⟨fun v24 H =>
    some (AFr.al [(1, fr 1), (3, fr 3), (24, v24)], H)⟩⟩⟩⟩⟩⟩⟩⟩)
@[simp] noncomputable def r6 (s0 : SpecP) (s1 : SpecP) (s2 : SpecP) (s3 : SpecP) (fr : AFr) (H : AHeap) : ARes :=
  areg (@opi _ (lift (some (.bool false)) H) ⟨fun v2 H =>
    some (AFr.al [(2, v2)], H)⟩)
@[simp] noncomputable def r7 (s0 : SpecP) (s1 : SpecP) (s2 : SpecP) (s3 : SpecP) (fr : AFr) (H : AHeap) : ARes :=
  areg (@opi _ (lift (afieldAddrR (some 1) (fr 1)) H) ⟨fun v25 H =>
    @opi _ (lift (aloadR (some none) v25 H) H) ⟨fun v26 H =>
    @opi _ (lift (abinR .x .neq v26 (.int .i64 0)) H) ⟨fun v27 H =>
    @opi _ (lift (some v27) H) ⟨fun v28 H =>
    @opi _ (@gdi (gw v28 true) ⟨lift (some (fr 3)) H⟩ H) ⟨fun v29 H =>
    @opi _ (@gdi (gw v28 true) ⟨callP false s1 [[none], [none]] [v29, (W8 100#8)] H⟩ H) ⟨fun v30 H =>
    @opi _ (@gdi (gw v28 true) ⟨lift (aun .not v30) H⟩ H) ⟨fun v31 H =>
    @opi _ (lift (apick v28 v31 (.bool false)) H) ⟨fun v32 H =>
    @opi _ (lift (some v32) H) ⟨fun v33 H =>
    @opi _ (@gdi (gw v33 false) ⟨lift (afieldAddrR (some 1) (fr 1)) H⟩ H) ⟨fun v34 H =>
    @opi _ (@gdi (gw v33 false) ⟨lift (aloadR (some none) v34 H) H⟩ H) ⟨fun v35 H =>
    @opi _ (@gdi (gw v33 false) ⟨lift (abinR .x .lss v35 (.int .i64 0)) H⟩ H) ⟨fun v36 H =>
    @opi _ (lift (apick v33 (.bool true) v36) H) ⟨fun v37 H =>
    @opi _ (lift (some v37) H) ⟨fun v38 H =>
    @opi _ (@gdi (gw v38 false) ⟨lift (afieldAddrR (some 1) (fr 1)) H⟩ H) ⟨fun v39 H =>
    @opi _ (@gdi (gw v38 false) ⟨lift (aloadR (some none) v39 H) H⟩ H) ⟨fun v40 H =>
    @opi _ (@gdi (gw v38 false) ⟨lift (abinR .x .gtr v40 (.int .i64 7)) H⟩ H) ⟨fun v41 H =>
    @opi _ (lift (apick v38 (.bool true) v41) H) ⟨fun v42 H =>
    some (AFr.al [(1, fr 1), (3, fr 3), (42, v42)], H)⟩⟩⟩⟩⟩⟩⟩⟩⟩⟩⟩⟩⟩⟩⟩⟩⟩⟩)
@[simp] noncomputable def r8 (s0 : SpecP) (s1 : SpecP) (s2 : SpecP) (s3 : SpecP) (fr : AFr) (H : AHeap) : ARes :=
  areg (@opi _ (lift (some (.bool false)) H) ⟨fun v2 H =>
    some (AFr.al [(2, v2)], H)⟩)
@[simp] noncomputable def r9 (s0 : SpecP) (s1 : SpecP) (s2 : SpecP) (s3 : SpecP) (fr : AFr) (H : AHeap) : ARes :=
  areg (@opi _ (lift (afieldAddrR (some 2) (fr 1)) H) ⟨fun v43 H1 =>
    @opi _ (lift (aloadR (some none) v43 H1) H1) ⟨fun v44 H2 =>
    @opi _ (lift (abinR .x .eql v44 (.int .i64 0)) H2) ⟨fun v45 H3 =>
    @opi _ (lift (some v45) H3) ⟨fun v46 H4 =>
    @opi _ (@gdi (gw v46 false) ⟨lift (some (fr 3)) H4⟩ H4) ⟨fun v47 H5 =>
    @opi _ (@gdi (gw v46 false) ⟨callP false s1 [[none], [none]] [v47, (W8 110#8)] H5⟩ H5) ⟨fun v48 H6 =>
    @opi _ (lift (apick v46 (.bool true) v48) H6) ⟨fun v49 H7 =>
    @opi _ (lift (some v49) H7) ⟨fun v50 H8 =>
    @opi _ (@gdi (gw v50 true) ⟨lift (afieldAddrR (some 2) (fr 1)) H8⟩ H8) ⟨fun v51 H9 =>
    @opi _ (@gdi (gw v50 true) ⟨lift (aloadR (some none) v51 H9) H9⟩ H9) ⟨fun v52 H10 =>
    @opi _ (@gdi (gw v50 true) ⟨lift (abinR .x .geq v52 (.int .i64 0)) H10⟩ H10) ⟨fun v53 H11 =>
    @opi _ (lift (apick v50 v53 (.bool false)) H11) ⟨fun v54 H12 =>
    @opi _ (lift (some v54) H12) ⟨fun v55 H13 =>
    @opi _ (@gdi (gw v55 true) ⟨lift (afieldAddrR (some 2) (fr 1)) H13⟩ H13) ⟨fun v56 H14 =>
    @opi _ (@gdi (gw v55 true) ⟨lift (aloadR (some none) v56 H14) H14⟩ H14) ⟨fun v57 H15 =>
    @opi _ (@gdi (gw v55 true) ⟨lift (abinR .x .leq v57 (.int .i64 7)) H15⟩ H15) ⟨fun v58 H16 =>
    @opi _ (lift (apick v55 v58 (.bool false)) H16) ⟨fun v59 H17 =>
    @opi _ (lift (some v59) H17) ⟨fun v60 H18 =>
    @opi _ (@gdi (gw v60 true) ⟨lift (afieldAddrR (some 3) (fr 1)) H18⟩ H18) ⟨fun v61 H19 =>
    @opi _ (@gdi (gw v60 true) ⟨lift (aloadR (some none) v61 H19) H19⟩ H19) ⟨fun v62 H20 =>
    @opi _ (@gdi (gw v60 true) ⟨lift (abinR .x .eql v62 (.int .i64 0)) H20⟩ H20) ⟨fun v63 H21 =>
    @opi _ (@gdi (gw v60 true) ⟨lift (some v63) H21⟩ H21) ⟨fun v64 H22 =>
    @opi _ (@gdi (gw v64 false) ⟨lift (some (fr 3)) H22⟩ H22) ⟨fun v65 H23 =>
    @opi _ (@gdi (gw v64 false) ⟨callP false s1 [[none], [none]] [v65, (W8 109#8)] H23⟩ H23) ⟨fun v66 H24 =>
    @opi _ (@gdi (gw v60 true) ⟨lift (apick v64 (.bool true) v66) H24⟩ H24) ⟨fun v67 H25 =>
    @opi _ (lift (apick v60 v67 (.bool false)) H25) ⟨fun v68 H26 =>
    @opi _ (lift (some v68) H26) ⟨fun v69 H27 =>
    @opi _ (@gdi (gw v69 true) ⟨lift (afieldAddrR (some 3) (fr 1)) H27⟩ H27) ⟨fun v70 H28 =>
    @opi _ (@gdi (gw v69 true) ⟨lift (aloadR (some none) v70 H28) H28⟩ H28) ⟨fun v71 H29 =>
    @opi _ (@gdi (gw v69 true) ⟨lift (abinR .x .geq v71 (.int .i64 0)) H29⟩ H29) ⟨fun v72 H30 =>
    @opi _ (lift (apick v69 v72 (.bool false)) H30) ⟨fun v73 H31 =>
    @opi _ (lift (some v73) H31) ⟨fun v74 H32 =>
    @opi _ (@gdi (gw v74 true) ⟨lift (afieldAddrR (some 3) (fr 1)) H32⟩ H32) ⟨fun v75 H33 =>
    @opi _ (@gdi (gw v74 true) ⟨lift (aloadR (some none) v75 H33) H33⟩ H33) ⟨fun v76 H34 =>
    @opi _ (@gdi (gw v74 true) ⟨lift (abinR .x .leq v76 (.int .i64 7)) H34⟩ H34) ⟨fun v77 H35 =>
    @opi _ (lift (apick v74 v77 (.bool false)) H35) ⟨fun v78 H36 =>
    @opi _ (lift (some v78) H36) ⟨fun v79 H37 =>
    @opi _ (@gdi (gw v79 true) ⟨lift (afieldAddrR (some 4) (fr 1)) H37⟩ H37) ⟨fun v80 H38 =>
    @opi _ (@gdi (gw v79 true) ⟨lift (aloadR (some none) v80 H38) H38⟩ H38) ⟨fun v81 H39 =>
    @opi _ (@gdi (gw v79 true) ⟨lift (afieldAddrR (some 0) (fr 1)) H39⟩ H39) ⟨fun v82 H40 =>
    @opi _ (@gdi (gw v79 true) ⟨lift (aloadR (some none) v82 H40) H40⟩ H40) ⟨fun v83 H41 =>
    @opi _ (@gdi (gw v79 true) ⟨callP false s2 [[none]] [v83] H41⟩ H41) ⟨fun v84 H42 =>
    @opi _ (@gdi (gw v79 true) ⟨lift (abinR .x .geq v81 v84) H42⟩ H42) ⟨fun v85 H43 =>
    @opi _ (lift (apick v79 v85 (.bool false)) H43) ⟨fun v86 H44 =>
    @opi _ (lift (some v86) H44) ⟨fun v87 H45 =>
    @opi _ (@gdi (gw v87 true) ⟨lift (afieldAddrR (some 4) (fr 1)) H45⟩ H45) ⟨fun v88 H46 =>
    @opi _ (@gdi (gw v87 true) ⟨lift (aloadR (some none) v88 H46) H46⟩ H46) ⟨fun v89 H47 =>
    @opi _ (@gdi (gw v87 true) ⟨lift (afieldAddrR (some 0) (fr 1)) H47⟩ H47) ⟨fun v90 H48 =>
    @opi _ (@gdi (gw v87 true) ⟨lift (aloadR (some none) v90 H48) H48⟩ H48) ⟨fun v91 H49 =>
    @opi _ (@gdi (gw v87 true) ⟨callP false s3 [[none]] [v91] H49⟩ H49) ⟨fun v92 H50 =>
    @opi _ (@gdi (gw v87 true) ⟨lift (abinR .x .leq v89 v92) H50⟩ H50) ⟨fun v93 H51 =>
    @opi _ (lift (apick v87 v93 (.bool false)) H51) ⟨fun v94 H52 =>
    @opi _ (lift (some v94) H52) ⟨fun v2 H53 =>
    withChk [aloadR (some none) v80 H41 = aloadR (some none) v80 H42, aloadR (some none) v88 H49 = aloadR (some none) v88 H50] (some (AFr.al [(2, v2)], H53))⟩⟩⟩⟩⟩⟩⟩⟩⟩⟩⟩⟩⟩⟩⟩⟩⟩⟩⟩⟩⟩⟩⟩⟩⟩⟩⟩⟩⟩⟩⟩⟩⟩⟩⟩⟩⟩⟩⟩⟩⟩⟩⟩⟩⟩⟩⟩⟩⟩⟩⟩⟩⟩)
@[simp] noncomputable def body (s0 : SpecP) (s1 : SpecP) (s2 : SpecP) (s3 : SpecP) (fr : AFr) (H : AHeap) : ARes :=
  @aseqi (r0 s0 s1 s2 s3 fr H) ⟨fun fr H =>
  @aseqi (@aseqi (r1 s0 s1 s2 s3 fr H) ⟨fun fr H =>
  @acondi (fr 11)
    ⟨@aseqi (r2 s0 s1 s2 s3 fr H) ⟨fun fr H =>
    some (.ret, fr, H)⟩⟩
    ⟨some (.normal, fr, H)⟩⟩) ⟨fun fr H =>
  @aseqi (r3 s0 s1 s2 s3 fr H) ⟨fun fr H =>
  @aseqi (@aseqi (r4 s0 s1 s2 s3 fr H) ⟨fun fr H =>
  @acondi (fr 16)
    ⟨@aseqi (r5 s0 s1 s2 s3 fr H) ⟨fun fr H =>
    @acondi (fr 24)
      ⟨@aseqi (r6 s0 s1 s2 s3 fr H) ⟨fun fr H =>
      some (.ret, fr, H)⟩⟩
      ⟨some (.normal, fr, H)⟩⟩⟩
    ⟨@aseqi (r7 s0 s1 s2 s3 fr H) ⟨fun fr H =>
    @acondi (fr 42)
      ⟨@aseqi (r8 s0 s1 s2 s3 fr H) ⟨fun fr H =>
      some (.ret, fr, H)⟩⟩
      ⟨some (.normal, fr, H)⟩⟩⟩⟩) ⟨fun fr H =>
  @aseqi (r9 s0 s1 s2 s3 fr H) ⟨fun fr H =>
  some (.ret, fr, H)⟩⟩⟩⟩⟩
@[simp] def res (fr : AFr) (H : AHeap) : Option (List AV) := res2 (some (fr 2)) (some [])
end ref02_Can
noncomputable def ref02_Can (a0 : AV) : Option AV := closeUpR (some [[none]]) (afinR ref02_Can.res (ref02_Can.body ref02_Shape.spec ref02_has.spec ref02_Low.spec ref02_High.spec (args0 [a0]) AHeap.empty))
noncomputable def ref02_Can.spec : List AV → Option AV
  | [a0] => ref02_Can a0
  | _ => none

/-! bauta/bautaref02.Put: function 15 -/
namespace ref02_Put
noncomputable def C (s0 : SpecP) (s1 : SpecP) : Tab := ((Tab.none.add 17 (.pure false s0)).add 42 (.pure false s1))
@[simp] noncomputable def r0 (s0 : SpecP) (s1 : SpecP) (fr : AFr) (H : AHeap) : ARes :=
  areg (@opi _ (abox T.ty_api_Ins (fr 0) H) ⟨fun v1 H =>
    @opi _ (lift (some (W16 0#16)) H) ⟨fun v2 H =>
    @opi _ (lift (some (.int .i64 0)) H) ⟨fun v3 H =>
    some (AFr.al [(1, v1)], H)⟩⟩⟩)
@[simp] noncomputable def r1 (s0 : SpecP) (s1 : SpecP) (fr : AFr) (H : AHeap) : ARes :=
  areg (@opi _ (lift (aloadR (some (some 5)) (fr 1) H) H) ⟨fun v13 H =>
    @opi _ (callP false s0 [[none, none, none, none, none]] [v13] H) ⟨fun v14 H =>
    @opi _ (lift (aun .not v14) H) ⟨fun v15 H =>
    some (AFr.al [(1, fr 1), (15, v15)], H)⟩⟩⟩)
@[simp] noncomputable def r2 (s0 : SpecP) (s1 : SpecP) (fr : AFr) (H : AHeap) : ARes :=
  areg (@opi _ (lift (some (W16 0#16)) H) ⟨fun v2 H =>
    @opi _ (lift (some (.int .i64 1)) H) ⟨fun v3 H =>
    some (AFr.al [(2, v2), (3, v3)], H)⟩⟩)
@[simp] noncomputable def r3 (s0 : SpecP) (s1 : SpecP) (fr : AFr) (H : AHeap) : ARes :=
  areg (@opi _ (lift (afieldAddrR (some 0) (fr 1)) H) ⟨fun v16 H =>
    @opi _ (lift (aloadR (some none) v16 H) H) ⟨fun v17 H =>
    @opi _ (callP false s1 [[none]] [v17] H) ⟨fun v18 H =>
    @opi _ (lift (some v18) H) ⟨fun v4 H =>
    @opi _ (lift (some (.int .i64 0)) H) ⟨fun v5 H =>
    some (AFr.al [(1, fr 1), (4, v4), (5, v5)], H)⟩⟩⟩⟩⟩)
@[simp] noncomputable def r4 (s0 : SpecP) (s1 : SpecP) (fr : AFr) (H : AHeap) : ARes :=
  areg (@opi _ (lift (afieldAddrR (some 1) (fr 1)) H) ⟨fun v19 H1 =>
    @opi _ (lift (aloadR (some none) v19 H1) H1) ⟨fun v20 H2 =>
    @opi _ (lift (afieldAddrR (some 2) (fr 1)) H2) ⟨fun v21 H3 =>
    @opi _ (lift (aloadR (some none) v21 H3) H3) ⟨fun v22 H4 =>
    @opi _ (lift (afieldAddrR (some 3) (fr 1)) H4) ⟨fun v23 H5 =>
    @opi _ (lift (aloadR (some none) v23 H5) H5) ⟨fun v24 H6 =>
    @opi _ (lift (afieldAddrR (some 4) (fr 1)) H6) ⟨fun v25 H7 =>
    @opi _ (lift (aloadR (some none) v25 H7) H7) ⟨fun v26 H8 =>
    @opi _ (lift (some v20) H8) ⟨fun v6 H9 =>
    @opi _ (lift (some v22) H9) ⟨fun v7 H10 =>
    @opi _ (lift (some v24) H10) ⟨fun v8 H11 =>
    @opi _ (lift (some v26) H11) ⟨fun v9 H12 =>
    some (AFr.al [(4, fr 4), (5, fr 5), (6, v6), (7, v7), (8, v8), (9, v9)], H12)⟩⟩⟩⟩⟩⟩⟩⟩⟩⟩⟩⟩)
@[simp] noncomputable def r5 (s0 : SpecP) (s1 : SpecP) (fr : AFr) (H : AHeap) : ARes :=
  areg (@opi _ (lift (some (fr 9)) H) ⟨fun v27 H =>
    @opi _ (lift (abinR .x .lss v27 (.int .i64 0)) H) ⟨fun v28 H =>
    some (AFr.al [(4, fr 4), (5, fr 5), (6, fr 6), (7, fr 7), (8, fr 8), (9, fr 9), (28, v28)], H)⟩⟩)
@[simp] noncomputable def r6 (s0 : SpecP) (s1 : SpecP) (fr : AFr) (H : AHeap) : ARes :=
  areg (@opi _ (lift (some (fr 9)) H) ⟨fun v29 H =>
    @opi _ (lift (abinR .x .add v29 (.int .i64 2048)) H) ⟨fun v30 H =>
    @opi _ (lift (some v30) H) ⟨fun v9 H =>
    some (AFr.al [(4, fr 4), (5, fr 5), (6, fr 6), (7, fr 7), (8, fr 8), (9, v9)], H)⟩⟩⟩)
@[simp] noncomputable def r7 (s0 : SpecP) (s1 : SpecP) (fr : AFr) (H : AHeap) : ARes :=
  areg (@opi _ (lift (some (.int .i64 15)) H) ⟨fun v10 H =>
    some (AFr.al [(4, fr 4), (5, fr 5), (6, fr 6), (7, fr 7), (8, fr 8), (9, fr 9), (10, v10)], H)⟩)
@[simp] noncomputable def r8 (s0 : SpecP) (s1 : SpecP) (fr : AFr) (H : AHeap) : ARes :=
  areg (@opi _ (lift (some (fr 10)) H) ⟨fun v31 H =>
    @opi _ (lift (abinR .x .geq v31 (.int .i64 0)) H) ⟨fun v32 H =>
    some (AFr.al [(4, fr 4), (5, fr 5), (6, fr 6), (7, fr 7), (8, fr 8), (9, fr 9), (10, fr 10), (32, v32)], H)⟩⟩)
@[simp] noncomputable def r10 (s0 : SpecP) (s1 : SpecP) (fr : AFr) (H : AHeap) : ARes :=
  areg (@opi _ (lift (some (.int .i64 0)) H) ⟨fun v11 H =>
    some (AFr.al [(4, fr 4), (5, fr 5), (6, fr 6), (7, fr 7), (8, fr 8), (9, fr 9), (10, fr 10), (11, v11)], H)⟩)
@[simp] noncomputable def r11 (s0 : SpecP) (s1 : SpecP) (fr : AFr) (H : AHeap) : ARes :=
  areg (@opi _ (lift (some (fr 4)) H) ⟨fun v35 H =>
    @opi _ (lift (some (fr 10)) H) ⟨fun v36 H =>
    @opi _ (lift (aindexR .str v35 v36) H) ⟨fun v37 H =>
    some (AFr.al [(4, fr 4), (5, fr 5), (6, fr 6), (7, fr 7), (8, fr 8), (9, fr 9), (10, fr 10), (11, fr 11), (37, v37)], H)⟩⟩⟩)
@[simp] noncomputable def r12 (s0 : SpecP) (s1 : SpecP) (fr : AFr) (H : AHeap) : ARes :=
  areg (@opi _ (lift (abinR .x .eql (fr 37) (W8 49#8)) H) ⟨fun v39 H =>
    @opi _ (lift (some v39) H) ⟨fun v38 H =>
    some (AFr.al [(4, fr 4), (5, fr 5), (6, fr 6), (7, fr 7), (8, fr 8), (9, fr 9), (10, fr 10), (11, fr 11), (37, fr 37), (38, v38)], H)⟩⟩)
@[simp] noncomputable def r13 (s0 : SpecP) (s1 : SpecP) (fr : AFr) (H : AHeap) : ARes :=
  areg (@opi _ (lift (some (.int .i64 1)) H) ⟨fun v11 H =>
    some (AFr.al [(4, fr 4), (5, fr 5), (6, fr 6), (7, fr 7), (8, fr 8), (9, fr 9), (10, fr 10), (11, v11)], H)⟩)
@[simp] noncomputable def r14 (s0 : SpecP) (s1 : SpecP) (fr : AFr) (H : AHeap) : ARes :=
  areg (@opi _ (lift (abinR .x .eql (fr 37) (W8 100#8)) H) ⟨fun v41 H =>
    @opi _ (lift (some v41) H) ⟨fun v40 H =>
    some (AFr.al [(4, fr 4), (5, fr 5), (6, fr 6), (7, fr 7), (8, fr 8), (9, fr 9), (10, fr 10), (11, fr 11), (37, fr 37), (40, v40)], H)⟩⟩)
@[simp] noncomputable def r15 (s0 : SpecP) (s1 : SpecP) (fr : AFr) (H : AHeap) : ARes :=
  areg (@opi _ (lift (abinR .x .eql (fr 37) (W8 99#8)) H) ⟨fun v42 H =>
    @opi _ (lift (some v42) H) ⟨fun v40 H =>
    some (AFr.al [(4, fr 4), (5, fr 5), (6, fr 6), (7, fr 7), (8, fr 8), (9, fr 9), (10, fr 10), (11, fr 11), (37, fr 37), (40, v40)], H)⟩⟩)
@[simp] noncomputable def r16 (s0 : SpecP) (s1 : SpecP) (fr : AFr) (H : AHeap) : ARes :=
  areg (@opi _ (lift (some (fr 6)) H) ⟨fun v43 H =>
    @opi _ (lift (abinR .x .rem v43 (.int .i64 2)) H) ⟨fun v44 H =>
    @opi _ (lift (some (fr 6)) H) ⟨fun v45 H =>
    @opi _ (lift (abinR .x .quo v45 (.int .i64 2)) H) ⟨fun v46 H =>
    @opi _ (lift (some v44) H) ⟨fun v11 H =>
    @opi _ (lift (some v46) H) ⟨fun v6 H =>
    some (AFr.al [(4, fr 4), (5, fr 5), (6, v6), (7, fr 7), (8, fr 8), (9, fr 9), (10, fr 10), (11, v11)], H)⟩⟩⟩⟩⟩⟩)
@[simp] noncomputable def r17 (s0 : SpecP) (s1 : SpecP) (fr : AFr) (H : AHeap) : ARes :=
  areg (@opi _ (lift (abinR .x .eql (fr 37) (W8 110#8)) H) ⟨fun v48 H =>
    @opi _ (lift (some v48) H) ⟨fun v47 H =>
    some (AFr.al [(4, fr 4), (5, fr 5), (6, fr 6), (7, fr 7), (8, fr 8), (9, fr 9), (10, fr 10), (11, fr 11), (37, fr 37), (47, v47)], H)⟩⟩)
@[simp] noncomputable def r18 (s0 : SpecP) (s1 : SpecP) (fr : AFr) (H : AHeap) : ARes :=
  areg (@opi _ (lift (some (fr 7)) H) ⟨fun v49 H =>
    @opi _ (lift (abinR .x .rem v49 (.int .i64 2)) H) ⟨fun v50 H =>
    @opi _ (lift (some (fr 7)) H) ⟨fun v51 H =>
    @opi _ (lift (abinR .x .quo v51 (.int .i64 2)) H) ⟨fun v52 H =>
    @opi _ (lift (some v50) H) ⟨fun v11 H =>
    @opi _ (lift (some v52) H) ⟨fun v7 H =>
    some (AFr.al [(4, fr 4), (5, fr 5), (6, fr 6), (7, v7), (8, fr 8), (9, fr 9), (10, fr 10), (11, v11)], H)⟩⟩⟩⟩⟩⟩)
@[simp] noncomputable def r19 (s0 : SpecP) (s1 : SpecP) (fr : AFr) (H : AHeap) : ARes :=
  areg (@opi _ (lift (abinR .x .eql (fr 37) (W8 109#8)) H) ⟨fun v54 H =>
    @opi _ (lift (some v54) H) ⟨fun v53 H =>
    some (AFr.al [(4, fr 4), (5, fr 5), (6, fr 6), (7, fr 7), (8, fr 8), (9, fr 9), (10, fr 10), (11, fr 11), (37, fr 37), (53, v53)], H)⟩⟩)
@[simp] noncomputable def r20 (s0 : SpecP) (s1 : SpecP) (fr : AFr) (H : AHeap) : ARes :=
  areg (@opi _ (lift (some (fr 8)) H) ⟨fun v55 H =>
    @opi _ (lift (abinR .x .rem v55 (.int .i64 2)) H) ⟨fun v56 H =>
    @opi _ (lift (some (fr 8)) H) ⟨fun v57 H =>
    @opi _ (lift (abinR .x .quo v57 (.int .i64 2)) H) ⟨fun v58 H =>
    @opi _ (lift (some v56) H) ⟨fun v11 H =>
    @opi _ (lift (some v58) H) ⟨fun v8 H =>
    some (AFr.al [(4, fr 4), (5, fr 5), (6, fr 6), (7, fr 7), (8, v8), (9, fr 9), (10, fr 10), (11, v11)], H)⟩⟩⟩⟩⟩⟩)
@[simp] noncomputable def r21 (s0 : SpecP) (s1 : SpecP) (fr : AFr) (H : AHeap) : ARes :=
  areg (@opi _ (lift (abinR .x .eql (fr 37) (W8 105#8)) H) ⟨fun v60 H =>
    @opi _ (lift (some v60) H) ⟨fun v59 H =>
    some (AFr.al [(4, fr 4), (5, fr 5), (6, fr 6), (7, fr 7), (8, fr 8), (9, fr 9), (10, fr 10), (11, fr 11), (59, v59)], H)⟩⟩)
@[simp] noncomputable def r22 (s0 : SpecP) (s1 : SpecP) (fr : AFr) (H : AHeap) : ARes :=
  areg (@opi _ (lift (some (fr 9)) H) ⟨fun v61 H =>
    @opi _ (lift (abinR .x .rem v61 (.int .i64 2)) H) ⟨fun v62 H =>
    @opi _ (lift (some (fr 9)) H) ⟨fun v63 H =>
    @opi _ (lift (abinR .x .quo v63 (.int .i64 2)) H) ⟨fun v64 H =>
    @opi _ (lift (some v62) H) ⟨fun v11 H =>
    @opi _ (lift (some v64) H) ⟨fun v9 H =>
    some (AFr.al [(4, fr 4), (5, fr 5), (6, fr 6), (7, fr 7), (8, fr 8), (9, v9), (10, fr 10), (11, v11)], H)⟩⟩⟩⟩⟩⟩)
@[simp] noncomputable def r23 (s0 : SpecP) (s1 : SpecP) (fr : AFr) (H : AHeap) : ARes :=
  areg (@opi _ (lift (some (fr 10)) H) ⟨fun v65 H =>
    @opi _ (lift (some v65) H) ⟨fun v12 H =>
    some (AFr.al [(4, fr 4), (5, fr 5), (6, fr 6), (7, fr 7), (8, fr 8), (9, fr 9), (10, fr 10), (11, fr 11), (12, v12)], H)⟩⟩)
@[simp] noncomputable def r24 (s0 : SpecP) (s1 : SpecP) (fr : AFr) (H : AHeap) : ARes :=
  areg (@opi _ (lift (some (fr 12)) H) ⟨fun v66 H =>
    @opi _ (lift (abinR .x .lss v66 (.int .i64 15)) H) ⟨fun v67 H =>
    some (AFr.al [(4, fr 4), (5, fr 5), (6, fr 6), (7, fr 7), (8, fr 8), (9, fr 9), (10, fr 10), (11, fr 11), (12, fr 12), (67, v67)], H)⟩⟩)
@[simp] noncomputable def r26 (s0 : SpecP) (s1 : SpecP) (fr : AFr) (H : AHeap) : ARes :=
  areg (@opi _ (lift (some (fr 11)) H) ⟨fun v70 H =>
    @opi _ (lift (abinR .x .mul v70 (.int .i64 2)) H) ⟨fun v71 H =>
    @opi _ (lift (some v71) H) ⟨fun v11 H =>
    some (AFr.al [(4, fr 4), (5, fr 5), (6, fr 6), (7, fr 7), (8, fr 8), (9, fr 9), (10, fr 10), (11, v11), (12, fr 12)], H)⟩⟩⟩)
@[simp] noncomputable def r25 (s0 : SpecP) (s1 : SpecP) (fr : AFr) (H : AHeap) : ARes :=
  areg (@opi _ (lift (some (fr 12)) H) ⟨fun v68 H =>
    @opi _ (lift (abinR .x .add v68 (.int .i64 1)) H) ⟨fun v69 H =>
    @opi _ (lift (some v69) H) ⟨fun v12 H =>
    some (AFr.al [(4, fr 4), (5, fr 5), (6, fr 6), (7, fr 7), (8, fr 8), (9, fr 9), (10, fr 10), (11, fr 11), (12, v12)], H)⟩⟩⟩)
@[simp] noncomputable def r27 (s0 : SpecP) (s1 : SpecP) (fr : AFr) (H : AHeap) : ARes :=
  areg (@opi _ (lift (some (fr 5)) H) ⟨fun v72 H =>
    @opi _ (lift (some (fr 11)) H) ⟨fun v73 H =>
    @opi _ (lift (abinR .x .add v72 v73) H) ⟨fun v74 H =>
    @opi _ (lift (some v74) H) ⟨fun v5 H =>
    some (AFr.al [(4, fr 4), (5, v5), (6, fr 6), (7, fr 7), (8, fr 8), (9, fr 9), (10, fr 10)], H)⟩⟩⟩⟩)
@[simp] noncomputable def r9 (s0 : SpecP) (s1 : SpecP) (fr : AFr) (H : AHeap) : ARes :=
  areg (@opi _ (lift (some (fr 10)) H) ⟨fun v33 H =>
    @opi _ (lift (abinR .x .sub v33 (.int .i64 1)) H) ⟨fun v34 H =>
    @opi _ (lift (some v34) H) ⟨fun v10 H =>
    some (AFr.al [(4, fr 4), (5, fr 5), (6, fr 6), (7, fr 7), (8, fr 8), (9, fr 9), (10, v10)], H)⟩⟩⟩)
@[simp] noncomputable def r28 (s0 : SpecP) (s1 : SpecP) (fr : AFr) (H : AHeap) : ARes :=
  areg (@opi _ (lift (some (fr 5)) H) ⟨fun v75 H =>
    @opi _ (lift (aconvR (some .u16) v75) H) ⟨fun v76 H =>
    @opi _ (lift (some v76) H) ⟨fun v2 H =>
    @opi _ (lift (some (.int .i64 0)) H) ⟨fun v3 H =>
    some (AFr.al [(2, v2), (3, v3)], H)⟩⟩⟩⟩)
noncomputable def l1 (s0 : SpecP) (s1 : SpecP) (fr : AFr) (H : AHeap) : ARes :=
  @aseqi (@aseqi (r24 s0 s1 fr H) ⟨fun fr H =>
  @acondi (fr 67)
    ⟨some (.normal, fr, H)⟩
    ⟨some (.exit 3, fr, H)⟩⟩) ⟨fun fr H =>
  @aseqi (aexit 4 (r26 s0 s1 fr H)) ⟨fun fr H =>
  r25 s0 s1 fr H⟩⟩
noncomputable def l0 (s0 : SpecP) (s1 : SpecP) (fr : AFr) (H : AHeap) : ARes :=
  @aseqi (@aseqi (r8 s0 s1 fr H) ⟨fun fr H =>
  @acondi (fr 32)
    ⟨some (.normal, fr, H)⟩
    ⟨some (.exit 0, fr, H)⟩⟩) ⟨fun fr H =>
  @aseqi (aexit 1 (@aseqi (r10 s0 s1 fr H) ⟨fun fr H =>
  @aseqi (@aseqi (r11 s0 s1 fr H) ⟨fun fr H =>
  aexit 2 (@aseqi (r12 s0 s1 fr H) ⟨fun fr H =>
  @acondi (fr 38)
    ⟨r13 s0 s1 fr H⟩
    ⟨@aseqi (@aseqi (r14 s0 s1 fr H) ⟨fun fr H =>
    @acondi (fr 40)
      ⟨some (.normal, fr, H)⟩
      ⟨r15 s0 s1 fr H⟩⟩) ⟨fun fr H =>
    @acondi (fr 40)
      ⟨r16 s0 s1 fr H⟩
      ⟨@aseqi (r17 s0 s1 fr H) ⟨fun fr H =>
      @acondi (fr 47)
        ⟨r18 s0 s1 fr H⟩
        ⟨@aseqi (r19 s0 s1 fr H) ⟨fun fr H =>
        @acondi (fr 53)
          ⟨r20 s0 s1 fr H⟩
          ⟨@aseqi (r21 s0 s1 fr H) ⟨fun fr H =>
          @acondi (fr 59)
            ⟨r22 s0 s1 fr H⟩
            ⟨some (.normal, fr, H)⟩⟩⟩⟩⟩⟩⟩⟩⟩⟩)⟩) ⟨fun fr H =>
  @aseqi (@aseqi (r23 s0 s1 fr H) ⟨fun fr H =>
  aexit 3 (aloop (l1 s0 s1) fr H)⟩) ⟨fun fr H =>
  r27 s0 s1 fr H⟩⟩⟩)) ⟨fun fr H =>
  r9 s0 s1 fr H⟩⟩
@[simp] noncomputable def body (s0 : SpecP) (s1 : SpecP) (fr : AFr) (H : AHeap) : ARes :=
  @aseqi (r0 s0 s1 fr H) ⟨fun fr H =>
  @aseqi (@aseqi (r1 s0 s1 fr H) ⟨fun fr H =>
  @acondi (fr 15)
    ⟨@aseqi (r2 s0 s1 fr H) ⟨fun fr H =>
    some (.ret, fr, H)⟩⟩
    ⟨some (.normal, fr, H)⟩⟩) ⟨fun fr H =>
  @aseqi (r3 s0 s1 fr H) ⟨fun fr H =>
  @aseqi (r4 s0 s1 fr H) ⟨fun fr H =>
  @aseqi (@aseqi (r5 s0 s1 fr H) ⟨fun fr H =>
  @acondi (fr 28)
    ⟨r6 s0 s1 fr H⟩
    ⟨some (.normal, fr, H)⟩⟩) ⟨fun fr H =>
  @aseqi (@aseqi (r7 s0 s1 fr H) ⟨fun fr H =>
  aexit 0 (aloop (l0 s0 s1) fr H)⟩) ⟨fun fr H =>
  @aseqi (r28 s0 s1 fr H) ⟨fun fr H =>
  some (.ret, fr, H)⟩⟩⟩⟩⟩⟩⟩
@[simp] def res (fr : AFr) (H : AHeap) : Option (List AV) := res2 (some (fr 2)) (res2 (some (fr 3)) (some []))
end ref02_Put
noncomputable def ref02_Put (a0 : AV) : Option AV := closeUpR (some [[none], [none]]) (afinR ref02_Put.res (ref02_Put.body ref02_Can.spec ref02_Shape.spec (args0 [a0]) AHeap.empty))
noncomputable def ref02_Put.spec : List AV → Option AV
  | [a0] => ref02_Put a0
  | _ => none

/-! bauta/thumb.Take: function 18 -/
namespace thumb_Take
noncomputable def C (s0 : SpecP) (s1 : SpecM) (s2 : SpecP) (s3 : SpecP) : Tab := ((((Tab.none.add 46 (.pure false s0)).add 47 (.ref [false, false] s1)).add 40 (.pure false s2)).add 41 (.pure false s3))
@[simp] noncomputable def r0 (s0 : SpecP) (s1 : SpecM) (s2 : SpecP) (s3 : SpecP) (fr : AFr) (H : AHeap) : ARes :=
  areg (@opi _ (aallocR T.ty_api_Ins (some (.agg [(.int .i64 0), (.int .i64 0), (.int .i64 0), (.int .i64 0), (.int .i64 0)])) H) ⟨fun v2 H =>
    @opi _ (lift (some (.int .i64 0)) H) ⟨fun v3 H =>
    some (AFr.al [(0, fr 0), (2, v2)], H)⟩⟩)
@[simp] noncomputable def r1 (s0 : SpecP) (s1 : SpecM) (s2 : SpecP) (s3 : SpecP) (fr : AFr) (H : AHeap) : ARes :=
  areg (@opi _ (lift (some (.int .i64 0)) H) ⟨fun v10 H =>
    some (AFr.al [(0, fr 0), (2, fr 2), (10, v10)], H)⟩)
@[simp] noncomputable def r2 (s0 : SpecP) (s1 : SpecM) (s2 : SpecP) (s3 : SpecP) (fr : AFr) (H : AHeap) : ARes :=
  areg (@opi _ (lift (abinR .x .lss (fr 10) (.int .i64 21)) H) ⟨fun v11 H =>
    some (AFr.al [(0, fr 0), (2, fr 2), (10, fr 10), (11, v11)], H)⟩)
@[simp] noncomputable def r3 (s0 : SpecP) (s1 : SpecM) (s2 : SpecP) (s3 : SpecP) (fr : AFr) (H : AHeap) : ARes :=
  areg (@opi _ (lift (some (fr 10)) H) ⟨fun v12 H =>
    @opi _ (lift (some v12) H) ⟨fun v4 H =>
    some (AFr.al [(0, fr 0), (2, fr 2), (4, v4), (10, fr 10)], H)⟩⟩)
@[simp] noncomputable def r4 (s0 : SpecP) (s1 : SpecM) (s2 : SpecP) (s3 : SpecP) (fr : AFr) (H : AHeap) : ARes :=
  areg (@opi _ (lift (some (fr 4)) H) ⟨fun v13 H =>
    @opi _ (callP false s0 [[none]] [v13] H) ⟨fun v14 H =>
    @opi _ (lift (some (fr 4)) H) ⟨fun v15 H =>
    @opi _ (lift (abuildR (.str [(.int .i64 0), (.int .i64 0), (.int .i64 0), (.int .i64 0), (.int .i64 0)] [(0, 1), (1, 1), (2, 1), (3, 1), (4, 1)]) [(0, v15)]) H) ⟨fun v16 H =>
    @opi _ (aallocR T.ty_thumb_shape (some (.agg [(W16 0#16), (W8 0#8), (.int .i64 0), (.int .i64 0), (W8 0#8), (.int .i64 0), (.int .i64 0), (W8 0#8), (.int .i64 0), (.int .i64 0), (.int .i64 0), (.int .i64 0)])) H) ⟨fun v5 H =>
    @opi _ (aallocR T.ty_api_Ins (some (.agg [(.int .i64 0), (.int .i64 0), (.int .i64 0), (.int .i64 0), (.int .i64 0)])) H) ⟨fun v6 H =>
    @opi _ (liftS (astoreR (some 12) v5 v14 H)) ⟨fun _ H =>
    @opi _ (liftS (astoreR (some 5) v6 v16 H)) ⟨fun _ H =>
    some (AFr.al [(0, fr 0), (2, fr 2), (5, v5), (6, v6), (10, fr 10)], H)⟩⟩⟩⟩⟩⟩⟩⟩)
@[simp] noncomputable def r5 (s0 : SpecP) (s1 : SpecM) (s2 : SpecP) (s3 : SpecP) (fr : AFr) (H : AHeap) : ARes :=
  areg (@opi _ (lift (afieldAddrR (some 1) (fr 5)) H) ⟨fun v17 H =>
    @opi _ (lift (aloadR (some (some 9)) v17 H) H) ⟨fun v18 H =>
    @opi _ (lift (some (.int .i64 0)) H) ⟨fun v19 H =>
    some (AFr.al [(0, fr 0), (2, fr 2), (5, fr 5), (6, fr 6), (10, fr 10), (18, v18), (19, v19)], H)⟩⟩⟩)
@[simp] noncomputable def r6 (s0 : SpecP) (s1 : SpecM) (s2 : SpecP) (s3 : SpecP) (fr : AFr) (H : AHeap) : ARes :=
  areg (@opi _ (lift (abinR .x .lss (fr 19) (.int .i64 3)) H) ⟨fun v20 H =>
    some (AFr.al [(0, fr 0), (2, fr 2), (5, fr 5), (6, fr 6), (10, fr 10), (18, fr 18), (19, fr 19), (20, v20)], H)⟩)
@[simp] noncomputable def r7 (s0 : SpecP) (s1 : SpecM) (s2 : SpecP) (s3 : SpecP) (fr : AFr) (H : AHeap) : ARes :=
  areg (@opi _ (lift (aindexR (.arr 3 3 (some (some 3))) (fr 18) (fr 19)) H) ⟨fun v21 H =>
    @opi _ (aallocR T.ty_thumb_part (some (.agg [(W8 0#8), (.int .i64 0), (.int .i64 0)])) H) ⟨fun v8 H =>
    @opi _ (liftS (astoreR (some 3) v8 v21 H)) ⟨fun _ H =>
    some (AFr.al [(0, fr 0), (2, fr 2), (5, fr 5), (6, fr 6), (8, v8), (10, fr 10), (18, fr 18), (19, fr 19)], H)⟩⟩⟩)
@[simp] noncomputable def r8 (s0 : SpecP) (s1 : SpecM) (s2 : SpecP) (s3 : SpecP) (fr : AFr) (H : AHeap) : ARes :=
  areg (@opi _ (lift (afieldAddrR (some 2) (fr 8)) H) ⟨fun v22 H =>
    @opi _ (lift (aloadR (some none) v22 H) H) ⟨fun v23 H =>
    @opi _ (lift (abinR .x .eql v23 (.int .i64 0)) H) ⟨fun v24 H =>
    some (AFr.al [(0, fr 0), (2, fr 2), (5, fr 5), (6, fr 6), (8, fr 8), (10, fr 10), (18, fr 18), (19, fr 19), (24, v24)], H)⟩⟩⟩)
@[simp] noncomputable def r9 (s0 : SpecP) (s1 : SpecM) (s2 : SpecP) (s3 : SpecP) (fr : AFr) (H : AHeap) : ARes :=
  areg (@opi _ (lift (some (fr 0)) H) ⟨fun v25 H1 =>
    @opi _ (lift (afieldAddrR (some 1) (fr 8)) H1) ⟨fun v26 H2 =>
    @opi _ (lift (aloadR (some none) v26 H2) H2) ⟨fun v27 H3 =>
    @opi _ (lift (abinR .x .shr v25 v27) H3) ⟨fun v28 H4 =>
    @opi _ (lift (afieldAddrR (some 2) (fr 8)) H4) ⟨fun v29 H5 =>
    @opi _ (lift (aloadR (some none) v29 H5) H5) ⟨fun v30 H6 =>
    @opi _ (lift (abinR .x .shl (W16 1#16) v30) H6) ⟨fun v31 H7 =>
    @opi _ (lift (abinR .x .sub v31 (W16 1#16)) H7) ⟨fun v32 H8 =>
    @opi _ (lift (abinR .x .and v28 v32) H8) ⟨fun v33 H9 =>
    @opi _ (lift (aconvR (some .i64) v33) H9) ⟨fun v34 H10 =>
    @opi _ (lift (some v34) H10) ⟨fun v9 H11 =>
    some (AFr.al [(0, fr 0), (2, fr 2), (5, fr 5), (6, fr 6), (8, fr 8), (9, v9), (10, fr 10), (18, fr 18), (19, fr 19)], H11)⟩⟩⟩⟩⟩⟩⟩⟩⟩⟩⟩)
@[simp] noncomputable def r10 (s0 : SpecP) (s1 : SpecM) (s2 : SpecP) (s3 : SpecP) (fr : AFr) (H : AHeap) : ARes :=
  areg (@opi _ (lift (afieldAddrR (some 0) (fr 8)) H) ⟨fun v36 H =>
    @opi _ (lift (aloadR (some none) v36 H) H) ⟨fun v37 H =>
    @opi _ (lift (abinR .x .eql v37 (W8 105#8)) H) ⟨fun v38 H =>
    @opi _ (lift (some v38) H) ⟨fun v39 H =>
    @opi _ (@gdi (gw v39 true) ⟨lift (afieldAddrR (some 10) (fr 5)) H⟩ H) ⟨fun v40 H =>
    @opi _ (@gdi (gw v39 true) ⟨lift (aloadR (some none) v40 H) H⟩ H) ⟨fun v41 H =>
    @opi _ (@gdi (gw v39 true) ⟨lift (abinR .x .lss v41 (.int .i64 0)) H⟩ H) ⟨fun v42 H =>
    @opi _ (lift (apick v39 v42 (.bool false)) H) ⟨fun v43 H =>
    @opi _ (lift (some v43) H) ⟨fun v44 H =>
    @opi _ (@gdi (gw v44 true) ⟨lift (some (fr 9)) H⟩ H) ⟨fun v45 H =>
    @opi _ (@gdi (gw v44 true) ⟨lift (afieldAddrR (some 11) (fr 5)) H⟩ H) ⟨fun v46 H =>
    @opi _ (@gdi (gw v44 true) ⟨lift (aloadR (some none) v46 H) H⟩ H) ⟨fun v47 H =>
    @opi _ (@gdi (gw v44 true) ⟨lift (abinR .x .gtr v45 v47) H⟩ H) ⟨fun v48 H =>
    @opi _ (lift (apick v44 v48 (.bool false)) H) ⟨fun v49 H =>
    @opi _ (lift (some v49) H) ⟨fun v35 H =>
    some (AFr.al [(0, fr 0), (2, fr 2), (5, fr 5), (6, fr 6), (8, fr 8), (9, fr 9), (10, fr 10), (18, fr 18), (19, fr 19), (35, v35)], H)⟩⟩⟩⟩⟩⟩⟩⟩⟩⟩⟩⟩⟩⟩⟩)
@[simp] noncomputable def r11 (s0 : SpecP) (s1 : SpecM) (s2 : SpecP) (s3 : SpecP) (fr : AFr) (H : AHeap) : ARes :=
  areg (@opi _ (lift (some (fr 9)) H) ⟨fun v50 H =>
    @opi _ (lift (afieldAddrR (some 2) (fr 8)) H) ⟨fun v51 H =>
    @opi _ (lift (aloadR (some none) v51 H) H) ⟨fun v52 H =>
    @opi _ (lift (abinR .x .shl (.int .i64 1) v52) H) ⟨fun v53 H =>
    @opi _ (lift (abinR .x .sub v50 v53) H) ⟨fun v54 H =>
    @opi _ (lift (some v54) H) ⟨fun v9 H =>
    some (AFr.al [(0, fr 0), (2, fr 2), (5, fr 5), (6, fr 6), (8, fr 8), (9, v9), (10, fr 10), (18, fr 18), (19, fr 19)], H)⟩⟩⟩⟩⟩⟩)
@[simp] noncomputable def r12 (s0 : SpecP) (s1 : SpecM) (s2 : SpecP) (s3 : SpecP) (fr : AFr) (H : AHeap) : ARes :=
  areg (@opi _ (lift (afieldAddrR (some 0) (fr 8)) H) ⟨fun v56 H =>
    @opi _ (lift (aloadR (some none) v56 H) H) ⟨fun v57 H =>
    @opi _ (lift (abinR .x .eql v57 (W8 105#8)) H) ⟨fun v58 H =>
    @opi _ (lift (some v58) H) ⟨fun v59 H =>
    @opi _ (@gdi (gw v59 true) ⟨lift (afieldAddrR (some 10) (fr 5)) H⟩ H) ⟨fun v60 H =>
    @opi _ (@gdi (gw v59 true) ⟨lift (aloadR (some none) v60 H) H⟩ H) ⟨fun v61 H =>
    @opi _ (@gdi (gw v59 true) ⟨lift (abinR .x .eql v61 (.int .i64 1)) H⟩ H) ⟨fun v62 H =>
    @opi _ (lift (apick v59 v62 (.bool false)) H) ⟨fun v63 H =>
    @opi _ (lift (some v63) H) ⟨fun v64 H =>
    @opi _ (@gdi (gw v64 true) ⟨lift (some (fr 9)) H⟩ H) ⟨fun v65 H =>
    @opi _ (@gdi (gw v64 true) ⟨lift (abinR .x .eql v65 (.int .i64 0)) H⟩ H) ⟨fun v66 H =>
    @opi _ (lift (apick v64 v66 (.bool false)) H) ⟨fun v67 H =>
    @opi _ (lift (some v67) H) ⟨fun v55 H =>
    some (AFr.al [(0, fr 0), (2, fr 2), (5, fr 5), (6, fr 6), (8, fr 8), (9, fr 9), (10, fr 10), (18, fr 18), (19, fr 19), (55, v55)], H)⟩⟩⟩⟩⟩⟩⟩⟩⟩⟩⟩⟩⟩)
@[simp] noncomputable def r13 (s0 : SpecP) (s1 : SpecM) (s2 : SpecP) (s3 : SpecP) (fr : AFr) (H : AHeap) : ARes :=
  areg (@opi _ (lift (afieldAddrR (some 11) (fr 5)) H) ⟨fun v68 H =>
    @opi _ (lift (aloadR (some none) v68 H) H) ⟨fun v69 H =>
    @opi _ (lift (some v69) H) ⟨fun v9 H =>
    some (AFr.al [(0, fr 0), (2, fr 2), (5, fr 5), (6, fr 6), (8, fr 8), (9, v9), (10, fr 10), (18, fr 18), (19, fr 19)], H)⟩⟩⟩)
@[simp] noncomputable def r14 (s0 : SpecP) (s1 : SpecM) (s2 : SpecP) (s3 : SpecP) (fr : AFr) (H : AHeap) : ARes :=
  areg (@opi _ (lift (afieldAddrR (some 0) (fr 8)) H) ⟨fun v70 H =>
    @opi _ (lift (aloadR (some none) v70 H) H) ⟨fun v71 H =>
    @opi _ (callM [false, false] s1 [[none], [none]] [(fr 6), v71] H) ⟨fun v72 H =>
    @opi _ (lift (some (fr 9)) H) ⟨fun v73 H =>
    @opi _ (lift (anil v72) H) ⟨fun v74 H =>
    @opi _ (liftS (astoreR (some 1) v74 v73 H)) ⟨fun _ H =>
    some (AFr.al [(0, fr 0), (2, fr 2), (5, fr 5), (6, fr 6), (10, fr 10), (18, fr 18), (19, fr 19)], H)⟩⟩⟩⟩⟩⟩)
@[simp] noncomputable def r15 (s0 : SpecP) (s1 : SpecM) (s2 : SpecP) (s3 : SpecP) (fr : AFr) (H : AHeap) : ARes :=
  areg (@opi _ (lift (abinR .x .add (fr 19) (.int .i64 1)) H) ⟨fun v75 H =>
    @opi _ (lift (some v75) H) ⟨fun v19 H =>
    some (AFr.al [(0, fr 0), (2, fr 2), (5, fr 5), (6, fr 6), (10, fr 10), (18, fr 18), (19, v19)], H)⟩⟩)
@[simp] noncomputable def r16 (s0 : SpecP) (s1 : SpecM) (s2 : SpecP) (s3 : SpecP) (fr : AFr) (H : AHeap) : ARes :=
  areg (@opi _ (lift (aloadR (some (some 5)) (fr 6) H) H) ⟨fun v76 H =>
    @opi _ (callP false s2 [[none, none, none, none, none]] [v76] H) ⟨fun v77 H =>
    @opi _ (lift (some v77) H) ⟨fun v78 H =>
    @opi _ (@gdi (gw v78 true) ⟨lift (aloadR (some (some 5)) (fr 6) H) H⟩ H) ⟨fun v79 H =>
    @opi _ (@gdi (gw v78 true) ⟨callP false s3 [[none, none, none, none, none]] [v79] H⟩ H) ⟨fun v80 H =>
    @opi _ (@gdi (gw v78 true) ⟨lift (some (fr 0)) H⟩ H) ⟨fun v81 H =>
    @opi _ (@gdi (gw v78 true) ⟨lift (abinR .x .eql v80 v81) H⟩ H) ⟨fun v82 H =>
    @opi _ (lift (apick v78 v82 (.bool false)) H) ⟨fun v83 H =>
    some (AFr.al [(0, fr 0), (2, fr 2), (6, fr 6), (10, fr 10), (83, v83)], H)⟩⟩⟩⟩⟩⟩⟩⟩)
@[simp] noncomputable def r17 (s0 : SpecP) (s1 : SpecM) (s2 : SpecP) (s3 : SpecP) (fr : AFr) (H : AHeap) : ARes :=
  areg (@opi _ (lift (aloadR (some (some 5)) (fr 6) H) H) ⟨fun v84 H =>
    @opi _ (liftS (astoreR (some 5) (fr 2) v84 H)) ⟨fun _ H =>
    @opi _ (lift (some (.int .i64 0)) H) ⟨fun v3 H =>
    some (AFr.al [(2, fr 2), (3, v3)], H)⟩⟩⟩)
@[simp] noncomputable def r18 (s0 : SpecP) (s1 : SpecM) (s2 : SpecP) (s3 : SpecP) (fr : AFr) (H : AHeap) : ARes :=
  areg (@opi _ (lift (abinR .x .add (fr 10) (.int .i64 1)) H) ⟨fun v85 H =>
    @opi _ (lift (some v85) H) ⟨fun v10 H =>
    some (AFr.al [(0, fr 0), (2, fr 2), (10, v10)], H)⟩⟩)
@[simp] noncomputable def r19 (s0 : SpecP) (s1 : SpecM) (s2 : SpecP) (s3 : SpecP) (fr : AFr) (H : AHeap) : ARes :=
  areg (@opi _ (lift (abuildR (.str [(.int .i64 0), (.int .i64 0), (.int .i64 0), (.int .i64 0), (.int .i64 0)] [(0, 1), (1, 1), (2, 1), (3, 1), (4, 1)]) []) H) ⟨fun v86 H =>
    @opi _ (liftS (astoreR (some 5) (fr 2) v86 H)) ⟨fun _ H =>
    @opi _ (lift (some (.int .i64 20)) H) ⟨fun v3 H =>
    some (AFr.al [(2, fr 2), (3, v3)], H)⟩⟩⟩)
noncomputable def l1 (s0 : SpecP) (s1 : SpecM) (s2 : SpecP) (s3 : SpecP) (fr : AFr) (H : AHeap) : ARes :=
  @aseqi (r6 s0 s1 s2 s3 fr H) ⟨fun fr H =>
  @aseqi (@acondi (fr 20)
    ⟨some (.normal, fr, H)⟩
    ⟨some (.exit 2, fr, H)⟩) ⟨fun fr H =>
  @aseqi (aexit 3 (@aseqi (r7 s0 s1 s2 s3 fr H) ⟨fun fr H =>
  @aseqi (@aseqi (r8 s0 s1 s2 s3 fr H) ⟨fun fr H =>
  @acondi (fr 24)
    ⟨some (.exit 3, fr, H)⟩
    ⟨some (.normal, fr, H)⟩⟩) ⟨fun fr H =>
  @aseqi (r9 s0 s1 s2 s3 fr H) ⟨fun fr H =>
  @aseqi (aexit 4 (@aseqi (r10 s0 s1 s2 s3 fr H) ⟨fun fr H =>
  @acondi (fr 35)
    ⟨r11 s0 s1 s2 s3 fr H⟩
    ⟨@aseqi (r12 s0 s1 s2 s3 fr H) ⟨fun fr H =>
    @acondi (fr 55)
      ⟨r13 s0 s1 s2 s3 fr H⟩
      ⟨some (.normal, fr, H)⟩⟩⟩⟩)) ⟨fun fr H =>
  r14 s0 s1 s2 s3 fr H⟩⟩⟩⟩)) ⟨fun fr H =>
  r15 s0 s1 s2 s3 fr H⟩⟩⟩
noncomputable def l0 (s0 : SpecP) (s1 : SpecM) (s2 : SpecP) (s3 : SpecP) (fr : AFr) (H : AHeap) : ARes :=
  @aseqi (r2 s0 s1 s2 s3 fr H) ⟨fun fr H =>
  @aseqi (@acondi (fr 11)
    ⟨some (.normal, fr, H)⟩
    ⟨some (.exit 0, fr, H)⟩) ⟨fun fr H =>
  @aseqi (aexit 1 (@aseqi (r3 s0 s1 s2 s3 fr H) ⟨fun fr H =>
  @aseqi (r4 s0 s1 s2 s3 fr H) ⟨fun fr H =>
  @aseqi (@aseqi (r5 s0 s1 s2 s3 fr H) ⟨fun fr H =>
  aexit 2 (aloop (l1 s0 s1 s2 s3) fr H)⟩) ⟨fun fr H =>
  @aseqi (r16 s0 s1 s2 s3 fr H) ⟨fun fr H =>
  @acondi (fr 83)
    ⟨@aseqi (r17 s0 s1 s2 s3 fr H) ⟨fun fr H =>
    some (.ret, fr, H)⟩⟩
    ⟨some (.normal, fr, H)⟩⟩⟩⟩⟩)) ⟨fun fr H =>
  r18 s0 s1 s2 s3 fr H⟩⟩⟩
@[simp] noncomputable def body (s0 : SpecP) (s1 : SpecM) (s2 : SpecP) (s3 : SpecP) (fr : AFr) (H : AHeap) : ARes :=
  @aseqi (r0 s0 s1 s2 s3 fr H) ⟨fun fr H =>
  @aseqi (@aseqi (r1 s0 s1 s2 s3 fr H) ⟨fun fr H =>
  aexit 0 (aloop (l0 s0 s1 s2 s3) fr H)⟩) ⟨fun fr H =>
  @aseqi (r19 s0 s1 s2 s3 fr H) ⟨fun fr H =>
  some (.ret, fr, H)⟩⟩⟩
@[simp] def res (fr : AFr) (H : AHeap) : Option (List AV) := res2 (aloadR (some (some 5)) (fr 2) H) (res2 (some (fr 3)) (some []))
end thumb_Take
noncomputable def thumb_Take (a0 : AV) : Option AV := closeUpR (some [[none, none, none, none, none], [none]]) (afinR thumb_Take.res (thumb_Take.body thumb_shapes.spec thumb_field.spec thumb_can.spec thumb_put.spec (args0 [a0]) AHeap.empty))
noncomputable def thumb_Take.spec : List AV → Option AV
  | [a0] => thumb_Take a0
  | _ => none

/-! bauta/bautalaw02.ThumbPuts: function 4 -/
namespace law02_ThumbPuts
noncomputable def C (s0 : SpecP) (s1 : SpecP) (s2 : SpecP) (s3 : SpecP) (s4 : SpecP) (s5 : SpecP) : Tab := ((((((Tab.none.add 13 (.pure false s0)).add 15 (.pure false s1)).add 16 (.pure false s2)).add 17 (.pure false s3)).add 14 (.pure false s4)).add 18 (.pure false s5))
@[simp] noncomputable def r0 (s0 : SpecP) (s1 : SpecP) (s2 : SpecP) (s3 : SpecP) (s4 : SpecP) (s5 : SpecP) (fr : AFr) (H : AHeap) : ARes :=
  areg (@opi _ (abox T.ty_api_Ins (fr 0) H) ⟨fun v1 H =>
    @opi _ (lift (some (.bool false)) H) ⟨fun v2 H =>
    some (AFr.al [(1, v1)], H)⟩⟩)
@[simp] noncomputable def r1 (s0 : SpecP) (s1 : SpecP) (s2 : SpecP) (s3 : SpecP) (s4 : SpecP) (s5 : SpecP) (fr : AFr) (H : AHeap) : ARes :=
  areg (@opi _ (lift (aloadR (some (some 5)) (fr 1) H) H) ⟨fun v10 H =>
    @opi _ (callP false s0 [[none, none, none, none, none]] [v10] H) ⟨fun v11 H =>
    @opi _ (lift (some v11) H) ⟨fun v9 H =>
    @opi _ (lift (aextract v9 0) H) ⟨fun v12 H =>
    @opi _ (lift (aextract v9 1) H) ⟨fun v13 H =>
    @opi _ (lift (some v12) H) ⟨fun v3 H =>
    @opi _ (lift (some v13) H) ⟨fun v4 H =>
    some (AFr.al [(1, fr 1), (3, v3), (4, v4)], H)⟩⟩⟩⟩⟩⟩⟩)
@[simp] noncomputable def r2 (s0 : SpecP) (s1 : SpecP) (s2 : SpecP) (s3 : SpecP) (s4 : SpecP) (s5 : SpecP) (fr : AFr) (H : AHeap) : ARes :=
  areg (@opi _ (lift (aloadR (some (some 5)) (fr 1) H) H) ⟨fun v15 H =>
    @opi _ (callP false s1 [[none, none, none, none, none]] [v15] H) ⟨fun v16 H =>
    @opi _ (lift (some v16) H) ⟨fun v14 H =>
    @opi _ (lift (aextract v14 0) H) ⟨fun v17 H =>
    @opi _ (lift (aextract v14 1) H) ⟨fun v18 H =>
    @opi _ (lift (some v17) H) ⟨fun v5 H =>
    @opi _ (lift (some v18) H) ⟨fun v6 H =>
    some (AFr.al [(1, fr 1), (3, fr 3), (4, fr 4), (5, v5), (6, v6)], H)⟩⟩⟩⟩⟩⟩⟩)
@[simp] noncomputable def r3 (s0 : SpecP) (s1 : SpecP) (s2 : SpecP) (s3 : SpecP) (s4 : SpecP) (s5 : SpecP) (fr : AFr) (H : AHeap) : ARes :=
  areg (@opi _ (lift (some (fr 3)) H) ⟨fun v19 H1 =>
    @opi _ (lift (some (fr 5)) H1) ⟨fun v20 H2 =>
    @opi _ (lift (abinR .x .neq v19 v20) H2) ⟨fun v21 H3 =>
    @opi _ (lift (some v21) H3) ⟨fun v22 H4 =>
    @opi _ (@gdi (gw v22 false) ⟨lift (some (fr 4)) H4⟩ H4) ⟨fun v23 H5 =>
    @opi _ (@gdi (gw v22 false) ⟨lift (some (fr 6)) H5⟩ H5) ⟨fun v24 H6 =>
    @opi _ (@gdi (gw v22 false) ⟨lift (abinR .x .neq v23 v24) H6⟩ H6) ⟨fun v25 H7 =>
    @opi _ (lift (apick v22 (.bool true) v25) H7) ⟨fun v26 H8 =>
    @opi _ (lift (some v26) H8) ⟨fun v27 H9 =>
    @opi _ (@gdi (gw v27 false) ⟨lift (aloadR (some (some 5)) (fr 1) H9) H9⟩ H9) ⟨fun v28 H10 =>
    @opi _ (@gdi (gw v27 false) ⟨callP false s2 [[none, none, none, none, none]] [v28] H10⟩ H10) ⟨fun v29 H11 =>
    @opi _ (@gdi (gw v27 false) ⟨lift (aloadR (some (some 5)) (fr 1) H11) H11⟩ H11) ⟨fun v30 H12 =>
    @opi _ (@gdi (gw v27 false) ⟨callP false s3 [[none, none, none, none, none]] [v30] H12⟩ H12) ⟨fun v31 H13 =>
    @opi _ (@gdi (gw v27 false) ⟨lift (abinR .b .neq v29 v31) H13⟩ H13) ⟨fun v32 H14 =>
    @opi _ (lift (apick v27 (.bool true) v32) H14) ⟨fun v33 H15 =>
    withChk [aloadR (some (some 5)) (fr 1) H10 = aloadR (some (some 5)) (fr 1) H11] (some (AFr.al [(1, fr 1), (3, fr 3), (4, fr 4), (33, v33)], H15))⟩⟩⟩⟩⟩⟩⟩⟩⟩⟩⟩⟩⟩⟩⟩)
@[simp] noncomputable def r4 (s0 : SpecP) (s1 : SpecP) (s2 : SpecP) (s3 : SpecP) (s4 : SpecP) (s5 : SpecP) (fr : AFr) (H : AHeap) : ARes :=
  areg (@opi _ (lift (some (.bool false)) H) ⟨fun v2 H =>
    some (AFr.al [(2, v2)], H)⟩)
@[simp] noncomputable def r5 (s0 : SpecP) (s1 : SpecP) (s2 : SpecP) (s3 : SpecP) (s4 : SpecP) (s5 : SpecP) (fr : AFr) (H : AHeap) : ARes :=
  areg (@opi _ (lift (some (fr 4)) H) ⟨fun v34 H =>
    @opi _ (lift (abinR .x .neq v34 (.int .i64 0)) H) ⟨fun v35 H =>
    some (AFr.al [(1, fr 1), (3, fr 3), (35, v35)], H)⟩⟩)
@[simp] noncomputable def r6 (s0 : SpecP) (s1 : SpecP) (s2 : SpecP) (s3 : SpecP) (s4 : SpecP) (s5 : SpecP) (fr : AFr) (H : AHeap) : ARes :=
  areg (@opi _ (lift (some (fr 3)) H) ⟨fun v36 H =>
    @opi _ (lift (abinR .x .eql v36 (W16 0#16)) H) ⟨fun v37 H =>
    @opi _ (lift (some v37) H) ⟨fun v38 H =>
    @opi _ (@gdi (gw v38 true) ⟨callP false s4 [] [] H⟩ H) ⟨fun v39 H =>
    @opi _ (lift (apick v38 v39 (.bool false)) H) ⟨fun v40 H =>
    @opi _ (lift (some v40) H) ⟨fun v2 H =>
    some (AFr.al [(2, v2)], H)⟩⟩⟩⟩⟩⟩)
@[simp] noncomputable def r7 (s0 : SpecP) (s1 : SpecP) (s2 : SpecP) (s3 : SpecP) (s4 : SpecP) (s5 : SpecP) (fr : AFr) (H : AHeap) : ARes :=
  areg (@opi _ (lift (some (fr 3)) H) ⟨fun v42 H =>
    @opi _ (callP false s5 [[none]] [v42] H) ⟨fun v43 H =>
    @opi _ (lift (some v43) H) ⟨fun v41 H =>
    @opi _ (lift (aextract v41 0) H) ⟨fun v44 H =>
    @opi _ (lift (aextract v41 1) H) ⟨fun v45 H =>
    @opi _ (aallocR T.ty_api_Ins (some (.agg [(.int .i64 0), (.int .i64 0), (.int .i64 0), (.int .i64 0), (.int .i64 0)])) H) ⟨fun v7 H =>
    @opi _ (liftS (astoreR (some 5) v7 v44 H)) ⟨fun _ H =>
    @opi _ (lift (some v45) H) ⟨fun v8 H =>
    some (AFr.al [(1, fr 1), (7, v7), (8, v8)], H)⟩⟩⟩⟩⟩⟩⟩⟩)
@[simp] noncomputable def r8 (s0 : SpecP) (s1 : SpecP) (s2 : SpecP) (s3 : SpecP) (s4 : SpecP) (s5 : SpecP) (fr : AFr) (H : AHeap) : ARes :=
  areg (@opi _ (lift (aloadR (some (some 5)) (fr 7) H) H) ⟨fun v46 H =>
    @opi _ (lift (aloadR (some (some 5)) (fr 1) H) H) ⟨fun v47 H =>
    @opi _ (lift (abinR (.c [.i, .i, .i, .i, .i]) .eql v46 v47) H) ⟨fun v48 H =>
    @opi _ (lift (some v48) H) ⟨fun v49 H =>
    @opi _ (@gdi (gw v49 true) ⟨lift (some (fr 8)) H⟩ H) ⟨fun v50 H =>
    @opi _ (@gdi (gw v49 true) ⟨lift (abinR .x .eql v50 (.int .i64 0)) H⟩ H) ⟨fun v51 H =>
    @opi _ (lift (apick v49 v51 (.bool false)) H) ⟨fun v52 H =>
    @opi _ (lift (some v52) H) ⟨fun v53 H =>
    @opi _ (@gdi (gw v53 true) ⟨callP false s4 [] [] H⟩ H) ⟨fun v54 H =>
    @opi _ (lift (apick v53 v54 (.bool false)) H) ⟨fun v55 H =>
    @opi _ (lift (some v55) H) ⟨fun v2 H =>
    some (AFr.al [(2, v2)], H)⟩⟩⟩⟩⟩⟩⟩⟩⟩⟩⟩)
@[simp] noncomputable def body (s0 : SpecP) (s1 : SpecP) (s2 : SpecP) (s3 : SpecP) (s4 : SpecP) (s5 : SpecP) (fr : AFr) (H : AHeap) : ARes :=
  @aseqi (r0 s0 s1 s2 s3 s4 s5 fr H) ⟨fun fr H =>
  @aseqi (r1 s0 s1 s2 s3 s4 s5 fr H) ⟨fun fr H =>
  @aseqi (r2 s0 s1 s2 s3 s4 s5 fr H) ⟨fun fr H =>
  @aseqi (@aseqi (r3 s0 s1 s2 s3 s4 s5 fr H) ⟨fun fr H =>
  @acondi (fr 33)
    ⟨@aseqi (r4 s0 s1 s2 s3 s4 s5 fr H) ⟨fun fr H =>
    some (.ret, fr, H)⟩⟩
    ⟨some (.normal, fr, H)⟩⟩) ⟨fun fr H =>
  @aseqi (@aseqi (r5 s0 s1 s2 s3 s4 s5 fr H) ⟨fun fr H =>
  @acondi (fr 35)
    ⟨@aseqi (r6 s0 s1 s2 s3 s4 s5 fr H) ⟨fun fr H =>
    some (.ret, fr, H)⟩⟩
    ⟨some (.normal, fr, H)⟩⟩) ⟨fun fr H =>
  @aseqi (r7 s0 s1 s2 s3 s4 s5 fr H) ⟨fun fr H =>
  @aseqi (r8 s0 s1 s2 s3 s4 s5 fr H) ⟨fun fr H =>
  some (.ret, fr, H)⟩⟩⟩⟩⟩⟩⟩
@[simp] def res (fr : AFr) (H : AHeap) : Option (List AV) := res2 (some (fr 2)) (some [])
end law02_ThumbPuts
noncomputable def law02_ThumbPuts (a0 : AV) : Option AV := closeUpR (some [[none]]) (afinR law02_ThumbPuts.res (law02_ThumbPuts.body thumb_Put.spec ref02_Put.spec thumb_Can.spec ref02_Can.spec law02_lives.spec thumb_Take.spec (args0 [a0]) AHeap.empty))
noncomputable def law02_ThumbPuts.spec : List AV → Option AV
  | [a0] => law02_ThumbPuts a0
  | _ => none

/-! bauta/bautaref02.Take: function 19 -/
namespace ref02_Take
noncomputable def C (s0 : SpecP) (s1 : SpecP) (s2 : SpecP) (s3 : SpecP) : Tab := ((((Tab.none.add 42 (.pure false s0)).add 44 (.pure false s1)).add 45 (.pure false s2)).add 17 (.pure false s3))
@[simp] noncomputable def r0 (s0 : SpecP) (s1 : SpecP) (s2 : SpecP) (s3 : SpecP) (fr : AFr) (H : AHeap) : ARes :=
  areg (@opi _ (aallocR T.ty_api_Ins (some (.agg [(.int .i64 0), (.int .i64 0), (.int .i64 0), (.int .i64 0), (.int .i64 0)])) H) ⟨fun v2 H =>
    @opi _ (lift (some (.int .i64 0)) H) ⟨fun v3 H =>
    some (AFr.al [(0, fr 0), (2, v2)], H)⟩⟩)
@[simp] noncomputable def r1 (s0 : SpecP) (s1 : SpecP) (s2 : SpecP) (s3 : SpecP) (fr : AFr) (H : AHeap) : ARes :=
  areg (@opi _ (lift (some (.int .i64 0)) H) ⟨fun v4 H =>
    some (AFr.al [(0, fr 0), (2, fr 2), (4, v4)], H)⟩)
@[simp] noncomputable def r2 (s0 : SpecP) (s1 : SpecP) (s2 : SpecP) (s3 : SpecP) (fr : AFr) (H : AHeap) : ARes :=
  areg (@opi _ (lift (some (fr 4)) H) ⟨fun v12 H =>
    @opi _ (lift (abinR .x .lss v12 (.int .i64 21)) H) ⟨fun v13 H =>
    some (AFr.al [(0, fr 0), (2, fr 2), (4, fr 4), (13, v13)], H)⟩⟩)
@[simp] noncomputable def r4 (s0 : SpecP) (s1 : SpecP) (s2 : SpecP) (s3 : SpecP) (fr : AFr) (H : AHeap) : ARes :=
  areg (@opi _ (lift (some (fr 4)) H) ⟨fun v16 H =>
    @opi _ (callP false s0 [[none]] [v16] H) ⟨fun v17 H =>
    @opi _ (lift (some (fr 4)) H) ⟨fun v18 H =>
    @opi _ (lift (abuildR (.str [(.int .i64 0), (.int .i64 0), (.int .i64 0), (.int .i64 0), (.int .i64 0)] [(0, 1), (1, 1), (2, 1), (3, 1), (4, 1)]) [(0, v18)]) H) ⟨fun v19 H =>
    @opi _ (aallocR T.ty_api_Ins (some (.agg [(.int .i64 0), (.int .i64 0), (.int .i64 0), (.int .i64 0), (.int .i64 0)])) H) ⟨fun v6 H =>
    @opi _ (lift (some v17) H) ⟨fun v5 H =>
    @opi _ (liftS (astoreR (some 5) v6 v19 H)) ⟨fun _ H =>
    @opi _ (lift (some (.bool true)) H) ⟨fun v7 H =>
    @opi _ (lift (some (.int .i64 1)) H) ⟨fun v8 H =>
    some (AFr.al [(0, fr 0), (2, fr 2), (4, fr 4), (5, v5), (6, v6), (7, v7), (8, v8)], H)⟩⟩⟩⟩⟩⟩⟩⟩⟩)
@[simp] noncomputable def r5 (s0 : SpecP) (s1 : SpecP) (s2 : SpecP) (s3 : SpecP) (fr : AFr) (H : AHeap) : ARes :=
  areg (@opi _ (lift (some (fr 0)) H) ⟨fun v20 H =>
    @opi _ (lift (aconvR (some .i64) v20) H) ⟨fun v21 H =>
    @opi _ (lift (some v21) H) ⟨fun v9 H =>
    some (AFr.al [(0, fr 0), (2, fr 2), (4, fr 4), (5, fr 5), (6, fr 6), (7, fr 7), (8, fr 8), (9, v9)], H)⟩⟩⟩)
@[simp] noncomputable def r6 (s0 : SpecP) (s1 : SpecP) (s2 : SpecP) (s3 : SpecP) (fr : AFr) (H : AHeap) : ARes :=
  areg (@opi _ (lift (some (.int .i64 0)) H) ⟨fun v10 H =>
    some (AFr.al [(0, fr 0), (2, fr 2), (4, fr 4), (5, fr 5), (6, fr 6), (7, fr 7), (8, fr 8), (9, fr 9), (10, v10)], H)⟩)
@[simp] noncomputable def r7 (s0 : SpecP) (s1 : SpecP) (s2 : SpecP) (s3 : SpecP) (fr : AFr) (H : AHeap) : ARes :=
  areg (@opi _ (lift (some (fr 10)) H) ⟨fun v22 H =>
    @opi _ (lift (abinR .x .lss v22 (.int .i64 16)) H) ⟨fun v23 H =>
    some (AFr.al [(0, fr 0), (2, fr 2), (4, fr 4), (5, fr 5), (6, fr 6), (7, fr 7), (8, fr 8), (9, fr 9), (10, fr 10), (23, v23)], H)⟩⟩)
@[simp] noncomputable def r9 (s0 : SpecP) (s1 : SpecP) (s2 : SpecP) (s3 : SpecP) (fr : AFr) (H : AHeap) : ARes :=
  areg (@opi _ (lift (some (.int .i64 0)) H) ⟨fun v11 H =>
    some (AFr.al [(0, fr 0), (2, fr 2), (4, fr 4), (5, fr 5), (6, fr 6), (7, fr 7), (8, fr 8), (9, fr 9), (10, fr 10), (11, v11)], H)⟩)
@[simp] noncomputable def r10 (s0 : SpecP) (s1 : SpecP) (s2 : SpecP) (s3 : SpecP) (fr : AFr) (H : AHeap) : ARes :=
  areg (@opi _ (lift (some (fr 9)) H) ⟨fun v26 H =>
    @opi _ (lift (abinR .x .geq v26 (.int .i64 32768)) H) ⟨fun v27 H =>
    some (AFr.al [(0, fr 0), (2, fr 2), (4, fr 4), (5, fr 5), (6, fr 6), (7, fr 7), (8, fr 8), (9, fr 9), (10, fr 10), (11, fr 11), (27, v27)], H)⟩⟩)
@[simp] noncomputable def r11 (s0 : SpecP) (s1 : SpecP) (s2 : SpecP) (s3 : SpecP) (fr : AFr) (H : AHeap) : ARes :=
  areg (@opi _ (lift (some (fr 9)) H) ⟨fun v28 H =>
    @opi _ (lift (abinR .x .sub v28 (.int .i64 32768)) H) ⟨fun v29 H =>
    @opi _ (lift (some (.int .i64 1)) H) ⟨fun v11 H =>
    @opi _ (lift (some v29) H) ⟨fun v9 H =>
    some (AFr.al [(0, fr 0), (2, fr 2), (4, fr 4), (5, fr 5), (6, fr 6), (7, fr 7), (8, fr 8), (9, v9), (10, fr 10), (11, v11)], H)⟩⟩⟩⟩)
@[simp] noncomputable def r12 (s0 : SpecP) (s1 : SpecP) (s2 : SpecP) (s3 : SpecP) (fr : AFr) (H : AHeap) : ARes :=
  areg (@opi _ (lift (some (fr 9)) H) ⟨fun v30 H =>
    @opi _ (lift (abinR .x .mul v30 (.int .i64 2)) H) ⟨fun v31 H =>
    @opi _ (lift (some v31) H) ⟨fun v9 H =>
    some (AFr.al [(0, fr 0), (2, fr 2), (4, fr 4), (5, fr 5), (6, fr 6), (7, fr 7), (8, fr 8), (9, v9), (10, fr 10), (11, fr 11)], H)⟩⟩⟩)
@[simp] noncomputable def r13 (s0 : SpecP) (s1 : SpecP) (s2 : SpecP) (s3 : SpecP) (fr : AFr) (H : AHeap) : ARes :=
  areg (@opi _ (lift (some (fr 5)) H) ⟨fun v32 H =>
    @opi _ (lift (some (fr 10)) H) ⟨fun v33 H =>
    @opi _ (lift (aindexR .str v32 v33) H) ⟨fun v34 H =>
    some (AFr.al [(0, fr 0), (2, fr 2), (4, fr 4), (5, fr 5), (6, fr 6), (7, fr 7), (8, fr 8), (9, fr 9), (10, fr 10), (11, fr 11), (34, v34)], H)⟩⟩⟩)
@[simp] noncomputable def r14 (s0 : SpecP) (s1 : SpecP) (s2 : SpecP) (s3 : SpecP) (fr : AFr) (H : AHeap) : ARes :=
  areg (@opi _ (lift (abinR .x .eql (fr 34) (W8 48#8)) H) ⟨fun v36 H =>
    @opi _ (lift (some v36) H) ⟨fun v35 H =>
    some (AFr.al [(0, fr 0), (2, fr 2), (4, fr 4), (5, fr 5), (6, fr 6), (7, fr 7), (8, fr 8), (9, fr 9), (10, fr 10), (11, fr 11), (34, fr 34), (35, v35)], H)⟩⟩)
@[simp] noncomputable def r15 (s0 : SpecP) (s1 : SpecP) (s2 : SpecP) (s3 : SpecP) (fr : AFr) (H : AHeap) : ARes :=
  areg (@opi _ (lift (abinR .x .eql (fr 34) (W8 49#8)) H) ⟨fun v37 H =>
    @opi _ (lift (some v37) H) ⟨fun v35 H =>
    some (AFr.al [(0, fr 0), (2, fr 2), (4, fr 4), (5, fr 5), (6, fr 6), (7, fr 7), (8, fr 8), (9, fr 9), (10, fr 10), (11, fr 11), (34, fr 34), (35, v35)], H)⟩⟩)
@[simp] noncomputable def r16 (s0 : SpecP) (s1 : SpecP) (s2 : SpecP) (s3 : SpecP) (fr : AFr) (H : AHeap) : ARes :=
  areg (@opi _ (lift (some (fr 7)) H) ⟨fun v38 H =>
    @opi _ (lift (some v38) H) ⟨fun v39 H =>
    @opi _ (@gdi (gw v39 true) ⟨lift (some (fr 5)) H⟩ H) ⟨fun v40 H =>
    @opi _ (@gdi (gw v39 true) ⟨lift (some (fr 10)) H⟩ H) ⟨fun v41 H =>
    @opi _ (@gdi (gw v39 true) ⟨lift (aindexR .str v40 v41) H⟩ H) ⟨fun v42 H =>
    @opi _ (@gdi (gw v39 true) ⟨lift (some (fr 11)) H⟩ H) ⟨fun v43 H =>
    @opi _ (@gdi (gw v39 true) ⟨lift (aconvR (some .u8) v43) H⟩ H) ⟨fun v44 H =>
    @opi _ (@gdi (gw v39 true) ⟨lift (abinR .x .add (W8 48#8) v44) H⟩ H) ⟨fun v45 H =>
    @opi _ (@gdi (gw v39 true) ⟨lift (abinR .x .eql v42 v45) H⟩ H) ⟨fun v46 H =>
    @opi _ (lift (apick v39 v46 (.bool false)) H) ⟨fun v47 H =>
    @opi _ (lift (some v47) H) ⟨fun v7 H =>
    some (AFr.al [(0, fr 0), (2, fr 2), (4, fr 4), (5, fr 5), (6, fr 6), (7, v7), (8, fr 8), (9, fr 9), (10, fr 10)], H)⟩⟩⟩⟩⟩⟩⟩⟩⟩⟩⟩)
@[simp] noncomputable def r17 (s0 : SpecP) (s1 : SpecP) (s2 : SpecP) (s3 : SpecP) (fr : AFr) (H : AHeap) : ARes :=
  areg (@opi _ (lift (abinR .x .eql (fr 34) (W8 100#8)) H) ⟨fun v49 H =>
    @opi _ (lift (some v49) H) ⟨fun v48 H =>
    some (AFr.al [(0, fr 0), (2, fr 2), (4, fr 4), (5, fr 5), (6, fr 6), (7, fr 7), (8, fr 8), (9, fr 9), (10, fr 10), (11, fr 11), (34, fr 34), (48, v48)], H)⟩⟩)
@[simp] noncomputable def r18 (s0 : SpecP) (s1 : SpecP) (s2 : SpecP) (s3 : SpecP) (fr : AFr) (H : AHeap) : ARes :=
  areg (@opi _ (lift (abinR .x .eql (fr 34) (W8 99#8)) H) ⟨fun v50 H =>
    @opi _ (lift (some v50) H) ⟨fun v48 H =>
    some (AFr.al [(0, fr 0), (2, fr 2), (4, fr 4), (5, fr 5), (6, fr 6), (7, fr 7), (8, fr 8), (9, fr 9), (10, fr 10), (11, fr 11), (34, fr 34), (48, v48)], H)⟩⟩)
@[simp] noncomputable def r19 (s0 : SpecP) (s1 : SpecP) (s2 : SpecP) (s3 : SpecP) (fr : AFr) (H : AHeap) : ARes :=
  areg (@opi _ (lift (afieldAddrR (some 1) (fr 6)) H) ⟨fun v51 H =>
    @opi _ (lift (aloadR (some none) v51 H) H) ⟨fun v52 H =>
    @opi _ (lift (abinR .x .mul v52 (.int .i64 2)) H) ⟨fun v53 H =>
    @opi _ (lift (some (fr 11)) H) ⟨fun v54 H =>
    @opi _ (lift (abinR .x .add v53 v54) H) ⟨fun v55 H =>
    @opi _ (lift (afieldAddrR (some 1) (fr 6)) H) ⟨fun v56 H =>
    @opi _ (liftS (astoreR (some 1) v56 v55 H)) ⟨fun _ H =>
    some (AFr.al [(0, fr 0), (2, fr 2), (4, fr 4), (5, fr 5), (6, fr 6), (7, fr 7), (8, fr 8), (9, fr 9), (10, fr 10)], H)⟩⟩⟩⟩⟩⟩⟩)
@[simp] noncomputable def r20 (s0 : SpecP) (s1 : SpecP) (s2 : SpecP) (s3 : SpecP) (fr : AFr) (H : AHeap) : ARes :=
  areg (@opi _ (lift (abinR .x .eql (fr 34) (W8 110#8)) H) ⟨fun v58 H =>
    @opi _ (lift (some v58) H) ⟨fun v57 H =>
    some (AFr.al [(0, fr 0), (2, fr 2), (4, fr 4), (5, fr 5), (6, fr 6), (7, fr 7), (8, fr 8), (9, fr 9), (10, fr 10), (11, fr 11), (34, fr 34), (57, v57)], H)⟩⟩)
@[simp] noncomputable def r21 (s0 : SpecP) (s1 : SpecP) (s2 : SpecP) (s3 : SpecP) (fr : AFr) (H : AHeap) : ARes :=
  areg (@opi _ (lift (afieldAddrR (some 2) (fr 6)) H) ⟨fun v59 H =>
    @opi _ (lift (aloadR (some none) v59 H) H) ⟨fun v60 H =>
    @opi _ (lift (abinR .x .mul v60 (.int .i64 2)) H) ⟨fun v61 H =>
    @opi _ (lift (some (fr 11)) H) ⟨fun v62 H =>
    @opi _ (lift (abinR .x .add v61 v62) H) ⟨fun v63 H =>
    @opi _ (lift (afieldAddrR (some 2) (fr 6)) H) ⟨fun v64 H =>
    @opi _ (liftS (astoreR (some 1) v64 v63 H)) ⟨fun _ H =>
    some (AFr.al [(0, fr 0), (2, fr 2), (4, fr 4), (5, fr 5), (6, fr 6), (7, fr 7), (8, fr 8), (9, fr 9), (10, fr 10)], H)⟩⟩⟩⟩⟩⟩⟩)
@[simp] noncomputable def r22 (s0 : SpecP) (s1 : SpecP) (s2 : SpecP) (s3 : SpecP) (fr : AFr) (H : AHeap) : ARes :=
  areg (@opi _ (lift (abinR .x .eql (fr 34) (W8 109#8)) H) ⟨fun v66 H =>
    @opi _ (lift (some v66) H) ⟨fun v65 H =>
    some (AFr.al [(0, fr 0), (2, fr 2), (4, fr 4), (5, fr 5), (6, fr 6), (7, fr 7), (8, fr 8), (9, fr 9), (10, fr 10), (11, fr 11), (34, fr 34), (65, v65)], H)⟩⟩)
@[simp] noncomputable def r23 (s0 : SpecP) (s1 : SpecP) (s2 : SpecP) (s3 : SpecP) (fr : AFr) (H : AHeap) : ARes :=
  areg (@opi _ (lift (afieldAddrR (some 3) (fr 6)) H) ⟨fun v67 H =>
    @opi _ (lift (aloadR (some none) v67 H) H) ⟨fun v68 H =>
    @opi _ (lift (abinR .x .mul v68 (.int .i64 2)) H) ⟨fun v69 H =>
    @opi _ (lift (some (fr 11)) H) ⟨fun v70 H =>
    @opi _ (lift (abinR .x .add v69 v70) H) ⟨fun v71 H =>
    @opi _ (lift (afieldAddrR (some 3) (fr 6)) H) ⟨fun v72 H =>
    @opi _ (liftS (astoreR (some 1) v72 v71 H)) ⟨fun _ H =>
    some (AFr.al [(0, fr 0), (2, fr 2), (4, fr 4), (5, fr 5), (6, fr 6), (7, fr 7), (8, fr 8), (9, fr 9), (10, fr 10)], H)⟩⟩⟩⟩⟩⟩⟩)
@[simp] noncomputable def r24 (s0 : SpecP) (s1 : SpecP) (s2 : SpecP) (s3 : SpecP) (fr : AFr) (H : AHeap) : ARes :=
  areg (@opi _ (lift (abinR .x .eql (fr 34) (W8 105#8)) H) ⟨fun v74 H =>
    @opi _ (lift (some v74) H) ⟨fun v73 H =>
    some (AFr.al [(0, fr 0), (2, fr 2), (4, fr 4), (5, fr 5), (6, fr 6), (7, fr 7), (8, fr 8), (9, fr 9), (10, fr 10), (11, fr 11), (73, v73)], H)⟩⟩)
@[simp] noncomputable def r25 (s0 : SpecP) (s1 : SpecP) (s2 : SpecP) (s3 : SpecP) (fr : AFr) (H : AHeap) : ARes :=
  areg (@opi _ (lift (afieldAddrR (some 4) (fr 6)) H) ⟨fun v75 H =>
    @opi _ (lift (aloadR (some none) v75 H) H) ⟨fun v76 H =>
    @opi _ (lift (abinR .x .mul v76 (.int .i64 2)) H) ⟨fun v77 H =>
    @opi _ (lift (some (fr 11)) H) ⟨fun v78 H =>
    @opi _ (lift (abinR .x .add v77 v78) H) ⟨fun v79 H =>
    @opi _ (lift (some (fr 8)) H) ⟨fun v80 H =>
    @opi _ (lift (abinR .x .mul v80 (.int .i64 2)) H) ⟨fun v81 H =>
    @opi _ (lift (afieldAddrR (some 4) (fr 6)) H) ⟨fun v82 H =>
    @opi _ (liftS (astoreR (some 1) v82 v79 H)) ⟨fun _ H =>
    @opi _ (lift (some v81) H) ⟨fun v8 H =>
    some (AFr.al [(0, fr 0), (2, fr 2), (4, fr 4), (5, fr 5), (6, fr 6), (7, fr 7), (8, v8), (9, fr 9), (10, fr 10)], H)⟩⟩⟩⟩⟩⟩⟩⟩⟩⟩)
@[simp] noncomputable def r8 (s0 : SpecP) (s1 : SpecP) (s2 : SpecP) (s3 : SpecP) (fr : AFr) (H : AHeap) : ARes :=
  areg (@opi _ (lift (some (fr 10)) H) ⟨fun v24 H =>
    @opi _ (lift (abinR .x .add v24 (.int .i64 1)) H) ⟨fun v25 H =>
    @opi _ (lift (some v25) H) ⟨fun v10 H =>
    some (AFr.al [(0, fr 0), (2, fr 2), (4, fr 4), (5, fr 5), (6, fr 6), (7, fr 7), (8, fr 8), (9, fr 9), (10, v10)], H)⟩⟩⟩)
@[simp] noncomputable def r26 (s0 : SpecP) (s1 : SpecP) (s2 : SpecP) (s3 : SpecP) (fr : AFr) (H : AHeap) : ARes :=
  areg (@opi _ (lift (some (fr 4)) H) ⟨fun v83 H1 =>
    @opi _ (callP false s1 [[none]] [v83] H1) ⟨fun v84 H2 =>
    @opi _ (lift (abinR .x .lss v84 (.int .i64 0)) H2) ⟨fun v85 H3 =>
    @opi _ (lift (some v85) H3) ⟨fun v86 H4 =>
    @opi _ (@gdi (gw v86 true) ⟨lift (afieldAddrR (some 4) (fr 6)) H4⟩ H4) ⟨fun v87 H5 =>
    @opi _ (@gdi (gw v86 true) ⟨lift (aloadR (some none) v87 H5) H5⟩ H5) ⟨fun v88 H6 =>
    @opi _ (@gdi (gw v86 true) ⟨lift (some (fr 4)) H6⟩ H6) ⟨fun v89 H7 =>
    @opi _ (@gdi (gw v86 true) ⟨callP false s2 [[none]] [v89] H7⟩ H7) ⟨fun v90 H8 =>
    @opi _ (@gdi (gw v86 true) ⟨lift (abinR .x .gtr v88 v90) H8⟩ H8) ⟨fun v91 H9 =>
    @opi _ (lift (apick v86 v91 (.bool false)) H9) ⟨fun v92 H10 =>
    withChk [aloadR (some none) v87 H7 = aloadR (some none) v87 H8] (some (AFr.al [(0, fr 0), (2, fr 2), (4, fr 4), (6, fr 6), (7, fr 7), (8, fr 8), (92, v92)], H10))⟩⟩⟩⟩⟩⟩⟩⟩⟩⟩)
@[simp] noncomputable def r27 (s0 : SpecP) (s1 : SpecP) (s2 : SpecP) (s3 : SpecP) (fr : AFr) (H : AHeap) : ARes :=
  areg (@opi _ (lift (afieldAddrR (some 4) (fr 6)) H) ⟨fun v93 H =>
    @opi _ (lift (aloadR (some none) v93 H) H) ⟨fun v94 H =>
    @opi _ (lift (some (fr 8)) H) ⟨fun v95 H =>
    @opi _ (lift (abinR .x .sub v94 v95) H) ⟨fun v96 H =>
    @opi _ (lift (afieldAddrR (some 4) (fr 6)) H) ⟨fun v97 H =>
    @opi _ (liftS (astoreR (some 1) v97 v96 H)) ⟨fun _ H =>
    some (AFr.al [(0, fr 0), (2, fr 2), (4, fr 4), (6, fr 6), (7, fr 7)], H)⟩⟩⟩⟩⟩⟩)
@[simp] noncomputable def r28 (s0 : SpecP) (s1 : SpecP) (s2 : SpecP) (s3 : SpecP) (fr : AFr) (H : AHeap) : ARes :=
  areg (@opi _ (lift (some (fr 4)) H) ⟨fun v98 H =>
    @opi _ (callP false s1 [[none]] [v98] H) ⟨fun v99 H =>
    @opi _ (lift (abinR .x .eql v99 (.int .i64 1)) H) ⟨fun v100 H =>
    @opi _ (lift (some v100) H) ⟨fun v101 H =>
    @opi _ (@gdi (gw v101 true) ⟨lift (afieldAddrR (some 4) (fr 6)) H⟩ H) ⟨fun v102 H =>
    @opi _ (@gdi (gw v101 true) ⟨lift (aloadR (some none) v102 H) H⟩ H) ⟨fun v103 H =>
    @opi _ (@gdi (gw v101 true) ⟨lift (abinR .x .eql v103 (.int .i64 0)) H⟩ H) ⟨fun v104 H =>
    @opi _ (lift (apick v101 v104 (.bool false)) H) ⟨fun v105 H =>
    some (AFr.al [(0, fr 0), (2, fr 2), (4, fr 4), (6, fr 6), (7, fr 7), (105, v105)], H)⟩⟩⟩⟩⟩⟩⟩⟩)
@[simp] noncomputable def r29 (s0 : SpecP) (s1 : SpecP) (s2 : SpecP) (s3 : SpecP) (fr : AFr) (H : AHeap) : ARes :=
  areg (@opi _ (lift (afieldAddrR (some 4) (fr 6)) H) ⟨fun v106 H =>
    @opi _ (liftS (astoreR (some 1) v106 (.int .i64 32) H)) ⟨fun _ H =>
    some (AFr.al [(0, fr 0), (2, fr 2), (4, fr 4), (6, fr 6), (7, fr 7)], H)⟩⟩)
@[simp] noncomputable def r30 (s0 : SpecP) (s1 : SpecP) (s2 : SpecP) (s3 : SpecP) (fr : AFr) (H : AHeap) : ARes :=
  areg (@opi _ (lift (some (fr 7)) H) ⟨fun v107 H =>
    @opi _ (lift (some v107) H) ⟨fun v108 H =>
    @opi _ (@gdi (gw v108 true) ⟨lift (aloadR (some (some 5)) (fr 6) H) H⟩ H) ⟨fun v109 H =>
    @opi _ (@gdi (gw v108 true) ⟨callP false s3 [[none, none, none, none, none]] [v109] H⟩ H) ⟨fun v110 H =>
    @opi _ (lift (apick v108 v110 (.bool false)) H) ⟨fun v111 H =>
    some (AFr.al [(0, fr 0), (2, fr 2), (4, fr 4), (6, fr 6), (111, v111)], H)⟩⟩⟩⟩⟩)
@[simp] noncomputable def r31 (s0 : SpecP) (s1 : SpecP) (s2 : SpecP) (s3 : SpecP) (fr : AFr) (H : AHeap) : ARes :=
  areg (@opi _ (lift (aloadR (some (some 5)) (fr 6) H) H) ⟨fun v112 H =>
    @opi _ (liftS (astoreR (some 5) (fr 2) v112 H)) ⟨fun _ H =>
    @opi _ (lift (some (.int .i64 0)) H) ⟨fun v3 H =>
    some (AFr.al [(2, fr 2), (3, v3)], H)⟩⟩⟩)
@[simp] noncomputable def r3 (s0 : SpecP) (s1 : SpecP) (s2 : SpecP) (s3 : SpecP) (fr : AFr) (H : AHeap) : ARes :=
  areg (@opi _ (lift (some (fr 4)) H) ⟨fun v14 H =>
    @opi _ (lift (abinR .x .add v14 (.int .i64 1)) H) ⟨fun v15 H =>
    @opi _ (lift (some v15) H) ⟨fun v4 H =>
    some (AFr.al [(0, fr 0), (2, fr 2), (4, v4)], H)⟩⟩⟩)
@[simp] noncomputable def r32 (s0 : SpecP) (s1 : SpecP) (s2 : SpecP) (s3 : SpecP) (fr : AFr) (H : AHeap) : ARes :=
  areg (@opi _ (lift (abuildR (.str [(.int .i64 0), (.int .i64 0), (.int .i64 0), (.int .i64 0), (.int .i64 0)] [(0, 1), (1, 1), (2, 1), (3, 1), (4, 1)]) []) H) ⟨fun v113 H =>
    @opi _ (liftS (astoreR (some 5) (fr 2) v113 H)) ⟨fun _ H =>
    @opi _ (lift (some (.int .i64 20)) H) ⟨fun v3 H =>
    some (AFr.al [(2, fr 2), (3, v3)], H)⟩⟩⟩)
noncomputable def l1 (s0 : SpecP) (s1 : SpecP) (s2 : SpecP) (s3 : SpecP) (fr : AFr) (H : AHeap) : ARes :=
  @aseqi (@aseqi (r7 s0 s1 s2 s3 fr H) ⟨fun fr H =>
  @acondi (fr 23)
    ⟨some (.normal, fr, H)⟩
    ⟨some (.exit 2, fr, H)⟩⟩) ⟨fun fr H =>
  @aseqi (aexit 3 (@aseqi (r9 s0 s1 s2 s3 fr H) ⟨fun fr H =>
  @aseqi (@aseqi (r10 s0 s1 s2 s3 fr H) ⟨fun fr H =>
  @acondi (fr 27)
    ⟨r11 s0 s1 s2 s3 fr H⟩
    ⟨some (.normal, fr, H)⟩⟩) ⟨fun fr H =>
  @aseqi (r12 s0 s1 s2 s3 fr H) ⟨fun fr H =>
  @aseqi (r13 s0 s1 s2 s3 fr H) ⟨fun fr H =>
  aexit 4 (@aseqi (@aseqi (r14 s0 s1 s2 s3 fr H) ⟨fun fr H =>
  @acondi (fr 35)
    ⟨some (.normal, fr, H)⟩
    ⟨r15 s0 s1 s2 s3 fr H⟩⟩) ⟨fun fr H =>
  @acondi (fr 35)
    ⟨r16 s0 s1 s2 s3 fr H⟩
    ⟨@aseqi (@aseqi (r17 s0 s1 s2 s3 fr H) ⟨fun fr H =>
    @acondi (fr 48)
      ⟨some (.normal, fr, H)⟩
      ⟨r18 s0 s1 s2 s3 fr H⟩⟩) ⟨fun fr H =>
    @acondi (fr 48)
      ⟨r19 s0 s1 s2 s3 fr H⟩
      ⟨@aseqi (r20 s0 s1 s2 s3 fr H) ⟨fun fr H =>
      @acondi (fr 57)
        ⟨r21 s0 s1 s2 s3 fr H⟩
        ⟨@aseqi (r22 s0 s1 s2 s3 fr H) ⟨fun fr H =>
        @acondi (fr 65)
          ⟨r23 s0 s1 s2 s3 fr H⟩
          ⟨@aseqi (r24 s0 s1 s2 s3 fr H) ⟨fun fr H =>
          @acondi (fr 73)
            ⟨r25 s0 s1 s2 s3 fr H⟩
            ⟨some (.normal, fr, H)⟩⟩⟩⟩⟩⟩⟩⟩⟩⟩)⟩⟩⟩⟩)) ⟨fun fr H =>
  r8 s0 s1 s2 s3 fr H⟩⟩
noncomputable def l0 (s0 : SpecP) (s1 : SpecP) (s2 : SpecP) (s3 : SpecP) (fr : AFr) (H : AHeap) : ARes :=
  @aseqi (@aseqi (r2 s0 s1 s2 s3 fr H) ⟨fun fr H =>
  @acondi (fr 13)
    ⟨some (.normal, fr, H)⟩
    ⟨some (.exit 0, fr, H)⟩⟩) ⟨fun fr H =>
  @aseqi (aexit 1 (@aseqi (r4 s0 s1 s2 s3 fr H) ⟨fun fr H =>
  @aseqi (r5 s0 s1 s2 s3 fr H) ⟨fun fr H =>
  @aseqi (@aseqi (r6 s0 s1 s2 s3 fr H) ⟨fun fr H =>
  aexit 2 (aloop (l1 s0 s1 s2 s3) fr H)⟩) ⟨fun fr H =>
  @aseqi (@aseqi (r26 s0 s1 s2 s3 fr H) ⟨fun fr H =>
  @acondi (fr 92)
    ⟨r27 s0 s1 s2 s3 fr H⟩
    ⟨some (.normal, fr, H)⟩⟩) ⟨fun fr H =>
  @aseqi (@aseqi (r28 s0 s1 s2 s3 fr H) ⟨fun fr H =>
  @acondi (fr 105)
    ⟨r29 s0 s1 s2 s3 fr H⟩
    ⟨some (.normal, fr, H)⟩⟩) ⟨fun fr H =>
  @aseqi (r30 s0 s1 s2 s3 fr H) ⟨fun fr H =>
  @acondi (fr 111)
    ⟨@aseqi (r31 s0 s1 s2 s3 fr H) ⟨fun fr H =>
    some (.ret, fr, H)⟩⟩
    ⟨some (.normal, fr, H)⟩⟩⟩⟩⟩⟩⟩)) ⟨fun fr H =>
  r3 s0 s1 s2 s3 fr H⟩⟩
@[simp] noncomputable def body (s0 : SpecP) (s1 : SpecP) (s2 : SpecP) (s3 : SpecP) (fr : AFr) (H : AHeap) : ARes :=
  @aseqi (r0 s0 s1 s2 s3 fr H) ⟨fun fr H =>
  @aseqi (@aseqi (r1 s0 s1 s2 s3 fr H) ⟨fun fr H =>
  aexit 0 (aloop (l0 s0 s1 s2 s3) fr H)⟩) ⟨fun fr H =>
  @aseqi (r32 s0 s1 s2 s3 fr H) ⟨fun fr H =>
  some (.ret, fr, H)⟩⟩⟩
@[simp] def res (fr : AFr) (H : AHeap) : Option (List AV) := res2 (aloadR (some (some 5)) (fr 2) H) (res2 (some (fr 3)) (some []))
end ref02_Take
noncomputable def ref02_Take (a0 : AV) : Option AV := closeUpR (some [[none, none, none, none, none], [none]]) (afinR ref02_Take.res (ref02_Take.body ref02_Shape.spec ref02_Low.spec ref02_High.spec ref02_Can.spec (args0 [a0]) AHeap.empty))
noncomputable def ref02_Take.spec : List AV → Option AV
  | [a0] => ref02_Take a0
  | _ => none

/-! bauta/bautalaw02.ThumbTakes: function 5 -/
namespace law02_ThumbTakes
noncomputable def C (s0 : SpecP) (s1 : SpecP) (s2 : SpecP) (s3 : SpecP) : Tab := ((((Tab.none.add 18 (.pure false s0)).add 19 (.pure false s1)).add 14 (.pure false s2)).add 13 (.pure false s3))
@[simp] noncomputable def r0 (s0 : SpecP) (s1 : SpecP) (s2 : SpecP) (s3 : SpecP) (fr : AFr) (H : AHeap) : ARes :=
  areg (@opi _ (lift (some (.bool false)) H) ⟨fun v2 H =>
    some (AFr.al [(0, fr 0)], H)⟩)
@[simp] noncomputable def r1 (s0 : SpecP) (s1 : SpecP) (s2 : SpecP) (s3 : SpecP) (fr : AFr) (H : AHeap) : ARes :=
  areg (@opi _ (lift (some (fr 0)) H) ⟨fun v10 H =>
    @opi _ (callP false s0 [[none]] [v10] H) ⟨fun v11 H =>
    @opi _ (lift (some v11) H) ⟨fun v9 H =>
    @opi _ (lift (aextract v9 0) H) ⟨fun v12 H =>
    @opi _ (lift (aextract v9 1) H) ⟨fun v13 H =>
    @opi _ (aallocR T.ty_api_Ins (some (.agg [(.int .i64 0), (.int .i64 0), (.int .i64 0), (.int .i64 0), (.int .i64 0)])) H) ⟨fun v3 H =>
    @opi _ (liftS (astoreR (some 5) v3 v12 H)) ⟨fun _ H =>
    @opi _ (lift (some v13) H) ⟨fun v4 H =>
    some (AFr.al [(0, fr 0), (3, v3), (4, v4)], H)⟩⟩⟩⟩⟩⟩⟩⟩)
@[simp] noncomputable def r2 (s0 : SpecP) (s1 : SpecP) (s2 : SpecP) (s3 : SpecP) (fr : AFr) (H : AHeap) : ARes :=
  areg (@opi _ (lift (some (fr 0)) H) ⟨fun v15 H =>
    @opi _ (callP false s1 [[none]] [v15] H) ⟨fun v16 H =>
    @opi _ (lift (some v16) H) ⟨fun v14 H =>
    @opi _ (lift (aextract v14 0) H) ⟨fun v17 H =>
    @opi _ (lift (aextract v14 1) H) ⟨fun v18 H =>
    @opi _ (aallocR T.ty_api_Ins (some (.agg [(.int .i64 0), (.int .i64 0), (.int .i64 0), (.int .i64 0), (.int .i64 0)])) H) ⟨fun v5 H =>
    @opi _ (liftS (astoreR (some 5) v5 v17 H)) ⟨fun _ H =>
    @opi _ (lift (some v18) H) ⟨fun v6 H =>
    some (AFr.al [(0, fr 0), (3, fr 3), (4, fr 4), (5, v5), (6, v6)], H)⟩⟩⟩⟩⟩⟩⟩⟩)
@[simp] noncomputable def r3 (s0 : SpecP) (s1 : SpecP) (s2 : SpecP) (s3 : SpecP) (fr : AFr) (H : AHeap) : ARes :=
  areg (@opi _ (lift (aloadR (some (some 5)) (fr 3) H) H) ⟨fun v19 H =>
    @opi _ (lift (aloadR (some (some 5)) (fr 5) H) H) ⟨fun v20 H =>
    @opi _ (lift (abinR (.c [.i, .i, .i, .i, .i]) .neq v19 v20) H) ⟨fun v21 H =>
    @opi _ (lift (some v21) H) ⟨fun v22 H =>
    @opi _ (@gdi (gw v22 false) ⟨lift (some (fr 4)) H⟩ H) ⟨fun v23 H =>
    @opi _ (@gdi (gw v22 false) ⟨lift (some (fr 6)) H⟩ H) ⟨fun v24 H =>
    @opi _ (@gdi (gw v22 false) ⟨lift (abinR .x .neq v23 v24) H⟩ H) ⟨fun v25 H =>
    @opi _ (lift (apick v22 (.bool true) v25) H) ⟨fun v26 H =>
    some (AFr.al [(0, fr 0), (3, fr 3), (4, fr 4), (26, v26)], H)⟩⟩⟩⟩⟩⟩⟩⟩)
@[simp] noncomputable def r4 (s0 : SpecP) (s1 : SpecP) (s2 : SpecP) (s3 : SpecP) (fr : AFr) (H : AHeap) : ARes :=
  areg (@opi _ (lift (some (.bool false)) H) ⟨fun v2 H =>
    some (AFr.al [(2, v2)], H)⟩)
@[simp] noncomputable def r5 (s0 : SpecP) (s1 : SpecP) (s2 : SpecP) (s3 : SpecP) (fr : AFr) (H : AHeap) : ARes :=
  areg (@opi _ (lift (some (fr 4)) H) ⟨fun v27 H =>
    @opi _ (lift (abinR .x .neq v27 (.int .i64 0)) H) ⟨fun v28 H =>
    some (AFr.al [(0, fr 0), (3, fr 3), (4, fr 4), (28, v28)], H)⟩⟩)
@[simp] noncomputable def r6 (s0 : SpecP) (s1 : SpecP) (s2 : SpecP) (s3 : SpecP) (fr : AFr) (H : AHeap) : ARes :=
  areg (@opi _ (lift (some (fr 4)) H) ⟨fun v29 H =>
    @opi _ (lift (abinR .x .eql v29 (.int .i64 20)) H) ⟨fun v30 H =>
    @opi _ (lift (some v30) H) ⟨fun v31 H =>
    @opi _ (@gdi (gw v31 true) ⟨lift (aloadR (some (some 5)) (fr 3) H) H⟩ H) ⟨fun v32 H =>
    @opi _ (@gdi (gw v31 true) ⟨lift (abuildR (.str [(.int .i64 0), (.int .i64 0), (.int .i64 0), (.int .i64 0), (.int .i64 0)] [(0, 1), (1, 1), (2, 1), (3, 1), (4, 1)]) []) H⟩ H) ⟨fun v33 H =>
    @opi _ (@gdi (gw v31 true) ⟨lift (abinR (.c [.i, .i, .i, .i, .i]) .eql v32 v33) H⟩ H) ⟨fun v34 H =>
    @opi _ (lift (apick v31 v34 (.bool false)) H) ⟨fun v35 H =>
    @opi _ (lift (some v35) H) ⟨fun v36 H =>
    @opi _ (@gdi (gw v36 true) ⟨callP false s2 [] [] H⟩ H) ⟨fun v37 H =>
    @opi _ (lift (apick v36 v37 (.bool false)) H) ⟨fun v38 H =>
    @opi _ (lift (some v38) H) ⟨fun v2 H =>
    some (AFr.al [(2, v2)], H)⟩⟩⟩⟩⟩⟩⟩⟩⟩⟩⟩)
@[simp] noncomputable def r7 (s0 : SpecP) (s1 : SpecP) (s2 : SpecP) (s3 : SpecP) (fr : AFr) (H : AHeap) : ARes :=
  areg (@opi _ (lift (aloadR (some (some 5)) (fr 3) H) H) ⟨fun v40 H =>
    @opi _ (callP false s3 [[none, none, none, none, none]] [v40] H) ⟨fun v41 H =>
    @opi _ (lift (some v41) H) ⟨fun v39 H =>
    @opi _ (lift (aextract v39 0) H) ⟨fun v42 H =>
    @opi _ (lift (aextract v39 1) H) ⟨fun v43 H =>
    @opi _ (lift (some v42) H) ⟨fun v7 H =>
    @opi _ (lift (some v43) H) ⟨fun v8 H =>
    some (AFr.al [(0, fr 0), (7, v7), (8, v8)], H)⟩⟩⟩⟩⟩⟩⟩)
@[simp] noncomputable def r8 (s0 : SpecP) (s1 : SpecP) (s2 : SpecP) (s3 : SpecP) (fr : AFr) (H : AHeap) : ARes :=
  areg (@opi _ (lift (some (fr 7)) H) ⟨fun v44 H =>
    @opi _ (lift (some (fr 0)) H) ⟨fun v45 H =>
    @opi _ (lift (abinR .x .eql v44 v45) H) ⟨fun v46 H =>
    @opi _ (lift (some v46) H) ⟨fun v47 H =>
    @opi _ (@gdi (gw v47 true) ⟨lift (some (fr 8)) H⟩ H) ⟨fun v48 H =>
    @opi _ (@gdi (gw v47 true) ⟨lift (abinR .x .eql v48 (.int .i64 0)) H⟩ H) ⟨fun v49 H =>
    @opi _ (lift (apick v47 v49 (.bool false)) H) ⟨fun v50 H =>
    @opi _ (lift (some v50) H) ⟨fun v51 H =>
    @opi _ (@gdi (gw v51 true) ⟨callP false s2 [] [] H⟩ H) ⟨fun v52 H =>
    @opi _ (lift (apick v51 v52 (.bool false)) H) ⟨fun v53 H =>
    @opi _ (lift (some v53) H) ⟨fun v2 H =>
    some (AFr.al [(2, v2)], H)⟩⟩⟩⟩⟩⟩⟩⟩⟩⟩⟩)
@[simp] noncomputable def body (s0 : SpecP) (s1 : SpecP) (s2 : SpecP) (s3 : SpecP) (fr : AFr) (H : AHeap) : ARes :=
  @aseqi (r0 s0 s1 s2 s3 fr H) ⟨fun fr H =>
  @aseqi (r1 s0 s1 s2 s3 fr H) ⟨fun fr H =>
  @aseqi (r2 s0 s1 s2 s3 fr H) ⟨fun fr H =>
  @aseqi (@aseqi (r3 s0 s1 s2 s3 fr H) ⟨fun fr H =>
  @acondi (fr 26)
    ⟨@aseqi (r4 s0 s1 s2 s3 fr H) ⟨fun fr H =>
    some (.ret, fr, H)⟩⟩
    ⟨some (.normal, fr, H)⟩⟩) ⟨fun fr H =>
  @aseqi (@aseqi (r5 s0 s1 s2 s3 fr H) ⟨fun fr H =>
  @acondi (fr 28)
    ⟨@aseqi (r6 s0 s1 s2 s3 fr H) ⟨fun fr H =>
    some (.ret, fr, H)⟩⟩
    ⟨some (.normal, fr, H)⟩⟩) ⟨fun fr H =>
  @aseqi (r7 s0 s1 s2 s3 fr H) ⟨fun fr H =>
  @aseqi (r8 s0 s1 s2 s3 fr H) ⟨fun fr H =>
  some (.ret, fr, H)⟩⟩⟩⟩⟩⟩⟩
@[simp] def res (fr : AFr) (H : AHeap) : Option (List AV) := res2 (some (fr 2)) (some [])
end law02_ThumbTakes
noncomputable def law02_ThumbTakes (a0 : AV) : Option AV := closeUpR (some [[none]]) (afinR law02_ThumbTakes.res (law02_ThumbTakes.body thumb_Take.spec ref02_Take.spec law02_lives.spec thumb_Put.spec (args0 [a0]) AHeap.empty))
noncomputable def law02_ThumbTakes.spec : List AV → Option AV
  | [a0] => law02_ThumbTakes a0
  | _ => none

/-! bauta/thumb.Writes: function 37 -/
namespace thumb_Writes
noncomputable def C (s0 : SpecP) : Tab := (Tab.none.add 40 (.pure false s0))
@[simp] noncomputable def r0 (s0 : SpecP) (fr : AFr) (H : AHeap) : ARes :=
  areg (@opi _ (abox T.ty_api_Ins (fr 0) H) ⟨fun v1 H =>
    @opi _ (lift (some (.int .i64 0)) H) ⟨fun v2 H =>
    @opi _ (lift (some (.bool false)) H) ⟨fun v3 H =>
    some (AFr.al [(1, v1)], H)⟩⟩⟩)
@[simp] noncomputable def r1 (s0 : SpecP) (fr : AFr) (H : AHeap) : ARes :=
  areg (@opi _ (lift (aloadR (some (some 5)) (fr 1) H) H) ⟨fun v4 H =>
    @opi _ (callP false s0 [[none, none, none, none, none]] [v4] H) ⟨fun v5 H =>
    @opi _ (lift (aun .not v5) H) ⟨fun v6 H =>
    some (AFr.al [(1, fr 1), (6, v6)], H)⟩⟩⟩)
@[simp] noncomputable def r2 (s0 : SpecP) (fr : AFr) (H : AHeap) : ARes :=
  areg (@opi _ (lift (some (.int .i64 0)) H) ⟨fun v2 H =>
    @opi _ (lift (some (.bool false)) H) ⟨fun v3 H =>
    some (AFr.al [(2, v2), (3, v3)], H)⟩⟩)
@[simp] noncomputable def r3 (s0 : SpecP) (fr : AFr) (H : AHeap) : ARes :=
  areg (@opi _ (lift (afieldAddrR (some 0) (fr 1)) H) ⟨fun v7 H =>
    @opi _ (lift (aloadR (some none) v7 H) H) ⟨fun v8 H =>
    some (AFr.al [(1, fr 1), (8, v8)], H)⟩⟩)
@[simp] noncomputable def r4 (s0 : SpecP) (fr : AFr) (H : AHeap) : ARes :=
  areg (@opi _ (lift (abinR .x .eql (fr 8) (.int .i64 1)) H) ⟨fun v10 H =>
    @opi _ (lift (some v10) H) ⟨fun v9 H =>
    some (AFr.al [(1, fr 1), (8, fr 8), (9, v9)], H)⟩⟩)
@[simp] noncomputable def r5 (s0 : SpecP) (fr : AFr) (H : AHeap) : ARes :=
  areg (@opi _ (lift (abinR .x .eql (fr 8) (.int .i64 13)) H) ⟨fun v11 H =>
    @opi _ (lift (some v11) H) ⟨fun v9 H =>
    some (AFr.al [(1, fr 1), (8, fr 8), (9, v9)], H)⟩⟩)
@[simp] noncomputable def r6 (s0 : SpecP) (fr : AFr) (H : AHeap) : ARes :=
  areg (@opi _ (lift (abinR .x .eql (fr 8) (.int .i64 15)) H) ⟨fun v12 H =>
    @opi _ (lift (some v12) H) ⟨fun v9 H =>
    some (AFr.al [(1, fr 1), (8, fr 8), (9, v9)], H)⟩⟩)
@[simp] noncomputable def r7 (s0 : SpecP) (fr : AFr) (H : AHeap) : ARes :=
  areg (@opi _ (lift (abinR .x .eql (fr 8) (.int .i64 17)) H) ⟨fun v13 H =>
    @opi _ (lift (some v13) H) ⟨fun v9 H =>
    some (AFr.al [(1, fr 1), (8, fr 8), (9, v9)], H)⟩⟩)
@[simp] noncomputable def r8 (s0 : SpecP) (fr : AFr) (H : AHeap) : ARes :=
  areg (@opi _ (lift (abinR .x .eql (fr 8) (.int .i64 18)) H) ⟨fun v14 H =>
    @opi _ (lift (some v14) H) ⟨fun v9 H =>
    some (AFr.al [(1, fr 1), (8, fr 8), (9, v9)], H)⟩⟩)
@[simp] noncomputable def r9 (s0 : SpecP) (fr : AFr) (H : AHeap) : ARes :=
  areg (@opi _ (lift (abinR .x .eql (fr 8) (.int .i64 19)) H) ⟨fun v15 H =>
    @opi _ (lift (some v15) H) ⟨fun v9 H =>
    some (AFr.al [(1, fr 1), (8, fr 8), (9, v9)], H)⟩⟩)
@[simp] noncomputable def r10 (s0 : SpecP) (fr : AFr) (H : AHeap) : ARes :=
  areg (@opi _ (lift (abinR .x .eql (fr 8) (.int .i64 20)) H) ⟨fun v16 H =>
    @opi _ (lift (some v16) H) ⟨fun v9 H =>
    some (AFr.al [(1, fr 1), (8, fr 8), (9, v9)], H)⟩⟩)
@[simp] noncomputable def r11 (s0 : SpecP) (fr : AFr) (H : AHeap) : ARes :=
  areg (@opi _ (lift (some (.int .i64 0)) H) ⟨fun v2 H =>
    @opi _ (lift (some (.bool false)) H) ⟨fun v3 H =>
    some (AFr.al [(2, v2), (3, v3)], H)⟩⟩)
@[simp] noncomputable def r12 (s0 : SpecP) (fr : AFr) (H : AHeap) : ARes :=
  areg (@opi _ (lift (abinR .x .eql (fr 8) (.int .i64 11)) H) ⟨fun v18 H =>
    @opi _ (lift (some v18) H) ⟨fun v17 H =>
    some (AFr.al [(1, fr 1), (17, v17)], H)⟩⟩)
@[simp] noncomputable def r13 (s0 : SpecP) (fr : AFr) (H : AHeap) : ARes :=
  areg (@opi _ (lift (afieldAddrR (some 4) (fr 1)) H) ⟨fun v19 H =>
    @opi _ (lift (aloadR (some none) v19 H) H) ⟨fun v20 H =>
    @opi _ (lift (abinR .x .eql v20 (.int .i64 8)) H) ⟨fun v21 H =>
    @opi _ (lift (some v21) H) ⟨fun v22 H =>
    @opi _ (@gdi (gw v22 false) ⟨lift (afieldAddrR (some 4) (fr 1)) H⟩ H) ⟨fun v23 H =>
    @opi _ (@gdi (gw v22 false) ⟨lift (aloadR (some none) v23 H) H⟩ H) ⟨fun v24 H =>
    @opi _ (@gdi (gw v22 false) ⟨lift (abinR .x .eql v24 (.int .i64 10)) H⟩ H) ⟨fun v25 H =>
    @opi _ (lift (apick v22 (.bool true) v25) H) ⟨fun v26 H =>
    @opi _ (lift (some v26) H) ⟨fun v27 H =>
    @opi _ (@gdi (gw v27 false) ⟨lift (afieldAddrR (some 4) (fr 1)) H⟩ H) ⟨fun v28 H =>
    @opi _ (@gdi (gw v27 false) ⟨lift (aloadR (some none) v28 H) H⟩ H) ⟨fun v29 H =>
    @opi _ (@gdi (gw v27 false) ⟨lift (abinR .x .eql v29 (.int .i64 11)) H⟩ H) ⟨fun v30 H =>
    @opi _ (lift (apick v27 (.bool true) v30) H) ⟨fun v31 H =>
    some (AFr.al [(1, fr 1), (31, v31)], H)⟩⟩⟩⟩⟩⟩⟩⟩⟩⟩⟩⟩⟩)
@[simp] noncomputable def r14 (s0 : SpecP) (fr : AFr) (H : AHeap) : ARes :=
  areg (@opi _ (lift (some (.int .i64 0)) H) ⟨fun v2 H =>
    @opi _ (lift (some (.bool false)) H) ⟨fun v3 H =>
    some (AFr.al [(2, v2), (3, v3)], H)⟩⟩)
@[simp] noncomputable def r15 (s0 : SpecP) (fr : AFr) (H : AHeap) : ARes :=
  areg (@opi _ (lift (afieldAddrR (some 1) (fr 1)) H) ⟨fun v32 H =>
    @opi _ (lift (aloadR (some none) v32 H) H) ⟨fun v33 H =>
    @opi _ (lift (some v33) H) ⟨fun v2 H =>
    @opi _ (lift (some (.bool true)) H) ⟨fun v3 H =>
    some (AFr.al [(2, v2), (3, v3)], H)⟩⟩⟩⟩)
@[simp] noncomputable def body (s0 : SpecP) (fr : AFr) (H : AHeap) : ARes :=
  @aseqi (r0 s0 fr H) ⟨fun fr H =>
  @aseqi (@aseqi (r1 s0 fr H) ⟨fun fr H =>
  @acondi (fr 6)
    ⟨@aseqi (r2 s0 fr H) ⟨fun fr H =>
    some (.ret, fr, H)⟩⟩
    ⟨some (.normal, fr, H)⟩⟩) ⟨fun fr H =>
  @aseqi (@aseqi (r3 s0 fr H) ⟨fun fr H =>
  aexit 0 (@aseqi (@aseqi (r4 s0 fr H) ⟨fun fr H =>
  @acondi (fr 9)
    ⟨some (.normal, fr, H)⟩
    ⟨@aseqi (r5 s0 fr H) ⟨fun fr H =>
    @acondi (fr 9)
      ⟨some (.normal, fr, H)⟩
      ⟨@aseqi (r6 s0 fr H) ⟨fun fr H =>
      @acondi (fr 9)
        ⟨some (.normal, fr, H)⟩
        ⟨@aseqi (r7 s0 fr H) ⟨fun fr H =>
        @acondi (fr 9)
          ⟨some (.normal, fr, H)⟩
          ⟨@aseqi (r8 s0 fr H) ⟨fun fr H =>
          @acondi (fr 9)
            ⟨some (.normal, fr, H)⟩
            ⟨@aseqi (r9 s0 fr H) ⟨fun fr H =>
            @acondi (fr 9)
              ⟨some (.normal, fr, H)⟩
              ⟨r10 s0 fr H⟩⟩⟩⟩⟩⟩⟩⟩⟩⟩⟩⟩) ⟨fun fr H =>
  @acondi (fr 9)
    ⟨@aseqi (r11 s0 fr H) ⟨fun fr H =>
    some (.ret, fr, H)⟩⟩
    ⟨@aseqi (r12 s0 fr H) ⟨fun fr H =>
    @acondi (fr 17)
      ⟨@aseqi (r13 s0 fr H) ⟨fun fr H =>
      @acondi (fr 31)
        ⟨@aseqi (r14 s0 fr H) ⟨fun fr H =>
        some (.ret, fr, H)⟩⟩
        ⟨some (.normal, fr, H)⟩⟩⟩
      ⟨some (.normal, fr, H)⟩⟩⟩⟩)⟩) ⟨fun fr H =>
  @aseqi (r15 s0 fr H) ⟨fun fr H =>
  some (.ret, fr, H)⟩⟩⟩⟩
@[simp] def res (fr : AFr) (H : AHeap) : Option (List AV) := res2 (some (fr 2)) (res2 (some (fr 3)) (some []))
end thumb_Writes
noncomputable def thumb_Writes (a0 : AV) : Option AV := closeUpR (some [[none], [none]]) (afinR thumb_Writes.res (thumb_Writes.body thumb_can.spec (args0 [a0]) AHeap.empty))
noncomputable def thumb_Writes.spec : List AV → Option AV
  | [a0] => thumb_Writes a0
  | _ => none

/-! bauta/bautaref02.Writes: function 29 -/
namespace ref02_Writes
noncomputable def C (s0 : SpecP) : Tab := (Tab.none.add 17 (.pure false s0))
@[simp] noncomputable def r0 (s0 : SpecP) (fr : AFr) (H : AHeap) : ARes :=
  areg (@opi _ (abox T.ty_api_Ins (fr 0) H) ⟨fun v1 H =>
    @opi _ (lift (some (.int .i64 0)) H) ⟨fun v2 H =>
    @opi _ (lift (some (.bool false)) H) ⟨fun v3 H =>
    some (AFr.al [(1, v1)], H)⟩⟩⟩)
@[simp] noncomputable def r1 (s0 : SpecP) (fr : AFr) (H : AHeap) : ARes :=
  areg (@opi _ (lift (afieldAddrR (some 0) (fr 1)) H) ⟨fun v5 H =>
    @opi _ (lift (aloadR (some none) v5 H) H) ⟨fun v6 H =>
    @opi _ (lift (some v6) H) ⟨fun v4 H =>
    some (AFr.al [(1, fr 1), (4, v4)], H)⟩⟩⟩)
@[simp] noncomputable def r2 (s0 : SpecP) (fr : AFr) (H : AHeap) : ARes :=
  areg (@opi _ (lift (aloadR (some (some 5)) (fr 1) H) H) ⟨fun v7 H =>
    @opi _ (callP false s0 [[none, none, none, none, none]] [v7] H) ⟨fun v8 H =>
    @opi _ (lift (aun .not v8) H) ⟨fun v9 H =>
    @opi _ (lift (some v9) H) ⟨fun v10 H =>
    @opi _ (@gdi (gw v10 false) ⟨lift (some (fr 4)) H⟩ H) ⟨fun v11 H =>
    @opi _ (@gdi (gw v10 false) ⟨lift (abinR .x .eql v11 (.int .i64 1)) H⟩ H) ⟨fun v12 H =>
    @opi _ (lift (apick v10 (.bool true) v12) H) ⟨fun v13 H =>
    @opi _ (lift (some v13) H) ⟨fun v14 H =>
    @opi _ (@gdi (gw v14 false) ⟨lift (some (fr 4)) H⟩ H) ⟨fun v15 H =>
    @opi _ (@gdi (gw v14 false) ⟨lift (abinR .x .eql v15 (.int .i64 13)) H⟩ H) ⟨fun v16 H =>
    @opi _ (lift (apick v14 (.bool true) v16) H) ⟨fun v17 H =>
    @opi _ (lift (some v17) H) ⟨fun v18 H =>
    @opi _ (@gdi (gw v18 false) ⟨lift (some (fr 4)) H⟩ H) ⟨fun v19 H =>
    @opi _ (@gdi (gw v18 false) ⟨lift (abinR .x .eql v19 (.int .i64 15)) H⟩ H) ⟨fun v20 H =>
    @opi _ (lift (apick v18 (.bool true) v20) H) ⟨fun v21 H =>
    @opi _ (lift (some v21) H) ⟨fun v22 H =>
    @opi _ (@gdi (gw v22 false) ⟨lift (some (fr 4)) H⟩ H) ⟨fun v23 H =>
    @opi _ (@gdi (gw v22 false) ⟨lift (abinR .x .gtr v23 (.int .i64 16)) H⟩ H) ⟨fun v24 H =>
    @opi _ (lift (apick v22 (.bool true) v24) H) ⟨fun v25 H =>
    @opi _ (lift (some v25) H) ⟨fun v26 H =>
    @opi _ (@gdi (gw v26 false) ⟨lift (some (fr 4)) H⟩ H) ⟨fun v27 H =>
    @opi _ (@gdi (gw v26 false) ⟨lift (abinR .x .eql v27 (.int .i64 11)) H⟩ H) ⟨fun v28 H =>
    @opi _ (@gdi (gw v26 false) ⟨lift (some v28) H⟩ H) ⟨fun v29 H =>
    @opi _ (@gdi (gw v29 true) ⟨lift (afieldAddrR (some 4) (fr 1)) H⟩ H) ⟨fun v30 H =>
    @opi _ (@gdi (gw v29 true) ⟨lift (aloadR (some none) v30 H) H⟩ H) ⟨fun v31 H =>
    @opi _ (@gdi (gw v29 true) ⟨lift (abinR .x .eql v31 (.int .i64 8)) H⟩ H) ⟨fun v32 H =>
    @opi _ (@gdi (gw v29 true) ⟨lift (some v32) H⟩ H) ⟨fun v33 H =>
    @opi _ (@gdi (gw v33 false) ⟨lift (afieldAddrR (some 4) (fr 1)) H⟩ H) ⟨fun v34 H =>
    @opi _ (@gdi (gw v33 false) ⟨lift (aloadR (some none) v34 H) H⟩ H) ⟨fun v35 H =>
    @opi _ (@gdi (gw v33 false) ⟨lift (abinR .x .eql v35 (.int .i64 10)) H⟩ H) ⟨fun v36 H =>
    @opi _ (@gdi (gw v29 true) ⟨lift (apick v33 (.bool true) v36) H⟩ H) ⟨fun v37 H =>
    @opi _ (@gdi (gw v29 true) ⟨lift (some v37) H⟩ H) ⟨fun v38 H =>
    @opi _ (@gdi (gw v38 false) ⟨lift (afieldAddrR (some 4) (fr 1)) H⟩ H) ⟨fun v39 H =>
    @opi _ (@gdi (gw v38 false) ⟨lift (aloadR (some none) v39 H) H⟩ H) ⟨fun v40 H =>
    @opi _ (@gdi (gw v38 false) ⟨lift (abinR .x .eql v40 (.int .i64 11)) H⟩ H) ⟨fun v41 H =>
    @opi _ (@gdi (gw v29 true) ⟨lift (apick v38 (.bool true) v41) H⟩ H) ⟨fun v42 H =>
    @opi _ (@gdi (gw v26 false) ⟨lift (apick v29 v42 (.bool false)) H⟩ H) ⟨fun v43 H =>
    @opi _ (lift (apick v26 (.bool true) v43) H) ⟨fun v44 H =>
    some (AFr.al [(1, fr 1), (44, v44)], H)⟩⟩⟩⟩⟩⟩⟩⟩⟩⟩⟩⟩⟩⟩⟩⟩⟩⟩⟩⟩⟩⟩⟩⟩⟩⟩⟩⟩⟩⟩⟩⟩⟩⟩⟩⟩⟩⟩)
@[simp] noncomputable def r3 (s0 : SpecP) (fr : AFr) (H : AHeap) : ARes :=
  areg (@opi _ (lift (some (.int .i64 0)) H) ⟨fun v2 H =>
    @opi _ (lift (some (.bool false)) H) ⟨fun v3 H =>
    some (AFr.al [(2, v2), (3, v3)], H)⟩⟩)
@[simp] noncomputable def r4 (s0 : SpecP) (fr : AFr) (H : AHeap) : ARes :=
  areg (@opi _ (lift (afieldAddrR (some 1) (fr 1)) H) ⟨fun v45 H =>
    @opi _ (lift (aloadR (some none) v45 H) H) ⟨fun v46 H =>
    @opi _ (lift (some v46) H) ⟨fun v2 H =>
    @opi _ (lift (some (.bool true)) H) ⟨fun v3 H =>
    some (AFr.al [(2, v2), (3, v3)], H)⟩⟩⟩⟩)
@[simp] noncomputable def body (s0 : SpecP) (fr : AFr) (H : AHeap) : ARes :=
  @aseqi (r0 s0 fr H) ⟨fun fr H =>
  @aseqi (r1 s0 fr H) ⟨fun fr H =>
  @aseqi (@aseqi (r2 s0 fr H) ⟨fun fr H =>
  @acondi (fr 44)
    ⟨@aseqi (r3 s0 fr H) ⟨fun fr H =>
    some (.ret, fr, H)⟩⟩
    ⟨some (.normal, fr, H)⟩⟩) ⟨fun fr H =>
  @aseqi (r4 s0 fr H) ⟨fun fr H =>
  some (.ret, fr, H)⟩⟩⟩⟩
@[simp] def res (fr : AFr) (H : AHeap) : Option (List AV) := res2 (some (fr 2)) (res2 (some (fr 3)) (some []))
end ref02_Writes
noncomputable def ref02_Writes (a0 : AV) : Option AV := closeUpR (some [[none], [none]]) (afinR ref02_Writes.res (ref02_Writes.body ref02_Can.spec (args0 [a0]) AHeap.empty))
noncomputable def ref02_Writes.spec : List AV → Option AV
  | [a0] => ref02_Writes a0
  | _ => none

/-! math/bits.Len32: function 90 -/
namespace math_bits_Len32
noncomputable def C : Tab := Tab.none
@[simp] noncomputable def r0 (fr : AFr) (H : AHeap) : ARes :=
  areg (@opi _ (lift (some (.int .i64 0)) H) ⟨fun v2 H =>
    some (AFr.al [(0, fr 0), (2, v2)], H)⟩)
@[simp] noncomputable def r1 (fr : AFr) (H : AHeap) : ARes :=
  areg (@opi _ (lift (some (fr 0)) H) ⟨fun v3 H =>
    @opi _ (lift (abinR .x .geq v3 (W32 65536#32)) H) ⟨fun v4 H =>
    some (AFr.al [(0, fr 0), (2, fr 2), (4, v4)], H)⟩⟩)
@[simp] noncomputable def r2 (fr : AFr) (H : AHeap) : ARes :=
  areg (@opi _ (lift (some (fr 0)) H) ⟨fun v5 H =>
    @opi _ (lift (abinR .x .shr v5 (W64 16#64)) H) ⟨fun v6 H =>
    @opi _ (lift (some v6) H) ⟨fun v0 H =>
    some (AFr.al [(0, v0)], H)⟩⟩⟩)
@[simp] noncomputable def r3 (fr : AFr) (H : AHeap) : ARes :=
  areg (@opi _ (lift (some (.int .i64 16)) H) ⟨fun v2 H =>
    some (AFr.al [(0, fr 0), (2, v2)], H)⟩)
@[simp] noncomputable def r4 (fr : AFr) (H : AHeap) : ARes :=
  areg (@opi _ (lift (some (fr 0)) H) ⟨fun v7 H =>
    @opi _ (lift (abinR .x .geq v7 (W32 256#32)) H) ⟨fun v8 H =>
    some (AFr.al [(0, fr 0), (2, fr 2), (8, v8)], H)⟩⟩)
@[simp] noncomputable def r5 (fr : AFr) (H : AHeap) : ARes :=
  areg (@opi _ (lift (some (fr 0)) H) ⟨fun v9 H =>
    @opi _ (lift (abinR .x .shr v9 (W64 8#64)) H) ⟨fun v10 H =>
    @opi _ (lift (some v10) H) ⟨fun v0 H =>
    some (AFr.al [(0, v0), (2, fr 2)], H)⟩⟩⟩)
@[simp] noncomputable def r6 (fr : AFr) (H : AHeap) : ARes :=
  areg (@opi _ (lift (some (fr 2)) H) ⟨fun v11 H =>
    @opi _ (lift (abinR .x .add v11 (.int .i64 8)) H) ⟨fun v12 H =>
    @opi _ (lift (some v12) H) ⟨fun v2 H =>
    some (AFr.al [(0, fr 0), (2, v2)], H)⟩⟩⟩)
@[simp] noncomputable def r7 (fr : AFr) (H : AHeap) : ARes :=
  areg (@opi _ (lift (some (fr 2)) H) ⟨fun v13 H =>
    @opi _ (lift (some (fr 0)) H) ⟨fun v14 H =>
    @opi _ (lift (aconvR (some .u8) v14) H) ⟨fun v15 H =>
    @opi _ (lift (aindexR .str (.str ⟨#[0, 1, 2, 2, 3, 3, 3, 3, 4, 4, 4, 4, 4, 4, 4, 4, 5, 5, 5, 5, 5, 5, 5, 5, 5, 5, 5, 5, 5, 5, 5, 5, 6, 6, 6, 6, 6, 6, 6, 6, 6, 6, 6, 6, 6, 6, 6, 6, 6, 6, 6, 6, 6, 6, 6, 6, 6, 6, 6, 6, 6, 6, 6, 6, 7, 7, 7, 7, 7, 7, 7, 7, 7, 7, 7, 7, 7, 7, 7, 7, 7, 7, 7, 7, 7, 7, 7, 7, 7, 7, 7, 7, 7, 7, 7, 7, 7, 7, 7, 7, 7, 7, 7, 7, 7, 7, 7, 7, 7, 7, 7, 7, 7, 7, 7, 7, 7, 7, 7, 7, 7, 7, 7, 7, 7, 7, 7, 7, 8, 8, 8, 8, 8, 8, 8, 8, 8, 8, 8, 8, 8, 8, 8, 8, 8, 8, 8, 8, 8, 8, 8, 8, 8, 8, 8, 8, 8, 8, 8, 8, 8, 8, 8, 8, 8, 8, 8, 8, 8, 8, 8, 8, 8, 8, 8, 8, 8, 8, 8, 8, 8, 8, 8, 8, 8, 8, 8, 8, 8, 8, 8, 8, 8, 8, 8, 8, 8, 8, 8, 8, 8, 8, 8, 8, 8, 8, 8, 8, 8, 8, 8, 8, 8, 8, 8, 8, 8, 8, 8, 8, 8, 8, 8, 8, 8, 8, 8, 8, 8, 8, 8, 8, 8, 8, 8, 8, 8, 8, 8, 8, 8, 8, 8, 8, 8, 8, 8, 8, 8, 8, 8, 8, 8, 8, 8, 8]⟩) v15) H) ⟨fun v16 H =>
    @opi _ (lift (aconvR (some .i64) v16) H) ⟨fun v17 H =>
    @opi _ (lift (abinR .x .add v13 v17) H) ⟨fun v18 H =>
    @opi _ (lift (some v18) H) ⟨fun v2 H =>
    some (AFr.al [(2, v2)], H)⟩⟩⟩⟩⟩⟩⟩)
@[simp] noncomputable def body (fr : AFr) (H : AHeap) : ARes :=
  @aseqi (r0 fr H) ⟨fun fr H =>
  @aseqi (@aseqi (r1 fr H) ⟨fun fr H =>
  @acondi (fr 4)
    ⟨@aseqi (r2 fr H) ⟨fun fr H =>
    r3 fr H⟩⟩
    ⟨some (.normal, fr, H)⟩⟩) ⟨fun fr H =>
  @aseqi (@aseqi (r4 fr H) ⟨fun fr H =>
  @acondi (fr 8)
    ⟨@aseqi (r5 fr H) ⟨fun fr H =>
    r6 fr H⟩⟩
    ⟨some (.normal, fr, H)⟩⟩) ⟨fun fr H =>
  @aseqi (r7 fr H) ⟨fun fr H =>
  some (.ret, fr, H)⟩⟩⟩⟩
@[simp] def res (fr : AFr) (H : AHeap) : Option (List AV) := res2 (some (fr 2)) (some [])
end math_bits_Len32
noncomputable def math_bits_Len32 (a0 : AV) : Option AV := closeUpR (some [[none]]) (afinR math_bits_Len32.res (math_bits_Len32.body (args0 [a0]) AHeap.empty))
noncomputable def math_bits_Len32.spec : List AV → Option AV
  | [a0] => math_bits_Len32 a0
  | _ => none

/-! math/bits.Len64: function 91 -/
namespace math_bits_Len64
noncomputable def C : Tab := Tab.none
@[simp] noncomputable def r0 (fr : AFr) (H : AHeap) : ARes :=
  areg (@opi _ (lift (some (.int .i64 0)) H) ⟨fun v2 H =>
    some (AFr.al [(0, fr 0), (2, v2)], H)⟩)
@[simp] noncomputable def r1 (fr : AFr) (H : AHeap) : ARes :=
  areg (@opi _ (lift (some (fr 0)) H) ⟨fun v3 H =>
    @opi _ (lift (abinR .x .geq v3 (W64 4294967296#64)) H) ⟨fun v4 H =>
    some (AFr.al [(0, fr 0), (2, fr 2), (4, v4)], H)⟩⟩)
@[simp] noncomputable def r2 (fr : AFr) (H : AHeap) : ARes :=
  areg (@opi _ (lift (some (fr 0)) H) ⟨fun v5 H =>
    @opi _ (lift (abinR .x .shr v5 (W64 32#64)) H) ⟨fun v6 H =>
    @opi _ (lift (some v6) H) ⟨fun v0 H =>
    some (AFr.al [(0, v0)], H)⟩⟩⟩)
@[simp] noncomputable def r3 (fr : AFr) (H : AHeap) : ARes :=
  areg (@opi _ (lift (some (.int .i64 32)) H) ⟨fun v2 H =>
    some (AFr.al [(0, fr 0), (2, v2)], H)⟩)
@[simp] noncomputable def r4 (fr : AFr) (H : AHeap) : ARes :=
  areg (@opi _ (lift (some (fr 0)) H) ⟨fun v7 H =>
    @opi _ (lift (abinR .x .geq v7 (W64 65536#64)) H) ⟨fun v8 H =>
    some (AFr.al [(0, fr 0), (2, fr 2), (8, v8)], H)⟩⟩)
@[simp] noncomputable def r5 (fr : AFr) (H : AHeap) : ARes :=
  areg (@opi _ (lift (some (fr 0)) H) ⟨fun v9 H =>
    @opi _ (lift (abinR .x .shr v9 (W64 16#64)) H) ⟨fun v10 H =>
    @opi _ (lift (some v10) H) ⟨fun v0 H =>
    some (AFr.al [(0, v0), (2, fr 2)], H)⟩⟩⟩)
@[simp] noncomputable def r6 (fr : AFr) (H : AHeap) : ARes :=
  areg (@opi _ (lift (some (fr 2)) H) ⟨fun v11 H =>
    @opi _ (lift (abinR .x .add v11 (.int .i64 16)) H) ⟨fun v12 H =>
    @opi _ (lift (some v12) H) ⟨fun v2 H =>
    some (AFr.al [(0, fr 0), (2, v2)], H)⟩⟩⟩)
@[simp] noncomputable def r7 (fr : AFr) (H : AHeap) : ARes :=
  areg (@opi _ (lift (some (fr 0)) H) ⟨fun v13 H =>
    @opi _ (lift (abinR .x .geq v13 (W64 256#64)) H) ⟨fun v14 H =>
    some (AFr.al [(0, fr 0), (2, fr 2), (14, v14)], H)⟩⟩)
@[simp] noncomputable def r8 (fr : AFr) (H : AHeap) : ARes :=
  areg (@opi _ (lift (some (fr 0)) H) ⟨fun v15 H =>
    @opi _ (lift (abinR .x .shr v15 (W64 8#64)) H) ⟨fun v16 H =>
    @opi _ (lift (some v16) H) ⟨fun v0 H =>
    some (AFr.al [(0, v0), (2, fr 2)], H)⟩⟩⟩)
@[simp] noncomputable def r9 (fr : AFr) (H : AHeap) : ARes :=
  areg (@opi _ (lift (some (fr 2)) H) ⟨fun v17 H =>
    @opi _ (lift (abinR .x .add v17 (.int .i64 8)) H) ⟨fun v18 H =>
    @opi _ (lift (some v18) H) ⟨fun v2 H =>
    some (AFr.al [(0, fr 0), (2, v2)], H)⟩⟩⟩)
@[simp] noncomputable def r10 (fr : AFr) (H : AHeap) : ARes :=
  areg (@opi _ (lift (some (fr 2)) H) ⟨fun v19 H =>
    @opi _ (lift (some (fr 0)) H) ⟨fun v20 H =>
    @opi _ (lift (aconvR (some .u8) v20) H) ⟨fun v21 H =>
    @opi _ (lift (aindexR .str (.str ⟨#[0, 1, 2, 2, 3, 3, 3, 3, 4, 4, 4, 4, 4, 4, 4, 4, 5, 5, 5, 5, 5, 5, 5, 5, 5, 5, 5, 5, 5, 5, 5, 5, 6, 6, 6, 6, 6, 6, 6, 6, 6, 6, 6, 6, 6, 6, 6, 6, 6, 6, 6, 6, 6, 6, 6, 6, 6, 6, 6, 6, 6, 6, 6, 6, 7, 7, 7, 7, 7, 7, 7, 7, 7, 7, 7, 7, 7, 7, 7, 7, 7, 7, 7, 7, 7, 7, 7, 7, 7, 7, 7, 7, 7, 7, 7, 7, 7, 7, 7, 7, 7, 7, 7, 7, 7, 7, 7, 7, 7, 7, 7, 7, 7, 7, 7, 7, 7, 7, 7, 7, 7, 7, 7, 7, 7, 7, 7, 7, 8, 8, 8, 8, 8, 8, 8, 8, 8, 8, 8, 8, 8, 8, 8, 8, 8, 8, 8, 8, 8, 8, 8, 8, 8, 8, 8, 8, 8, 8, 8, 8, 8, 8, 8, 8, 8, 8, 8, 8, 8, 8, 8, 8, 8, 8, 8, 8, 8, 8, 8, 8, 8, 8, 8, 8, 8, 8, 8, 8, 8, 8, 8, 8, 8, 8, 8, 8, 8, 8, 8, 8, 8, 8, 8, 8, 8, 8, 8, 8, 8, 8, 8, 8, 8, 8, 8, 8, 8, 8, 8, 8, 8, 8, 8, 8, 8, 8, 8, 8, 8, 8, 8, 8, 8, 8, 8, 8, 8, 8, 8, 8, 8, 8, 8, 8, 8, 8, 8, 8, 8, 8, 8, 8, 8, 8, 8, 8]⟩) v21) H) ⟨fun v22 H =>
    @opi _ (lift (aconvR (some .i64) v22) H) ⟨fun v23 H =>
    @opi _ (lift (abinR .x .add v19 v23) H) ⟨fun v24 H =>
    @opi _ (lift (some v24) H) ⟨fun v2 H =>
    some (AFr.al [(2, v2)], H)⟩⟩⟩⟩⟩⟩⟩)
@[simp] noncomputable def body (fr : AFr) (H : AHeap) : ARes :=
  @aseqi (r0 fr H) ⟨fun fr H =>
  @aseqi (@aseqi (r1 fr H) ⟨fun fr H =>
  @acondi (fr 4)
    ⟨@aseqi (r2 fr H) ⟨fun fr H =>
    r3 fr H⟩⟩
    ⟨some (.normal, fr, H)⟩⟩) ⟨fun fr H =>
  @aseqi (@aseqi (r4 fr H) ⟨fun fr H =>
  @acondi (fr 8)
    ⟨@aseqi (r5 fr H) ⟨fun fr H =>
    r6 fr H⟩⟩
    ⟨some (.normal, fr, H)⟩⟩) ⟨fun fr H =>
  @aseqi (@aseqi (r7 fr H) ⟨fun fr H =>
  @acondi (fr 14)
    ⟨@aseqi (r8 fr H) ⟨fun fr H =>
    r9 fr H⟩⟩
    ⟨some (.normal, fr, H)⟩⟩) ⟨fun fr H =>
  @aseqi (r10 fr H) ⟨fun fr H =>
  some (.ret, fr, H)⟩⟩⟩⟩⟩
@[simp] def res (fr : AFr) (H : AHeap) : Option (List AV) := res2 (some (fr 2)) (some [])
end math_bits_Len64
noncomputable def math_bits_Len64 (a0 : AV) : Option AV := closeUpR (some [[none]]) (afinR math_bits_Len64.res (math_bits_Len64.body (args0 [a0]) AHeap.empty))
noncomputable def math_bits_Len64.spec : List AV → Option AV
  | [a0] => math_bits_Len64 a0
  | _ => none

/-! math/bits.Len: function 76 -/
namespace math_bits_Len
noncomputable def C (s0 : SpecP) (s1 : SpecP) : Tab := ((Tab.none.add 90 (.pure false s0)).add 91 (.pure false s1))
@[simp] noncomputable def r0 (s0 : SpecP) (s1 : SpecP) (fr : AFr) (H : AHeap) : ARes :=
  areg (@opi _ (lift (some (.int .i64 0)) H) ⟨fun v2 H =>
    some (AFr.al [(0, fr 0)], H)⟩)
@[simp] noncomputable def r1 (s0 : SpecP) (s1 : SpecP) (fr : AFr) (H : AHeap) : ARes :=
  areg (@opi _ (lift (some (fr 0)) H) ⟨fun v3 H =>
    @opi _ (lift (aconvR (some .u32) v3) H) ⟨fun v4 H =>
    @opi _ (callP false s0 [[none]] [v4] H) ⟨fun v5 H =>
    @opi _ (lift (some v5) H) ⟨fun v2 H =>
    some (AFr.al [(2, v2)], H)⟩⟩⟩⟩)
@[simp] noncomputable def r2 (s0 : SpecP) (s1 : SpecP) (fr : AFr) (H : AHeap) : ARes :=
  areg (@opi _ (lift (some (fr 0)) H) ⟨fun v6 H =>
    @opi _ (callP false s1 [[none]] [v6] H) ⟨fun v7 H =>
    @opi _ (lift (some v7) H) ⟨fun v2 H =>
    some (AFr.al [(2, v2)], H)⟩⟩⟩)
@[simp] noncomputable def body (s0 : SpecP) (s1 : SpecP) (fr : AFr) (H : AHeap) : ARes :=
  @aseqi (r0 s0 s1 fr H) ⟨fun fr H =>
  @aseqi (@acondi (.bool false)
    ⟨@aseqi (r1 s0 s1 fr H) ⟨fun fr H =>
    some (.ret, fr, H)⟩⟩
    ⟨some (.normal, fr, H)⟩) ⟨fun fr H =>
  @aseqi (r2 s0 s1 fr H) ⟨fun fr H =>
  some (.ret, fr, H)⟩⟩⟩
@[simp] def res (fr : AFr) (H : AHeap) : Option (List AV) := res2 (some (fr 2)) (some [])
end math_bits_Len
noncomputable def math_bits_Len (a0 : AV) : Option AV := closeUpR (some [[none]]) (afinR math_bits_Len.res (math_bits_Len.body math_bits_Len32.spec math_bits_Len64.spec (args0 [a0]) AHeap.empty))
noncomputable def math_bits_Len.spec : List AV → Option AV
  | [a0] => math_bits_Len a0
  | _ => none

/-! cmp.isNaN[int]: function 99 -/
namespace cmp_isNaN_int
noncomputable def C : Tab := Tab.none
@[simp] noncomputable def r0 (fr : AFr) (H : AHeap) : ARes :=
  areg (@opi _ (lift (some (.bool false)) H) ⟨fun v2 H =>
    some (AFr.al [(0, fr 0)], H)⟩)
@[simp] noncomputable def r1 (fr : AFr) (H : AHeap) : ARes :=
  areg (@opi _ (lift (some (fr 0)) H) ⟨fun v3 H =>
    @opi _ (lift (some (fr 0)) H) ⟨fun v4 H =>
    @opi _ (lift (abinR .x .neq v3 v4) H) ⟨fun v5 H =>
    @opi _ (lift (some v5) H) ⟨fun v2 H =>
    some (AFr.al [(2, v2)], H)⟩⟩⟩⟩)
@[simp] noncomputable def body (fr : AFr) (H : AHeap) : ARes :=
  @aseqi (r0 fr H) ⟨fun fr H =>
  @aseqi (r1 fr H) ⟨fun fr H =>
  some (.ret, fr, H)⟩⟩
@[simp] def res (fr : AFr) (H : AHeap) : Option (List AV) := res2 (some (fr 2)) (some [])
end cmp_isNaN_int
noncomputable def cmp_isNaN_int (a0 : AV) : Option AV := closeUpR (some [[none]]) (afinR cmp_isNaN_int.res (cmp_isNaN_int.body (args0 [a0]) AHeap.empty))
noncomputable def cmp_isNaN_int.spec : List AV → Option AV
  | [a0] => cmp_isNaN_int a0
  | _ => none

/-! cmp.Less[int]: function 87 -/
namespace cmp_Less_int
noncomputable def C (s0 : SpecP) : Tab := (Tab.none.add 99 (.pure false s0))
@[simp] noncomputable def r0 (s0 : SpecP) (fr : AFr) (H : AHeap) : ARes :=
  areg (@opi _ (lift (some (.bool false)) H) ⟨fun v4 H =>
    some (AFr.al [(0, fr 0), (1, fr 1)], H)⟩)
@[simp] noncomputable def r1 (s0 : SpecP) (fr : AFr) (H : AHeap) : ARes :=
  areg (@opi _ (lift (some (fr 0)) H) ⟨fun v5 H =>
    @opi _ (callP false s0 [[none]] [v5] H) ⟨fun v6 H =>
    @opi _ (lift (some v6) H) ⟨fun v7 H =>
    @opi _ (@gdi (gw v7 true) ⟨lift (some (fr 1)) H⟩ H) ⟨fun v8 H =>
    @opi _ (@gdi (gw v7 true) ⟨callP false s0 [[none]] [v8] H⟩ H) ⟨fun v9 H =>
    @opi _ (@gdi (gw v7 true) ⟨lift (aun .not v9) H⟩ H) ⟨fun v10 H =>
    @opi _ (lift (apick v7 v10 (.bool false)) H) ⟨fun v11 H =>
    @opi _ (lift (some v11) H) ⟨fun v12 H =>
    @opi _ (@gdi (gw v12 false) ⟨lift (some (fr 0)) H⟩ H) ⟨fun v13 H =>
    @opi _ (@gdi (gw v12 false) ⟨lift (some (fr 1)) H⟩ H) ⟨fun v14 H =>
    @opi _ (@gdi (gw v12 false) ⟨lift (abinR .x .lss v13 v14) H⟩ H) ⟨fun v15 H =>
    @opi _ (lift (apick v12 (.bool true) v15) H) ⟨fun v16 H =>
    @opi _ (lift (some v16) H) ⟨fun v4 H =>
    some (AFr.al [(4, v4)], H)⟩⟩⟩⟩⟩⟩⟩⟩⟩⟩⟩⟩⟩)
@[simp] noncomputable def body (s0 : SpecP) (fr : AFr) (H : AHeap) : ARes :=
  @aseqi (r0 s0 fr H) ⟨fun fr H =>
  @aseqi (r1 s0 fr H) ⟨fun fr H =>
  some (.ret, fr, H)⟩⟩
@[simp] def res (fr : AFr) (H : AHeap) : Option (List AV) := res2 (some (fr 4)) (some [])
end cmp_Less_int
noncomputable def cmp_Less_int (a0 a1 : AV) : Option AV := closeUpR (some [[none]]) (afinR cmp_Less_int.res (cmp_Less_int.body cmp_isNaN_int.spec (args0 [a0, a1]) AHeap.empty))
noncomputable def cmp_Less_int.spec : List AV → Option AV
  | [a0, a1] => cmp_Less_int a0 a1
  | _ => none

/-! slices.insertionSortOrdered[int]: function 81 -/
namespace slices_insertionSortOrdered_int
noncomputable def C (s0 : SpecP) : Tab := (Tab.none.add 87 (.pure false s0))
@[simp] noncomputable def r0 (s0 : SpecP) (fr : AFr) (H : AHeap) : ARes :=
  areg (@opi _ (lift (some (fr 1)) H) ⟨fun v8 H =>
    @opi _ (lift (abinR .x .add v8 (.int .i64 1)) H) ⟨fun v9 H =>
    @opi _ (lift (some v9) H) ⟨fun v6 H =>
    some (AFr.al [(0, fr 0), (1, fr 1), (2, fr 2), (6, v6)], H)⟩⟩⟩)
@[simp] noncomputable def r1 (s0 : SpecP) (fr : AFr) (H : AHeap) : ARes :=
  areg (@opi _ (lift (some (fr 6)) H) ⟨fun v10 H =>
    @opi _ (lift (some (fr 2)) H) ⟨fun v11 H =>
    @opi _ (lift (abinR .x .lss v10 v11) H) ⟨fun v12 H =>
    some (AFr.al [(0, fr 0), (1, fr 1), (2, fr 2), (6, fr 6), (12, v12)], H)⟩⟩⟩)
@[simp] noncomputable def r3 (s0 : SpecP) (fr : AFr) (H : AHeap) : ARes :=
  areg (@opi _ (lift (some (fr 6)) H) ⟨fun v15 H =>
    @opi _ (lift (some v15) H) ⟨fun v7 H =>
    some (AFr.al [(0, fr 0), (1, fr 1), (2, fr 2), (6, fr 6), (7, v7)], H)⟩⟩)
@[simp] noncomputable def r4 (s0 : SpecP) (fr : AFr) (H : AHeap) : ARes :=
  areg (@opi _ (lift (some (fr 7)) H) ⟨fun v16 H1 =>
    @opi _ (lift (some (fr 1)) H1) ⟨fun v17 H2 =>
    @opi _ (lift (abinR .x .gtr v16 v17) H2) ⟨fun v18 H3 =>
    @opi _ (lift (some v18) H3) ⟨fun v19 H4 =>
    @opi _ (@gdi (gw v19 true) ⟨lift (some (fr 0)) H4⟩ H4) ⟨fun v20 H5 =>
    @opi _ (@gdi (gw v19 true) ⟨lift (some (fr 7)) H5⟩ H5) ⟨fun v21 H6 =>
    @opi _ (@gdi (gw v19 true) ⟨lift (aindexAddrR (.sl 1) v20 v21) H6⟩ H6) ⟨fun v22 H7 =>
    @opi _ (@gdi (gw v19 true) ⟨lift (aloadR (some none) v22 H7) H7⟩ H7) ⟨fun v23 H8 =>
    @opi _ (@gdi (gw v19 true) ⟨lift (some (fr 0)) H8⟩ H8) ⟨fun v24 H9 =>
    @opi _ (@gdi (gw v19 true) ⟨lift (some (fr 7)) H9⟩ H9) ⟨fun v25 H10 =>
    @opi _ (@gdi (gw v19 true) ⟨lift (abinR .x .sub v25 (.int .i64 1)) H10⟩ H10) ⟨fun v26 H11 =>
    @opi _ (@gdi (gw v19 true) ⟨lift (aindexAddrR (.sl 1) v24 v26) H11⟩ H11) ⟨fun v27 H12 =>
    @opi _ (@gdi (gw v19 true) ⟨lift (aloadR (some none) v27 H12) H12⟩ H12) ⟨fun v28 H13 =>
    @opi _ (@gdi (gw v19 true) ⟨callP false s0 [[none], [none]] [v23, v28] H13⟩ H13) ⟨fun v29 H14 =>
    @opi _ (lift (apick v19 v29 (.bool false)) H14) ⟨fun v30 H15 =>
    some (AFr.al [(0, fr 0), (1, fr 1), (2, fr 2), (6, fr 6), (7, fr 7), (30, v30)], H15)⟩⟩⟩⟩⟩⟩⟩⟩⟩⟩⟩⟩⟩⟩⟩)
@[simp] noncomputable def r6 (s0 : SpecP) (fr : AFr) (H : AHeap) : ARes :=
  areg (@opi _ (lift (some (fr 0)) H) ⟨fun v33 H1 =>
    @opi _ (lift (some (fr 7)) H1) ⟨fun v34 H2 =>
    @opi _ (lift (some (fr 0)) H2) ⟨fun v35 H3 =>
    @opi _ (lift (some (fr 7)) H3) ⟨fun v36 H4 =>
    @opi _ (lift (abinR .x .sub v36 (.int .i64 1)) H4) ⟨fun v37 H5 =>
    @opi _ (lift (some (fr 0)) H5) ⟨fun v38 H6 =>
    @opi _ (lift (some (fr 7)) H6) ⟨fun v39 H7 =>
    @opi _ (lift (abinR .x .sub v39 (.int .i64 1)) H7) ⟨fun v40 H8 =>
    @opi _ (lift (aindexAddrR (.sl 1) v38 v40) H8) ⟨fun v41 H9 =>
    @opi _ (lift (aloadR (some none) v41 H9) H9) ⟨fun v42 H10 =>
    @opi _ (lift (some (fr 0)) H10) ⟨fun v43 H11 =>
    @opi _ (lift (some (fr 7)) H11) ⟨fun v44 H12 =>
    @opi _ (lift (aindexAddrR (.sl 1) v43 v44) H12) ⟨fun v45 H13 =>
    @opi _ (lift (aloadR (some none) v45 H13) H13) ⟨fun v46 H14 =>
    @opi _ (lift (aindexAddrR (.sl 1) v33 v34) H14) ⟨fun v47 H15 =>
    @opi _ (liftS (astoreR (some 1) v47 v42 H15)) ⟨fun _ H16 =>
    @opi _ (lift (aindexAddrR (.sl 1) v35 v37) H16) ⟨fun v48 H17 =>
    @opi _ (liftS (astoreR (some 1) v48 v46 H17)) ⟨fun _ H18 =>
    some (AFr.al [(0, fr 0), (1, fr 1), (2, fr 2), (6, fr 6), (7, fr 7)], H18)⟩⟩⟩⟩⟩⟩⟩⟩⟩⟩⟩⟩⟩⟩⟩⟩⟩⟩)
@[simp] noncomputable def r5 (s0 : SpecP) (fr : AFr) (H : AHeap) : ARes :=
  areg (@opi _ (lift (some (fr 7)) H) ⟨fun v31 H =>
    @opi _ (lift (abinR .x .sub v31 (.int .i64 1)) H) ⟨fun v32 H =>
    @opi _ (lift (some v32) H) ⟨fun v7 H =>
    some (AFr.al [(0, fr 0), (1, fr 1), (2, fr 2), (6, fr 6), (7, v7)], H)⟩⟩⟩)
@[simp] noncomputable def r2 (s0 : SpecP) (fr : AFr) (H : AHeap) : ARes :=
  areg (@opi _ (lift (some (fr 6)) H) ⟨fun v13 H =>
    @opi _ (lift (abinR .x .add v13 (.int .i64 1)) H) ⟨fun v14 H =>
    @opi _ (lift (some v14) H) ⟨fun v6 H =>
    some (AFr.al [(0, fr 0), (1, fr 1), (2, fr 2), (6, v6)], H)⟩⟩⟩)
noncomputable def l1 (s0 : SpecP) (fr : AFr) (H : AHeap) : ARes :=
  @aseqi (@aseqi (r4 s0 fr H) ⟨fun fr H =>
  @acondi (fr 30)
    ⟨some (.normal, fr, H)⟩
    ⟨some (.exit 2, fr, H)⟩⟩) ⟨fun fr H =>
  @aseqi (aexit 3 (r6 s0 fr H)) ⟨fun fr H =>
  r5 s0 fr H⟩⟩
noncomputable def l0 (s0 : SpecP) (fr : AFr) (H : AHeap) : ARes :=
  @aseqi (@aseqi (r1 s0 fr H) ⟨fun fr H =>
  @acondi (fr 12)
    ⟨some (.normal, fr, H)⟩
    ⟨some (.exit 0, fr, H)⟩⟩) ⟨fun fr H =>
  @aseqi (aexit 1 (@aseqi (r3 s0 fr H) ⟨fun fr H =>
  aexit 2 (aloop (l1 s0) fr H)⟩)) ⟨fun fr H =>
  r2 s0 fr H⟩⟩
@[simp] noncomputable def body (s0 : SpecP) (fr : AFr) (H : AHeap) : ARes :=
  @aseqi (r0 s0 fr H) ⟨fun fr H =>
  aexit 0 (aloop (l0 s0) fr H)⟩
@[simp] def res (fr : AFr) (H : AHeap) : Option (List AV) := some []
end slices_insertionSortOrdered_int
noncomputable def slices_insertionSortOrdered_int (a0 a1 a2 : AV) : Option AV := closeUpR (some []) (afinR slices_insertionSortOrdered_int.res (slices_insertionSortOrdered_int.body cmp_Less_int.spec (args0 [a0, a1, a2]) AHeap.empty))
noncomputable def slices_insertionSortOrdered_int.spec : List AV → Option AV
  | [a0, a1, a2] => slices_insertionSortOrdered_int a0 a1 a2
  | _ => none

/-! slices.siftDownOrdered[int]: function 94 -/
namespace slices_siftDownOrdered_int
noncomputable def C (s0 : SpecP) : Tab := (Tab.none.add 87 (.pure false s0))
@[simp] noncomputable def r0 (s0 : SpecP) (fr : AFr) (H : AHeap) : ARes :=
  areg (@opi _ (lift (some (fr 1)) H) ⟨fun v10 H =>
    @opi _ (lift (some v10) H) ⟨fun v8 H =>
    some (AFr.al [(0, fr 0), (2, fr 2), (3, fr 3), (8, v8)], H)⟩⟩)
@[simp] noncomputable def r1 (s0 : SpecP) (fr : AFr) (H : AHeap) : ARes :=
  areg (@opi _ (lift (some (fr 8)) H) ⟨fun v11 H =>
    @opi _ (lift (abinR .x .mul (.int .i64 2) v11) H) ⟨fun v12 H =>
    @opi _ (lift (abinR .x .add v12 (.int .i64 1)) H) ⟨fun v13 H =>
    @opi _ (lift (some v13) H) ⟨fun v9 H =>
    some (AFr.al [(0, fr 0), (2, fr 2), (3, fr 3), (8, fr 8), (9, v9)], H)⟩⟩⟩⟩)
@[simp] noncomputable def r2 (s0 : SpecP) (fr : AFr) (H : AHeap) : ARes :=
  areg (@opi _ (lift (some (fr 9)) H) ⟨fun v14 H =>
    @opi _ (lift (some (fr 2)) H) ⟨fun v15 H =>
    @opi _ (lift (abinR .x .geq v14 v15) H) ⟨fun v16 H =>
    some (AFr.al [(0, fr 0), (2, fr 2), (3, fr 3), (8, fr 8), (9, fr 9), (16, v16)], H)⟩⟩⟩)
@[simp] noncomputable def r3 (s0 : SpecP) (fr : AFr) (H : AHeap) : ARes :=
  areg (@opi _ (lift (some (fr 9)) H) ⟨fun v17 H1 =>
    @opi _ (lift (abinR .x .add v17 (.int .i64 1)) H1) ⟨fun v18 H2 =>
    @opi _ (lift (some (fr 2)) H2) ⟨fun v19 H3 =>
    @opi _ (lift (abinR .x .lss v18 v19) H3) ⟨fun v20 H4 =>
    @opi _ (lift (some v20) H4) ⟨fun v21 H5 =>
    @opi _ (@gdi (gw v21 true) ⟨lift (some (fr 0)) H5⟩ H5) ⟨fun v22 H6 =>
    @opi _ (@gdi (gw v21 true) ⟨lift (some (fr 3)) H6⟩ H6) ⟨fun v23 H7 =>
    @opi _ (@gdi (gw v21 true) ⟨lift (some (fr 9)) H7⟩ H7) ⟨fun v24 H8 =>
    @opi _ (@gdi (gw v21 true) ⟨lift (abinR .x .add v23 v24) H8⟩ H8) ⟨fun v25 H9 =>
    @opi _ (@gdi (gw v21 true) ⟨lift (aindexAddrR (.sl 1) v22 v25) H9⟩ H9) ⟨fun v26 H10 =>
    @opi _ (@gdi (gw v21 true) ⟨lift (aloadR (some none) v26 H10) H10⟩ H10) ⟨fun v27 H11 =>
    @opi _ (@gdi (gw v21 true) ⟨lift (some (fr 0)) H11⟩ H11) ⟨fun v28 H12 =>
    @opi _ (@gdi (gw v21 true) ⟨lift (some (fr 3)) H12⟩ H12) ⟨fun v29 H13 =>
    @opi _ (@gdi (gw v21 true) ⟨lift (some (fr 9)) H13⟩ H13) ⟨fun v30 H14 =>
    @opi _ (@gdi (gw v21 true) ⟨lift (abinR .x .add v29 v30) H14⟩ H14) ⟨fun v31 H15 =>
    @opi _ (@gdi (gw v21 true) ⟨lift (abinR .x .add v31 (.int .i64 1)) H15⟩ H15) ⟨fun v32 H16 =>
    @opi _ (@gdi (gw v21 true) ⟨lift (aindexAddrR (.sl 1) v28 v32) H16⟩ H16) ⟨fun v33 H17 =>
    @opi _ (@gdi (gw v21 true) ⟨lift (aloadR (some none) v33 H17) H17⟩ H17) ⟨fun v34 H18 =>
    @opi _ (@gdi (gw v21 true) ⟨callP false s0 [[none], [none]] [v27, v34] H18⟩ H18) ⟨fun v35 H19 =>
    @opi _ (lift (apick v21 v35 (.bool false)) H19) ⟨fun v36 H20 =>
    some (AFr.al [(0, fr 0), (2, fr 2), (3, fr 3), (8, fr 8), (9, fr 9), (36, v36)], H20)⟩⟩⟩⟩⟩⟩⟩⟩⟩⟩⟩⟩⟩⟩⟩⟩⟩⟩⟩⟩)
@[simp] noncomputable def r4 (s0 : SpecP) (fr : AFr) (H : AHeap) : ARes :=
  areg (@opi _ (lift (some (fr 9)) H) ⟨fun v37 H =>
    @opi _ (lift (abinR .x .add v37 (.int .i64 1)) H) ⟨fun v38 H =>
    @opi _ (lift (some v38) H) ⟨fun v9 H =>
    some (AFr.al [(0, fr 0), (2, fr 2), (3, fr 3), (8, fr 8), (9, v9)], H)⟩⟩⟩)
@[simp] noncomputable def r5 (s0 : SpecP) (fr : AFr) (H : AHeap) : ARes :=
  areg (@opi _ (lift (some (fr 0)) H) ⟨fun v39 H1 =>
    @opi _ (lift (some (fr 3)) H1) ⟨fun v40 H2 =>
    @opi _ (lift (some (fr 8)) H2) ⟨fun v41 H3 =>
    @opi _ (lift (abinR .x .add v40 v41) H3) ⟨fun v42 H4 =>
    @opi _ (lift (aindexAddrR (.sl 1) v39 v42) H4) ⟨fun v43 H5 =>
    @opi _ (lift (aloadR (some none) v43 H5) H5) ⟨fun v44 H6 =>
    @opi _ (lift (some (fr 0)) H6) ⟨fun v45 H7 =>
    @opi _ (lift (some (fr 3)) H7) ⟨fun v46 H8 =>
    @opi _ (lift (some (fr 9)) H8) ⟨fun v47 H9 =>
    @opi _ (lift (abinR .x .add v46 v47) H9) ⟨fun v48 H10 =>
    @opi _ (lift (aindexAddrR (.sl 1) v45 v48) H10) ⟨fun v49 H11 =>
    @opi _ (lift (aloadR (some none) v49 H11) H11) ⟨fun v50 H12 =>
    @opi _ (callP false s0 [[none], [none]] [v44, v50] H12) ⟨fun v51 H13 =>
    @opi _ (lift (aun .not v51) H13) ⟨fun v52 H14 =>
    some (AFr.al [(0, fr 0), (2, fr 2), (3, fr 3), (8, fr 8), (9, fr 9), (52, v52)], H14)⟩⟩⟩⟩⟩⟩⟩⟩⟩⟩⟩⟩⟩⟩)
@[simp] noncomputable def r6 (s0 : SpecP) (fr : AFr) (H : AHeap) : ARes :=
  areg (@opi _ (lift (some (fr 0)) H) ⟨fun v53 H1 =>
    @opi _ (lift (some (fr 3)) H1) ⟨fun v54 H2 =>
    @opi _ (lift (some (fr 8)) H2) ⟨fun v55 H3 =>
    @opi _ (lift (abinR .x .add v54 v55) H3) ⟨fun v56 H4 =>
    @opi _ (lift (some (fr 0)) H4) ⟨fun v57 H5 =>
    @opi _ (lift (some (fr 3)) H5) ⟨fun v58 H6 =>
    @opi _ (lift (some (fr 9)) H6) ⟨fun v59 H7 =>
    @opi _ (lift (abinR .x .add v58 v59) H7) ⟨fun v60 H8 =>
    @opi _ (lift (some (fr 0)) H8) ⟨fun v61 H9 =>
    @opi _ (lift (some (fr 3)) H9) ⟨fun v62 H10 =>
    @opi _ (lift (some (fr 9)) H10) ⟨fun v63 H11 =>
    @opi _ (lift (abinR .x .add v62 v63) H11) ⟨fun v64 H12 =>
    @opi _ (lift (aindexAddrR (.sl 1) v61 v64) H12) ⟨fun v65 H13 =>
    @opi _ (lift (aloadR (some none) v65 H13) H13) ⟨fun v66 H14 =>
    @opi _ (lift (some (fr 0)) H14) ⟨fun v67 H15 =>
    @opi _ (lift (some (fr 3)) H15) ⟨fun v68 H16 =>
    @opi _ (lift (some (fr 8)) H16) ⟨fun v69 H17 =>
    @opi _ (lift (abinR .x .add v68 v69) H17) ⟨fun v70 H18 =>
    @opi _ (lift (aindexAddrR (.sl 1) v67 v70) H18) ⟨fun v71 H19 =>
    @opi _ (lift (aloadR (some none) v71 H19) H19) ⟨fun v72 H20 =>
    @opi _ (lift (aindexAddrR (.sl 1) v53 v56) H20) ⟨fun v73 H21 =>
    @opi _ (liftS (astoreR (some 1) v73 v66 H21)) ⟨fun _ H22 =>
    @opi _ (lift (aindexAddrR (.sl 1) v57 v60) H22) ⟨fun v74 H23 =>
    @opi _ (liftS (astoreR (some 1) v74 v72 H23)) ⟨fun _ H24 =>
    some (AFr.al [(0, fr 0), (2, fr 2), (3, fr 3), (9, fr 9)], H24)⟩⟩⟩⟩⟩⟩⟩⟩⟩⟩⟩⟩⟩⟩⟩⟩⟩⟩⟩⟩⟩⟩⟩⟩)
@[simp] noncomputable def r7 (s0 : SpecP) (fr : AFr) (H : AHeap) : ARes :=
  areg (@opi _ (lift (some (fr 9)) H) ⟨fun v75 H =>
    @opi _ (lift (some v75) H) ⟨fun v8 H =>
    some (AFr.al [(0, fr 0), (2, fr 2), (3, fr 3), (8, v8)], H)⟩⟩)
noncomputable def l0 (s0 : SpecP) (fr : AFr) (H : AHeap) : ARes :=
  aexit 1 (@aseqi (r1 s0 fr H) ⟨fun fr H =>
  @aseqi (@aseqi (r2 s0 fr H) ⟨fun fr H =>
  @acondi (fr 16)
    ⟨some (.exit 0, fr, H)⟩
    ⟨some (.normal, fr, H)⟩⟩) ⟨fun fr H =>
  @aseqi (@aseqi (r3 s0 fr H) ⟨fun fr H =>
  @acondi (fr 36)
    ⟨r4 s0 fr H⟩
    ⟨some (.normal, fr, H)⟩⟩) ⟨fun fr H =>
  @aseqi (@aseqi (r5 s0 fr H) ⟨fun fr H =>
  @acondi (fr 52)
    ⟨some (.ret, fr, H)⟩
    ⟨some (.normal, fr, H)⟩⟩) ⟨fun fr H =>
  @aseqi (r6 s0 fr H) ⟨fun fr H =>
  r7 s0 fr H⟩⟩⟩⟩⟩)
@[simp] noncomputable def body (s0 : SpecP) (fr : AFr) (H : AHeap) : ARes :=
  @aseqi (r0 s0 fr H) ⟨fun fr H =>
  aexit 0 (aloop (l0 s0) fr H)⟩
@[simp] def res (fr : AFr) (H : AHeap) : Option (List AV) := some []
end slices_siftDownOrdered_int
noncomputable def slices_siftDownOrdered_int (a0 a1 a2 a3 : AV) : Option AV := closeUpR (some []) (afinR slices_siftDownOrdered_int.res (slices_siftDownOrdered_int.body cmp_Less_int.spec (args0 [a0, a1, a2, a3]) AHeap.empty))
noncomputable def slices_siftDownOrdered_int.spec : List AV → Option AV
  | [a0, a1, a2, a3] => slices_siftDownOrdered_int a0 a1 a2 a3
  | _ => none

/-! slices.heapSortOrdered[int]: function 82 -/
namespace slices_heapSortOrdered_int
noncomputable def C (s0 : SpecP) : Tab := (Tab.none.add 94 (.pure false s0))
@[simp] noncomputable def r0 (s0 : SpecP) (fr : AFr) (H : AHeap) : ARes :=
  areg (@opi _ (lift (some (fr 1)) H) ⟨fun v11 H =>
    @opi _ (lift (some v11) H) ⟨fun v6 H =>
    some (AFr.al [(0, fr 0), (1, fr 1), (2, fr 2), (6, v6)], H)⟩⟩)
@[simp] noncomputable def r1 (s0 : SpecP) (fr : AFr) (H : AHeap) : ARes :=
  areg (@opi _ (lift (some (.int .i64 0)) H) ⟨fun v7 H =>
    some (AFr.al [(0, fr 0), (1, fr 1), (2, fr 2), (6, fr 6), (7, v7)], H)⟩)
@[simp] noncomputable def r2 (s0 : SpecP) (fr : AFr) (H : AHeap) : ARes :=
  areg (@opi _ (lift (some (fr 2)) H) ⟨fun v12 H =>
    @opi _ (lift (some (fr 1)) H) ⟨fun v13 H =>
    @opi _ (lift (abinR .x .sub v12 v13) H) ⟨fun v14 H =>
    @opi _ (lift (some v14) H) ⟨fun v8 H =>
    some (AFr.al [(0, fr 0), (6, fr 6), (7, fr 7), (8, v8)], H)⟩⟩⟩⟩)
@[simp] noncomputable def r3 (s0 : SpecP) (fr : AFr) (H : AHeap) : ARes :=
  areg (@opi _ (lift (some (fr 8)) H) ⟨fun v15 H =>
    @opi _ (lift (abinR .x .sub v15 (.int .i64 1)) H) ⟨fun v16 H =>
    @opi _ (lift (abinR .x .quo v16 (.int .i64 2)) H) ⟨fun v17 H =>
    @opi _ (lift (some v17) H) ⟨fun v9 H =>
    some (AFr.al [(0, fr 0), (6, fr 6), (7, fr 7), (8, fr 8), (9, v9)], H)⟩⟩⟩⟩)
@[simp] noncomputable def r4 (s0 : SpecP) (fr : AFr) (H : AHeap) : ARes :=
  areg (@opi _ (lift (some (fr 9)) H) ⟨fun v18 H =>
    @opi _ (lift (abinR .x .geq v18 (.int .i64 0)) H) ⟨fun v19 H =>
    some (AFr.al [(0, fr 0), (6, fr 6), (7, fr 7), (8, fr 8), (9, fr 9), (19, v19)], H)⟩⟩)
@[simp] noncomputable def r6 (s0 : SpecP) (fr : AFr) (H : AHeap) : ARes :=
  areg (@opi _ (lift (some (fr 0)) H) ⟨fun v22 H =>
    @opi _ (lift (some (fr 9)) H) ⟨fun v23 H =>
    @opi _ (lift (some (fr 8)) H) ⟨fun v24 H =>
    @opi _ (lift (some (fr 6)) H) ⟨fun v25 H =>
    @opi _ (callP false s0 [[some 1], [none], [none], [none]] [v22, v23, v24, v25] H) ⟨fun v26 H =>
    some (AFr.al [(0, fr 0), (6, fr 6), (7, fr 7), (8, fr 8), (9, fr 9)], H)⟩⟩⟩⟩⟩)
@[simp] noncomputable def r5 (s0 : SpecP) (fr : AFr) (H : AHeap) : ARes :=
  areg (@opi _ (lift (some (fr 9)) H) ⟨fun v20 H =>
    @opi _ (lift (abinR .x .sub v20 (.int .i64 1)) H) ⟨fun v21 H =>
    @opi _ (lift (some v21) H) ⟨fun v9 H =>
    some (AFr.al [(0, fr 0), (6, fr 6), (7, fr 7), (8, fr 8), (9, v9)], H)⟩⟩⟩)
@[simp] noncomputable def r7 (s0 : SpecP) (fr : AFr) (H : AHeap) : ARes :=
  areg (@opi _ (lift (some (fr 8)) H) ⟨fun v27 H =>
    @opi _ (lift (abinR .x .sub v27 (.int .i64 1)) H) ⟨fun v28 H =>
    @opi _ (lift (some v28) H) ⟨fun v10 H =>
    some (AFr.al [(0, fr 0), (6, fr 6), (7, fr 7), (10, v10)], H)⟩⟩⟩)
@[simp] noncomputable def r8 (s0 : SpecP) (fr : AFr) (H : AHeap) : ARes :=
  areg (@opi _ (lift (some (fr 10)) H) ⟨fun v29 H =>
    @opi _ (lift (abinR .x .geq v29 (.int .i64 0)) H) ⟨fun v30 H =>
    some (AFr.al [(0, fr 0), (6, fr 6), (7, fr 7), (10, fr 10), (30, v30)], H)⟩⟩)
@[simp] noncomputable def r10 (s0 : SpecP) (fr : AFr) (H : AHeap) : ARes :=
  areg (@opi _ (lift (some (fr 0)) H) ⟨fun v33 H1 =>
    @opi _ (lift (some (fr 6)) H1) ⟨fun v34 H2 =>
    @opi _ (lift (some (fr 0)) H2) ⟨fun v35 H3 =>
    @opi _ (lift (some (fr 6)) H3) ⟨fun v36 H4 =>
    @opi _ (lift (some (fr 10)) H4) ⟨fun v37 H5 =>
    @opi _ (lift (abinR .x .add v36 v37) H5) ⟨fun v38 H6 =>
    @opi _ (lift (some (fr 0)) H6) ⟨fun v39 H7 =>
    @opi _ (lift (some (fr 6)) H7) ⟨fun v40 H8 =>
    @opi _ (lift (some (fr 10)) H8) ⟨fun v41 H9 =>
    @opi _ (lift (abinR .x .add v40 v41) H9) ⟨fun v42 H10 =>
    @opi _ (lift (aindexAddrR (.sl 1) v39 v42) H10) ⟨fun v43 H11 =>
    @opi _ (lift (aloadR (some none) v43 H11) H11) ⟨fun v44 H12 =>
    @opi _ (lift (some (fr 0)) H12) ⟨fun v45 H13 =>
    @opi _ (lift (some (fr 6)) H13) ⟨fun v46 H14 =>
    @opi _ (lift (aindexAddrR (.sl 1) v45 v46) H14) ⟨fun v47 H15 =>
    @opi _ (lift (aloadR (some none) v47 H15) H15) ⟨fun v48 H16 =>
    @opi _ (lift (aindexAddrR (.sl 1) v33 v34) H16) ⟨fun v49 H17 =>
    @opi _ (liftS (astoreR (some 1) v49 v44 H17)) ⟨fun _ H18 =>
    @opi _ (lift (aindexAddrR (.sl 1) v35 v38) H18) ⟨fun v50 H19 =>
    @opi _ (liftS (astoreR (some 1) v50 v48 H19)) ⟨fun _ H20 =>
    some (AFr.al [(0, fr 0), (6, fr 6), (7, fr 7), (10, fr 10)], H20)⟩⟩⟩⟩⟩⟩⟩⟩⟩⟩⟩⟩⟩⟩⟩⟩⟩⟩⟩⟩)
@[simp] noncomputable def r11 (s0 : SpecP) (fr : AFr) (H : AHeap) : ARes :=
  areg (@opi _ (lift (some (fr 0)) H) ⟨fun v51 H =>
    @opi _ (lift (some (fr 7)) H) ⟨fun v52 H =>
    @opi _ (lift (some (fr 10)) H) ⟨fun v53 H =>
    @opi _ (lift (some (fr 6)) H) ⟨fun v54 H =>
    @opi _ (callP false s0 [[some 1], [none], [none], [none]] [v51, v52, v53, v54] H) ⟨fun v55 H =>
    some (AFr.al [(0, fr 0), (6, fr 6), (7, fr 7), (10, fr 10)], H)⟩⟩⟩⟩⟩)
@[simp] noncomputable def r9 (s0 : SpecP) (fr : AFr) (H : AHeap) : ARes :=
  areg (@opi _ (lift (some (fr 10)) H) ⟨fun v31 H =>
    @opi _ (lift (abinR .x .sub v31 (.int .i64 1)) H) ⟨fun v32 H =>
    @opi _ (lift (some v32) H) ⟨fun v10 H =>
    some (AFr.al [(0, fr 0), (6, fr 6), (7, fr 7), (10, v10)], H)⟩⟩⟩)
noncomputable def l0 (s0 : SpecP) (fr : AFr) (H : AHeap) : ARes :=
  @aseqi (@aseqi (r4 s0 fr H) ⟨fun fr H =>
  @acondi (fr 19)
    ⟨some (.normal, fr, H)⟩
    ⟨some (.exit 0, fr, H)⟩⟩) ⟨fun fr H =>
  @aseqi (aexit 1 (r6 s0 fr H)) ⟨fun fr H =>
  r5 s0 fr H⟩⟩
noncomputable def l1 (s0 : SpecP) (fr : AFr) (H : AHeap) : ARes :=
  @aseqi (@aseqi (r8 s0 fr H) ⟨fun fr H =>
  @acondi (fr 30)
    ⟨some (.normal, fr, H)⟩
    ⟨some (.exit 2, fr, H)⟩⟩) ⟨fun fr H =>
  @aseqi (aexit 3 (@aseqi (r10 s0 fr H) ⟨fun fr H =>
  r11 s0 fr H⟩)) ⟨fun fr H =>
  r9 s0 fr H⟩⟩
@[simp] noncomputable def body (s0 : SpecP) (fr : AFr) (H : AHeap) : ARes :=
  @aseqi (r0 s0 fr H) ⟨fun fr H =>
  @aseqi (r1 s0 fr H) ⟨fun fr H =>
  @aseqi (r2 s0 fr H) ⟨fun fr H =>
  @aseqi (@aseqi (r3 s0 fr H) ⟨fun fr H =>
  aexit 0 (aloop (l0 s0) fr H)⟩) ⟨fun fr H =>
  @aseqi (r7 s0 fr H) ⟨fun fr H =>
  aexit 2 (aloop (l1 s0) fr H)⟩⟩⟩⟩⟩
@[simp] def res (fr : AFr) (H : AHeap) : Option (List AV) := some []
end slices_heapSortOrdered_int
noncomputable def slices_heapSortOrdered_int (a0 a1 a2 : AV) : Option AV := closeUpR (some []) (afinR slices_heapSortOrdered_int.res (slices_heapSortOrdered_int.body slices_siftDownOrdered_int.spec (args0 [a0, a1, a2]) AHeap.empty))
noncomputable def slices_heapSortOrdered_int.spec : List AV → Option AV
  | [a0, a1, a2] => slices_heapSortOrdered_int a0 a1 a2
  | _ => none

/-! slices.nextPowerOfTwo: function 95 -/
namespace slices_nextPowerOfTwo
noncomputable def C (s0 : SpecP) : Tab := (Tab.none.add 76 (.pure false s0))
@[simp] noncomputable def r0 (s0 : SpecP) (fr : AFr) (H : AHeap) : ARes :=
  areg (@opi _ (lift (some (W64 0#64)) H) ⟨fun v2 H =>
    some (AFr.al [(0, fr 0)], H)⟩)
@[simp] noncomputable def r1 (s0 : SpecP) (fr : AFr) (H : AHeap) : ARes :=
  areg (@opi _ (lift (some (fr 0)) H) ⟨fun v3 H =>
    @opi _ (lift (aconvR (some .u64) v3) H) ⟨fun v4 H =>
    @opi _ (callP false s0 [[none]] [v4] H) ⟨fun v5 H =>
    @opi _ (lift (abinR .x .shl (W64 1#64) v5) H) ⟨fun v6 H =>
    @opi _ (lift (some v6) H) ⟨fun v2 H =>
    some (AFr.al [(2, v2)], H)⟩⟩⟩⟩⟩)
@[simp] noncomputable def body (s0 : SpecP) (fr : AFr) (H : AHeap) : ARes :=
  @aseqi (r0 s0 fr H) ⟨fun fr H =>
  @aseqi (r1 s0 fr H) ⟨fun fr H =>
  some (.ret, fr, H)⟩⟩
@[simp] def res (fr : AFr) (H : AHeap) : Option (List AV) := res2 (some (fr 2)) (some [])
end slices_nextPowerOfTwo
noncomputable def slices_nextPowerOfTwo (a0 : AV) : Option AV := closeUpR (some [[none]]) (afinR slices_nextPowerOfTwo.res (slices_nextPowerOfTwo.body math_bits_Len.spec (args0 [a0]) AHeap.empty))
noncomputable def slices_nextPowerOfTwo.spec : List AV → Option AV
  | [a0] => slices_nextPowerOfTwo a0
  | _ => none

/-! (*slices.xorshift).Next: function 96 -/
namespace slices_xorshift_Next
noncomputable def C : Tab := Tab.none
@[simp] noncomputable def r0 (fr : AFr) (H : AHeap) : ARes :=
  areg (@opi _ (lift (some (W64 0#64)) H) ⟨fun v2 H =>
    some (AFr.al [(0, fr 0)], H)⟩)
@[simp] noncomputable def r1 (fr : AFr) (H : AHeap) : ARes :=
  areg (@opi _ (lift (some (fr 0)) H) ⟨fun v3 H1 =>
    @opi _ (lift (anil v3) H1) ⟨fun v4 H2 =>
    @opi _ (lift (aloadR (some none) v4 H2) H2) ⟨fun v5 H3 =>
    @opi _ (lift (some (fr 0)) H3) ⟨fun v6 H4 =>
    @opi _ (lift (anil v6) H4) ⟨fun v7 H5 =>
    @opi _ (lift (aloadR (some none) v7 H5) H5) ⟨fun v8 H6 =>
    @opi _ (lift (abinR .x .shl v8 (W64 13#64)) H6) ⟨fun v9 H7 =>
    @opi _ (lift (abinR .x .xor v5 v9) H7) ⟨fun v10 H8 =>
    @opi _ (lift (anil v3) H8) ⟨fun v11 H9 =>
    @opi _ (liftS (astoreR (some 1) v11 v10 H9)) ⟨fun _ H10 =>
    some (AFr.al [(0, fr 0)], H10)⟩⟩⟩⟩⟩⟩⟩⟩⟩⟩)
@[simp] noncomputable def r2 (fr : AFr) (H : AHeap) : ARes :=
  areg (@opi _ (lift (some (fr 0)) H) ⟨fun v12 H1 =>
    @opi _ (lift (anil v12) H1) ⟨fun v13 H2 =>
    @opi _ (lift (aloadR (some none) v13 H2) H2) ⟨fun v14 H3 =>
    @opi _ (lift (some (fr 0)) H3) ⟨fun v15 H4 =>
    @opi _ (lift (anil v15) H4) ⟨fun v16 H5 =>
    @opi _ (lift (aloadR (some none) v16 H5) H5) ⟨fun v17 H6 =>
    @opi _ (lift (abinR .x .shr v17 (W64 7#64)) H6) ⟨fun v18 H7 =>
    @opi _ (lift (abinR .x .xor v14 v18) H7) ⟨fun v19 H8 =>
    @opi _ (lift (anil v12) H8) ⟨fun v20 H9 =>
    @opi _ (liftS (astoreR (some 1) v20 v19 H9)) ⟨fun _ H10 =>
    some (AFr.al [(0, fr 0)], H10)⟩⟩⟩⟩⟩⟩⟩⟩⟩⟩)
@[simp] noncomputable def r3 (fr : AFr) (H : AHeap) : ARes :=
  areg (@opi _ (lift (some (fr 0)) H) ⟨fun v21 H1 =>
    @opi _ (lift (anil v21) H1) ⟨fun v22 H2 =>
    @opi _ (lift (aloadR (some none) v22 H2) H2) ⟨fun v23 H3 =>
    @opi _ (lift (some (fr 0)) H3) ⟨fun v24 H4 =>
    @opi _ (lift (anil v24) H4) ⟨fun v25 H5 =>
    @opi _ (lift (aloadR (some none) v25 H5) H5) ⟨fun v26 H6 =>
    @opi _ (lift (abinR .x .shl v26 (W64 17#64)) H6) ⟨fun v27 H7 =>
    @opi _ (lift (abinR .x .xor v23 v27) H7) ⟨fun v28 H8 =>
    @opi _ (lift (anil v21) H8) ⟨fun v29 H9 =>
    @opi _ (liftS (astoreR (some 1) v29 v28 H9)) ⟨fun _ H10 =>
    some (AFr.al [(0, fr 0)], H10)⟩⟩⟩⟩⟩⟩⟩⟩⟩⟩)
@[simp] noncomputable def r4 (fr : AFr) (H : AHeap) : ARes :=
  areg (@opi _ (lift (some (fr 0)) H) ⟨fun v30 H =>
    @opi _ (lift (anil v30) H) ⟨fun v31 H =>
    @opi _ (lift (aloadR (some none) v31 H) H) ⟨fun v32 H =>
    @opi _ (lift (some v32) H) ⟨fun v2 H =>
    some (AFr.al [(2, v2)], H)⟩⟩⟩⟩)
@[simp] noncomputable def body (fr : AFr) (H : AHeap) : ARes :=
  @aseqi (r0 fr H) ⟨fun fr H =>
  @aseqi (r1 fr H) ⟨fun fr H =>
  @aseqi (r2 fr H) ⟨fun fr H =>
  @aseqi (r3 fr H) ⟨fun fr H =>
  @aseqi (r4 fr H) ⟨fun fr H =>
  some (.ret, fr, H)⟩⟩⟩⟩⟩
@[simp] def res (fr : AFr) (H : AHeap) : Option (List AV) := res2 (some (fr 2)) (some [])
end slices_xorshift_Next
noncomputable def slices_xorshift_Next (a0 : AV) (H : AHeap) : Option (AV × AHeap) := forget H (afinR slices_xorshift_Next.res (slices_xorshift_Next.body (args0 [a0]) H))
noncomputable def slices_xorshift_Next.spec : List AV → AHeap → Option (AV × AHeap)
  | [a0], H => slices_xorshift_Next a0 H
  | _, _ => none

/-! slices.breakPatternsOrdered[int]: function 83 -/
namespace slices_breakPatternsOrdered_int
noncomputable def C (s0 : SpecP) (s1 : SpecM) : Tab := ((Tab.none.add 95 (.pure false s0)).add 96 (.ref [false] s1))
@[simp] noncomputable def r0 (s0 : SpecP) (s1 : SpecM) (fr : AFr) (H : AHeap) : ARes :=
  areg (@opi _ (lift (some (fr 2)) H) ⟨fun v11 H =>
    @opi _ (lift (some (fr 1)) H) ⟨fun v12 H =>
    @opi _ (lift (abinR .x .sub v11 v12) H) ⟨fun v13 H =>
    @opi _ (lift (some v13) H) ⟨fun v6 H =>
    some (AFr.al [(0, fr 0), (1, fr 1), (6, v6)], H)⟩⟩⟩⟩)
@[simp] noncomputable def r1 (s0 : SpecP) (s1 : SpecM) (fr : AFr) (H : AHeap) : ARes :=
  areg (@opi _ (lift (some (fr 6)) H) ⟨fun v14 H =>
    @opi _ (lift (abinR .x .geq v14 (.int .i64 8)) H) ⟨fun v15 H =>
    some (AFr.al [(0, fr 0), (1, fr 1), (6, fr 6), (15, v15)], H)⟩⟩)
@[simp] noncomputable def r2 (s0 : SpecP) (s1 : SpecM) (fr : AFr) (H : AHeap) : ARes :=
  areg (@opi _ (lift (some (fr 6)) H) ⟨fun v16 H =>
    @opi _ (lift (aconvR (some .u64) v16) H) ⟨fun v17 H =>
    @opi _ (aallocR T.ty_slices_xorshift (some (W64 0#64)) H) ⟨fun v7 H =>
    @opi _ (liftS (astoreR (some 1) v7 v17 H)) ⟨fun _ H =>
    some (AFr.al [(0, fr 0), (1, fr 1), (6, fr 6), (7, v7)], H)⟩⟩⟩⟩)
@[simp] noncomputable def r3 (s0 : SpecP) (s1 : SpecM) (fr : AFr) (H : AHeap) : ARes :=
  areg (@opi _ (lift (some (fr 6)) H) ⟨fun v18 H =>
    @opi _ (callP false s0 [[none]] [v18] H) ⟨fun v19 H =>
    @opi _ (lift (some v19) H) ⟨fun v8 H =>
    some (AFr.al [(0, fr 0), (1, fr 1), (6, fr 6), (7, fr 7), (8, v8)], H)⟩⟩⟩)
@[simp] noncomputable def r4 (s0 : SpecP) (s1 : SpecM) (fr : AFr) (H : AHeap) : ARes :=
  areg (@opi _ (lift (some (fr 1)) H) ⟨fun v20 H =>
    @opi _ (lift (some (fr 6)) H) ⟨fun v21 H =>
    @opi _ (lift (abinR .x .quo v21 (.int .i64 4)) H) ⟨fun v22 H =>
    @opi _ (lift (abinR .x .mul v22 (.int .i64 2)) H) ⟨fun v23 H =>
    @opi _ (lift (abinR .x .add v20 v23) H) ⟨fun v24 H =>
    @opi _ (lift (abinR .x .sub v24 (.int .i64 1)) H) ⟨fun v25 H =>
    @opi _ (lift (some v25) H) ⟨fun v9 H =>
    some (AFr.al [(0, fr 0), (1, fr 1), (6, fr 6), (7, fr 7), (8, fr 8), (9, v9)], H)⟩⟩⟩⟩⟩⟩⟩)
@[simp] noncomputable def r5 (s0 : SpecP) (s1 : SpecM) (fr : AFr) (H : AHeap) : ARes :=
  areg (@opi _ (lift (some (fr 9)) H) ⟨fun v26 H =>
    @opi _ (lift (some (fr 1)) H) ⟨fun v27 H =>
    @opi _ (lift (some (fr 6)) H) ⟨fun v28 H =>
    @opi _ (lift (abinR .x .quo v28 (.int .i64 4)) H) ⟨fun v29 H =>
    @opi _ (lift (abinR .x .mul v29 (.int .i64 2)) H) ⟨fun v30 H =>
    @opi _ (lift (abinR .x .add v27 v30) H) ⟨fun v31 H =>
    @opi _ (lift (abinR .x .add v31 (.int .i64 1)) H) ⟨fun v32 H =>
    @opi _ (lift (abinR .x .leq v26 v32) H) ⟨fun v33 H =>
    some (AFr.al [(0, fr 0), (1, fr 1), (6, fr 6), (7, fr 7), (8, fr 8), (9, fr 9), (33, v33)], H)⟩⟩⟩⟩⟩⟩⟩⟩)
@[simp] noncomputable def r7 (s0 : SpecP) (s1 : SpecM) (fr : AFr) (H : AHeap) : ARes :=
  areg (@opi _ (callM [false] s1 [[none]] [(fr 7)] H) ⟨fun v36 H =>
    @opi _ (lift (some (fr 8)) H) ⟨fun v37 H =>
    @opi _ (lift (abinR .x .sub v37 (W64 1#64)) H) ⟨fun v38 H =>
    @opi _ (lift (abinR .x .and v36 v38) H) ⟨fun v39 H =>
    @opi _ (lift (aconvR (some .i64) v39) H) ⟨fun v40 H =>
    @opi _ (lift (some v40) H) ⟨fun v10 H =>
    some (AFr.al [(0, fr 0), (1, fr 1), (6, fr 6), (7, fr 7), (8, fr 8), (9, fr 9), (10, v10)], H)⟩⟩⟩⟩⟩⟩)
@[simp] noncomputable def r8 (s0 : SpecP) (s1 : SpecM) (fr : AFr) (H : AHeap) : ARes :=
  areg (@opi _ (lift (some (fr 10)) H) ⟨fun v41 H =>
    @opi _ (lift (some (fr 6)) H) ⟨fun v42 H =>
    @opi _ (lift (abinR .x .geq v41 v42) H) ⟨fun v43 H =>
    some (AFr.al [(0, fr 0), (1, fr 1), (6, fr 6), (7, fr 7), (8, fr 8), (9, fr 9), (10, fr 10), (43, v43)], H)⟩⟩⟩)
@[simp] noncomputable def r9 (s0 : SpecP) (s1 : SpecM) (fr : AFr) (H : AHeap) : ARes :=
  areg (@opi _ (lift (some (fr 10)) H) ⟨fun v44 H =>
    @opi _ (lift (some (fr 6)) H) ⟨fun v45 H =>
    @opi _ (lift (abinR .x .sub v44 v45) H) ⟨fun v46 H =>
    @opi _ (lift (some v46) H) ⟨fun v10 H =>
    some (AFr.al [(0, fr 0), (1, fr 1), (6, fr 6), (7, fr 7), (8, fr 8), (9, fr 9), (10, v10)], H)⟩⟩⟩⟩)
@[simp] noncomputable def r10 (s0 : SpecP) (s1 : SpecM) (fr : AFr) (H : AHeap) : ARes :=
  areg (@opi _ (lift (some (fr 0)) H) ⟨fun v47 H1 =>
    @opi _ (lift (some (fr 9)) H1) ⟨fun v48 H2 =>
    @opi _ (lift (some (fr 0)) H2) ⟨fun v49 H3 =>
    @opi _ (lift (some (fr 1)) H3) ⟨fun v50 H4 =>
    @opi _ (lift (some (fr 10)) H4) ⟨fun v51 H5 =>
    @opi _ (lift (abinR .x .add v50 v51) H5) ⟨fun v52 H6 =>
    @opi _ (lift (some (fr 0)) H6) ⟨fun v53 H7 =>
    @opi _ (lift (some (fr 1)) H7) ⟨fun v54 H8 =>
    @opi _ (lift (some (fr 10)) H8) ⟨fun v55 H9 =>
    @opi _ (lift (abinR .x .add v54 v55) H9) ⟨fun v56 H10 =>
    @opi _ (lift (aindexAddrR (.sl 1) v53 v56) H10) ⟨fun v57 H11 =>
    @opi _ (lift (aloadR (some none) v57 H11) H11) ⟨fun v58 H12 =>
    @opi _ (lift (some (fr 0)) H12) ⟨fun v59 H13 =>
    @opi _ (lift (some (fr 9)) H13) ⟨fun v60 H14 =>
    @opi _ (lift (aindexAddrR (.sl 1) v59 v60) H14) ⟨fun v61 H15 =>
    @opi _ (lift (aloadR (some none) v61 H15) H15) ⟨fun v62 H16 =>
    @opi _ (lift (aindexAddrR (.sl 1) v47 v48) H16) ⟨fun v63 H17 =>
    @opi _ (liftS (astoreR (some 1) v63 v58 H17)) ⟨fun _ H18 =>
    @opi _ (lift (aindexAddrR (.sl 1) v49 v52) H18) ⟨fun v64 H19 =>
    @opi _ (liftS (astoreR (some 1) v64 v62 H19)) ⟨fun _ H20 =>
    some (AFr.al [(0, fr 0), (1, fr 1), (6, fr 6), (7, fr 7), (8, fr 8), (9, fr 9)], H20)⟩⟩⟩⟩⟩⟩⟩⟩⟩⟩⟩⟩⟩⟩⟩⟩⟩⟩⟩⟩)
@[simp] noncomputable def r6 (s0 : SpecP) (s1 : SpecM) (fr : AFr) (H : AHeap) : ARes :=
  areg (@opi _ (lift (some (fr 9)) H) ⟨fun v34 H =>
    @opi _ (lift (abinR .x .add v34 (.int .i64 1)) H) ⟨fun v35 H =>
    @opi _ (lift (some v35) H) ⟨fun v9 H =>
    some (AFr.al [(0, fr 0), (1, fr 1), (6, fr 6), (7, fr 7), (8, fr 8), (9, v9)], H)⟩⟩⟩)
noncomputable def l0 (s0 : SpecP) (s1 : SpecM) (fr : AFr) (H : AHeap) : ARes :=
  @aseqi (@aseqi (r5 s0 s1 fr H) ⟨fun fr H =>
  @acondi (fr 33)
    ⟨some (.normal, fr, H)⟩
    ⟨some (.exit 0, fr, H)⟩⟩) ⟨fun fr H =>
  @aseqi (aexit 1 (@aseqi (r7 s0 s1 fr H) ⟨fun fr H =>
  @aseqi (@aseqi (r8 s0 s1 fr H) ⟨fun fr H =>
  @acondi (fr 43)
    ⟨r9 s0 s1 fr H⟩
    ⟨some (.normal, fr, H)⟩⟩) ⟨fun fr H =>
  r10 s0 s1 fr H⟩⟩)) ⟨fun fr H =>
  r6 s0 s1 fr H⟩⟩
@[simp] noncomputable def body (s0 : SpecP) (s1 : SpecM) (fr : AFr) (H : AHeap) : ARes :=
  @aseqi (r0 s0 s1 fr H) ⟨fun fr H =>
  @aseqi (r1 s0 s1 fr H) ⟨fun fr H =>
  @acondi (fr 15)
    ⟨@aseqi (r2 s0 s1 fr H) ⟨fun fr H =>
    @aseqi (r3 s0 s1 fr H) ⟨fun fr H =>
    @aseqi (r4 s0 s1 fr H) ⟨fun fr H =>
    aexit 0 (aloop (l0 s0 s1) fr H)⟩⟩⟩⟩
    ⟨some (.normal, fr, H)⟩⟩⟩
@[simp] def res (fr : AFr) (H : AHeap) : Option (List AV) := some []
end slices_breakPatternsOrdered_int
noncomputable def slices_breakPatternsOrdered_int (a0 a1 a2 : AV) : Option AV := closeUpR (some []) (afinR slices_breakPatternsOrdered_int.res (slices_breakPatternsOrdered_int.body slices_nextPowerOfTwo.spec slices_xorshift_Next.spec (args0 [a0, a1, a2]) AHeap.empty))
noncomputable def slices_breakPatternsOrdered_int.spec : List AV → Option AV
  | [a0, a1, a2] => slices_breakPatternsOrdered_int a0 a1 a2
  | _ => none

/-! slices.order2Ordered[int]: function 100 -/
namespace slices_order2Ordered_int
noncomputable def C (s0 : SpecP) : Tab := (Tab.none.add 87 (.pure false s0))
@[simp] noncomputable def r0 (s0 : SpecP) (fr : AFr) (H : AHeap) : ARes :=
  areg (@opi _ (lift (some (.int .i64 0)) H) ⟨fun v8 H =>
    @opi _ (lift (some (.int .i64 0)) H) ⟨fun v9 H =>
    some (AFr.al [(0, fr 0), (1, fr 1), (2, fr 2), (3, fr 3)], H)⟩⟩)
@[simp] noncomputable def r1 (s0 : SpecP) (fr : AFr) (H : AHeap) : ARes :=
  areg (@opi _ (lift (some (fr 0)) H) ⟨fun v10 H1 =>
    @opi _ (lift (some (fr 2)) H1) ⟨fun v11 H2 =>
    @opi _ (lift (aindexAddrR (.sl 1) v10 v11) H2) ⟨fun v12 H3 =>
    @opi _ (lift (aloadR (some none) v12 H3) H3) ⟨fun v13 H4 =>
    @opi _ (lift (some (fr 0)) H4) ⟨fun v14 H5 =>
    @opi _ (lift (some (fr 1)) H5) ⟨fun v15 H6 =>
    @opi _ (lift (aindexAddrR (.sl 1) v14 v15) H6) ⟨fun v16 H7 =>
    @opi _ (lift (aloadR (some none) v16 H7) H7) ⟨fun v17 H8 =>
    @opi _ (callP false s0 [[none], [none]] [v13, v17] H8) ⟨fun v18 H9 =>
    some (AFr.al [(1, fr 1), (2, fr 2), (3, fr 3), (18, v18)], H9)⟩⟩⟩⟩⟩⟩⟩⟩⟩)
@[simp] noncomputable def r2 (s0 : SpecP) (fr : AFr) (H : AHeap) : ARes :=
  areg (@opi _ (lift (some (fr 3)) H) ⟨fun v19 H =>
    @opi _ (lift (anil v19) H) ⟨fun v20 H =>
    @opi _ (lift (aloadR (some none) v20 H) H) ⟨fun v21 H =>
    @opi _ (lift (abinR .x .add v21 (.int .i64 1)) H) ⟨fun v22 H =>
    @opi _ (lift (anil v19) H) ⟨fun v23 H =>
    @opi _ (liftS (astoreR (some 1) v23 v22 H)) ⟨fun _ H =>
    some (AFr.al [(1, fr 1), (2, fr 2)], H)⟩⟩⟩⟩⟩⟩)
@[simp] noncomputable def r3 (s0 : SpecP) (fr : AFr) (H : AHeap) : ARes :=
  areg (@opi _ (lift (some (fr 2)) H) ⟨fun v24 H =>
    @opi _ (lift (some (fr 1)) H) ⟨fun v25 H =>
    @opi _ (lift (some v24) H) ⟨fun v8 H =>
    @opi _ (lift (some v25) H) ⟨fun v9 H =>
    some (AFr.al [(8, v8), (9, v9)], H)⟩⟩⟩⟩)
@[simp] noncomputable def r4 (s0 : SpecP) (fr : AFr) (H : AHeap) : ARes :=
  areg (@opi _ (lift (some (fr 1)) H) ⟨fun v26 H =>
    @opi _ (lift (some (fr 2)) H) ⟨fun v27 H =>
    @opi _ (lift (some v26) H) ⟨fun v8 H =>
    @opi _ (lift (some v27) H) ⟨fun v9 H =>
    some (AFr.al [(8, v8), (9, v9)], H)⟩⟩⟩⟩)
@[simp] noncomputable def body (s0 : SpecP) (fr : AFr) (H : AHeap) : ARes :=
  @aseqi (r0 s0 fr H) ⟨fun fr H =>
  @aseqi (@aseqi (r1 s0 fr H) ⟨fun fr H =>
  @acondi (fr 18)
    ⟨@aseqi (r2 s0 fr H) ⟨fun fr H =>
    @aseqi (r3 s0 fr H) ⟨fun fr H =>
    some (.ret, fr, H)⟩⟩⟩
    ⟨some (.normal, fr, H)⟩⟩) ⟨fun fr H =>
  @aseqi (r4 s0 fr H) ⟨fun fr H =>
  some (.ret, fr, H)⟩⟩⟩
@[simp] def res (fr : AFr) (H : AHeap) : Option (List AV) := res2 (some (fr 8)) (res2 (some (fr 9)) (some []))
end slices_order2Ordered_int
noncomputable def slices_order2Ordered_int (a0 a1 a2 a3 : AV) (H : AHeap) : Option (AV × AHeap) := forget H (afinR slices_order2Ordered_int.res (slices_order2Ordered_int.body cmp_Less_int.spec (args0 [a0, a1, a2, a3]) H))
noncomputable def slices_order2Ordered_int.spec : List AV → AHeap → Option (AV × AHeap)
  | [a0, a1, a2, a3], H => slices_order2Ordered_int a0 a1 a2 a3 H
  | _, _ => none

/-! slices.medianOrdered[int]: function 98 -/
namespace slices_medianOrdered_int
noncomputable def C (s0 : SpecM) : Tab := (Tab.none.add 100 (.ref [true, false, false, false] s0))
@[simp] noncomputable def r0 (s0 : SpecM) (fr : AFr) (H : AHeap) : ARes :=
  areg (@opi _ (lift (some (.int .i64 0)) H) ⟨fun v10 H =>
    some (AFr.al [(0, fr 0), (1, fr 1), (2, fr 2), (3, fr 3), (4, fr 4)], H)⟩)
@[simp] noncomputable def r1 (s0 : SpecM) (fr : AFr) (H : AHeap) : ARes :=
  areg (@opi _ (lift (some (fr 0)) H) ⟨fun v12 H =>
    @opi _ (lift (some (fr 1)) H) ⟨fun v13 H =>
    @opi _ (lift (some (fr 2)) H) ⟨fun v14 H =>
    @opi _ (lift (some (fr 4)) H) ⟨fun v15 H =>
    @opi _ (callM [true, false, false, false] s0 [[some 1], [none], [none], [none]] [v12, v13, v14, v15] H) ⟨fun v16 H =>
    @opi _ (lift (some v16) H) ⟨fun v11 H =>
    @opi _ (lift (aextract v11 0) H) ⟨fun v17 H =>
    @opi _ (lift (aextract v11 1) H) ⟨fun v18 H =>
    @opi _ (lift (some v17) H) ⟨fun v1 H =>
    @opi _ (lift (some v18) H) ⟨fun v2 H =>
    some (AFr.al [(0, fr 0), (1, v1), (2, v2), (3, fr 3), (4, fr 4)], H)⟩⟩⟩⟩⟩⟩⟩⟩⟩⟩)
@[simp] noncomputable def r2 (s0 : SpecM) (fr : AFr) (H : AHeap) : ARes :=
  areg (@opi _ (lift (some (fr 0)) H) ⟨fun v20 H =>
    @opi _ (lift (some (fr 2)) H) ⟨fun v21 H =>
    @opi _ (lift (some (fr 3)) H) ⟨fun v22 H =>
    @opi _ (lift (some (fr 4)) H) ⟨fun v23 H =>
    @opi _ (callM [true, false, false, false] s0 [[some 1], [none], [none], [none]] [v20, v21, v22, v23] H) ⟨fun v24 H =>
    @opi _ (lift (some v24) H) ⟨fun v19 H =>
    @opi _ (lift (aextract v19 0) H) ⟨fun v25 H =>
    @opi _ (lift (aextract v19 1) H) ⟨fun v26 H =>
    @opi _ (lift (some v25) H) ⟨fun v2 H =>
    @opi _ (lift (some v26) H) ⟨fun v3 H =>
    some (AFr.al [(0, fr 0), (1, fr 1), (2, v2), (4, fr 4)], H)⟩⟩⟩⟩⟩⟩⟩⟩⟩⟩)
@[simp] noncomputable def r3 (s0 : SpecM) (fr : AFr) (H : AHeap) : ARes :=
  areg (@opi _ (lift (some (fr 0)) H) ⟨fun v28 H =>
    @opi _ (lift (some (fr 1)) H) ⟨fun v29 H =>
    @opi _ (lift (some (fr 2)) H) ⟨fun v30 H =>
    @opi _ (lift (some (fr 4)) H) ⟨fun v31 H =>
    @opi _ (callM [true, false, false, false] s0 [[some 1], [none], [none], [none]] [v28, v29, v30, v31] H) ⟨fun v32 H =>
    @opi _ (lift (some v32) H) ⟨fun v27 H =>
    @opi _ (lift (aextract v27 0) H) ⟨fun v33 H =>
    @opi _ (lift (aextract v27 1) H) ⟨fun v34 H =>
    @opi _ (lift (some v33) H) ⟨fun v1 H =>
    @opi _ (lift (some v34) H) ⟨fun v2 H =>
    some (AFr.al [(2, v2)], H)⟩⟩⟩⟩⟩⟩⟩⟩⟩⟩)
@[simp] noncomputable def r4 (s0 : SpecM) (fr : AFr) (H : AHeap) : ARes :=
  areg (@opi _ (lift (some (fr 2)) H) ⟨fun v35 H =>
    @opi _ (lift (some v35) H) ⟨fun v10 H =>
    some (AFr.al [(10, v10)], H)⟩⟩)
@[simp] noncomputable def body (s0 : SpecM) (fr : AFr) (H : AHeap) : ARes :=
  @aseqi (r0 s0 fr H) ⟨fun fr H =>
  @aseqi (r1 s0 fr H) ⟨fun fr H =>
  @aseqi (r2 s0 fr H) ⟨fun fr H =>
  @aseqi (r3 s0 fr H) ⟨fun fr H =>
  @aseqi (r4 s0 fr H) ⟨fun fr H =>
  some (.ret, fr, H)⟩⟩⟩⟩⟩
@[simp] def res (fr : AFr) (H : AHeap) : Option (List AV) := res2 (some (fr 10)) (some [])
end slices_medianOrdered_int
noncomputable def slices_medianOrdered_int (a0 a1 a2 a3 a4 : AV) (H : AHeap) : Option (AV × AHeap) := forget H (afinR slices_medianOrdered_int.res (slices_medianOrdered_int.body slices_order2Ordered_int.spec (args0 [a0, a1, a2, a3, a4]) H))
noncomputable def slices_medianOrdered_int.spec : List AV → AHeap → Option (AV × AHeap)
  | [a0, a1, a2, a3, a4], H => slices_medianOrdered_int a0 a1 a2 a3 a4 H
  | _, _ => none

/-! slices.medianAdjacentOrdered[int]: function 97 -/
namespace slices_medianAdjacentOrdered_int
noncomputable def C (s0 : SpecM) : Tab := (Tab.none.add 98 (.ref [true, false, false, false, false] s0))
@[simp] noncomputable def r0 (s0 : SpecM) (fr : AFr) (H : AHeap) : ARes :=
  areg (@opi _ (lift (some (.int .i64 0)) H) ⟨fun v6 H =>
    some (AFr.al [(0, fr 0), (1, fr 1), (2, fr 2)], H)⟩)
@[simp] noncomputable def r1 (s0 : SpecM) (fr : AFr) (H : AHeap) : ARes :=
  areg (@opi _ (lift (some (fr 0)) H) ⟨fun v7 H =>
    @opi _ (lift (some (fr 1)) H) ⟨fun v8 H =>
    @opi _ (lift (abinR .x .sub v8 (.int .i64 1)) H) ⟨fun v9 H =>
    @opi _ (lift (some (fr 1)) H) ⟨fun v10 H =>
    @opi _ (lift (some (fr 1)) H) ⟨fun v11 H =>
    @opi _ (lift (abinR .x .add v11 (.int .i64 1)) H) ⟨fun v12 H =>
    @opi _ (lift (some (fr 2)) H) ⟨fun v13 H =>
    @opi _ (callM [true, false, false, false, false] s0 [[some 1], [none], [none], [none], [none]] [v7, v9, v10, v12, v13] H) ⟨fun v14 H =>
    @opi _ (lift (some v14) H) ⟨fun v6 H =>
    some (AFr.al [(6, v6)], H)⟩⟩⟩⟩⟩⟩⟩⟩⟩)
@[simp] noncomputable def body (s0 : SpecM) (fr : AFr) (H : AHeap) : ARes :=
  @aseqi (r0 s0 fr H) ⟨fun fr H =>
  @aseqi (r1 s0 fr H) ⟨fun fr H =>
  some (.ret, fr, H)⟩⟩
@[simp] def res (fr : AFr) (H : AHeap) : Option (List AV) := res2 (some (fr 6)) (some [])
end slices_medianAdjacentOrdered_int
noncomputable def slices_medianAdjacentOrdered_int (a0 a1 a2 : AV) (H : AHeap) : Option (AV × AHeap) := forget H (afinR slices_medianAdjacentOrdered_int.res (slices_medianAdjacentOrdered_int.body slices_medianOrdered_int.spec (args0 [a0, a1, a2]) H))
noncomputable def slices_medianAdjacentOrdered_int.spec : List AV → AHeap → Option (AV × AHeap)
  | [a0, a1, a2], H => slices_medianAdjacentOrdered_int a0 a1 a2 H
  | _, _ => none

/-! slices.choosePivotOrdered[int]: function 84 -/
namespace slices_choosePivotOrdered_int
noncomputable def C (s0 : SpecM) (s1 : SpecM) : Tab := ((Tab.none.add 97 (.ref [true, false, false] s0)).add 98 (.ref [true, false, false, false, false] s1))
@[simp] noncomputable def r0 (s0 : SpecM) (s1 : SpecM) (fr : AFr) (H : AHeap) : ARes :=
  areg (@opi _ (lift (some (.int .i64 0)) H) ⟨fun v6 H =>
    @opi _ (lift (some (.int .i64 0)) H) ⟨fun v7 H =>
    some (AFr.al [(0, fr 0), (1, fr 1), (2, fr 2)], H)⟩⟩)
@[simp] noncomputable def r1 (s0 : SpecM) (s1 : SpecM) (fr : AFr) (H : AHeap) : ARes :=
  areg (@opi _ (lift (some (fr 2)) H) ⟨fun v13 H =>
    @opi _ (lift (some (fr 1)) H) ⟨fun v14 H =>
    @opi _ (lift (abinR .x .sub v13 v14) H) ⟨fun v15 H =>
    @opi _ (lift (some v15) H) ⟨fun v8 H =>
    some (AFr.al [(0, fr 0), (1, fr 1), (8, v8)], H)⟩⟩⟩⟩)
@[simp] noncomputable def r2 (s0 : SpecM) (s1 : SpecM) (fr : AFr) (H : AHeap) : ARes :=
  areg (@opi _ (aallocR T.ty_int (some (.int .i64 0)) H) ⟨fun v9 H =>
    some (AFr.al [(0, fr 0), (1, fr 1), (8, fr 8), (9, v9)], H)⟩)
@[simp] noncomputable def r3 (s0 : SpecM) (s1 : SpecM) (fr : AFr) (H : AHeap) : ARes :=
  areg (@opi _ (lift (some (fr 1)) H) ⟨fun v16 H =>
    @opi _ (lift (some (fr 8)) H) ⟨fun v17 H =>
    @opi _ (lift (abinR .x .quo v17 (.int .i64 4)) H) ⟨fun v18 H =>
    @opi _ (lift (abinR .x .mul v18 (.int .i64 1)) H) ⟨fun v19 H =>
    @opi _ (lift (abinR .x .add v16 v19) H) ⟨fun v20 H =>
    @opi _ (lift (some v20) H) ⟨fun v10 H =>
    some (AFr.al [(0, fr 0), (1, fr 1), (8, fr 8), (9, fr 9), (10, v10)], H)⟩⟩⟩⟩⟩⟩)
@[simp] noncomputable def r4 (s0 : SpecM) (s1 : SpecM) (fr : AFr) (H : AHeap) : ARes :=
  areg (@opi _ (lift (some (fr 1)) H) ⟨fun v21 H =>
    @opi _ (lift (some (fr 8)) H) ⟨fun v22 H =>
    @opi _ (lift (abinR .x .quo v22 (.int .i64 4)) H) ⟨fun v23 H =>
    @opi _ (lift (abinR .x .mul v23 (.int .i64 2)) H) ⟨fun v24 H =>
    @opi _ (lift (abinR .x .add v21 v24) H) ⟨fun v25 H =>
    @opi _ (lift (some v25) H) ⟨fun v11 H =>
    some (AFr.al [(0, fr 0), (1, fr 1), (8, fr 8), (9, fr 9), (10, fr 10), (11, v11)], H)⟩⟩⟩⟩⟩⟩)
@[simp] noncomputable def r5 (s0 : SpecM) (s1 : SpecM) (fr : AFr) (H : AHeap) : ARes :=
  areg (@opi _ (lift (some (fr 1)) H) ⟨fun v26 H =>
    @opi _ (lift (some (fr 8)) H) ⟨fun v27 H =>
    @opi _ (lift (abinR .x .quo v27 (.int .i64 4)) H) ⟨fun v28 H =>
    @opi _ (lift (abinR .x .mul v28 (.int .i64 3)) H) ⟨fun v29 H =>
    @opi _ (lift (abinR .x .add v26 v29) H) ⟨fun v30 H =>
    @opi _ (lift (some v30) H) ⟨fun v12 H =>
    some (AFr.al [(0, fr 0), (8, fr 8), (9, fr 9), (10, fr 10), (11, fr 11), (12, v12)], H)⟩⟩⟩⟩⟩⟩)
@[simp] noncomputable def r6 (s0 : SpecM) (s1 : SpecM) (fr : AFr) (H : AHeap) : ARes :=
  areg (@opi _ (lift (some (fr 8)) H) ⟨fun v31 H =>
    @opi _ (lift (abinR .x .geq v31 (.int .i64 8)) H) ⟨fun v32 H =>
    some (AFr.al [(0, fr 0), (8, fr 8), (9, fr 9), (10, fr 10), (11, fr 11), (12, fr 12), (32, v32)], H)⟩⟩)
@[simp] noncomputable def r7 (s0 : SpecM) (s1 : SpecM) (fr : AFr) (H : AHeap) : ARes :=
  areg (@opi _ (lift (some (fr 8)) H) ⟨fun v33 H =>
    @opi _ (lift (abinR .x .geq v33 (.int .i64 50)) H) ⟨fun v34 H =>
    some (AFr.al [(0, fr 0), (9, fr 9), (10, fr 10), (11, fr 11), (12, fr 12), (34, v34)], H)⟩⟩)
@[simp] noncomputable def r8 (s0 : SpecM) (s1 : SpecM) (fr : AFr) (H : AHeap) : ARes :=
  areg (@opi _ (lift (some (fr 0)) H) ⟨fun v35 H =>
    @opi _ (lift (some (fr 10)) H) ⟨fun v36 H =>
    @opi _ (callM [true, false, false] s0 [[some 1], [none], [none]] [v35, v36, (fr 9)] H) ⟨fun v37 H =>
    @opi _ (lift (some v37) H) ⟨fun v10 H =>
    some (AFr.al [(0, fr 0), (9, fr 9), (10, v10), (11, fr 11), (12, fr 12)], H)⟩⟩⟩⟩)
@[simp] noncomputable def r9 (s0 : SpecM) (s1 : SpecM) (fr : AFr) (H : AHeap) : ARes :=
  areg (@opi _ (lift (some (fr 0)) H) ⟨fun v38 H =>
    @opi _ (lift (some (fr 11)) H) ⟨fun v39 H =>
    @opi _ (callM [true, false, false] s0 [[some 1], [none], [none]] [v38, v39, (fr 9)] H) ⟨fun v40 H =>
    @opi _ (lift (some v40) H) ⟨fun v11 H =>
    some (AFr.al [(0, fr 0), (9, fr 9), (10, fr 10), (11, v11), (12, fr 12)], H)⟩⟩⟩⟩)
@[simp] noncomputable def r10 (s0 : SpecM) (s1 : SpecM) (fr : AFr) (H : AHeap) : ARes :=
  areg (@opi _ (lift (some (fr 0)) H) ⟨fun v41 H =>
    @opi _ (lift (some (fr 12)) H) ⟨fun v42 H =>
    @opi _ (callM [true, false, false] s0 [[some 1], [none], [none]] [v41, v42, (fr 9)] H) ⟨fun v43 H =>
    @opi _ (lift (some v43) H) ⟨fun v12 H =>
    some (AFr.al [(0, fr 0), (9, fr 9), (10, fr 10), (11, fr 11), (12, v12)], H)⟩⟩⟩⟩)
@[simp] noncomputable def r11 (s0 : SpecM) (s1 : SpecM) (fr : AFr) (H : AHeap) : ARes :=
  areg (@opi _ (lift (some (fr 0)) H) ⟨fun v44 H =>
    @opi _ (lift (some (fr 10)) H) ⟨fun v45 H =>
    @opi _ (lift (some (fr 11)) H) ⟨fun v46 H =>
    @opi _ (lift (some (fr 12)) H) ⟨fun v47 H =>
    @opi _ (callM [true, false, false, false, false] s1 [[some 1], [none], [none], [none], [none]] [v44, v45, v46, v47, (fr 9)] H) ⟨fun v48 H =>
    @opi _ (lift (some v48) H) ⟨fun v11 H =>
    some (AFr.al [(9, fr 9), (11, v11)], H)⟩⟩⟩⟩⟩⟩)
@[simp] noncomputable def r12 (s0 : SpecM) (s1 : SpecM) (fr : AFr) (H : AHeap) : ARes :=
  areg (@opi _ (lift (aloadR (some none) (fr 9) H) H) ⟨fun v49 H =>
    some (AFr.al [(11, fr 11), (49, v49)], H)⟩)
@[simp] noncomputable def r14 (s0 : SpecM) (s1 : SpecM) (fr : AFr) (H : AHeap) : ARes :=
  areg (@opi _ (lift (abinR .x .eql (fr 49) (.int .i64 0)) H) ⟨fun v52 H =>
    @opi _ (lift (some v52) H) ⟨fun v51 H =>
    some (AFr.al [(11, fr 11), (49, fr 49), (51, v51)], H)⟩⟩)
@[simp] noncomputable def r15 (s0 : SpecM) (s1 : SpecM) (fr : AFr) (H : AHeap) : ARes :=
  areg (@opi _ (lift (some (fr 11)) H) ⟨fun v53 H =>
    @opi _ (lift (some v53) H) ⟨fun v6 H =>
    @opi _ (lift (some (.int .i64 1)) H) ⟨fun v7 H =>
    some (AFr.al [(6, v6), (7, v7)], H)⟩⟩⟩)
@[simp] noncomputable def r16 (s0 : SpecM) (s1 : SpecM) (fr : AFr) (H : AHeap) : ARes :=
  areg (@opi _ (lift (abinR .x .eql (fr 49) (.int .i64 12)) H) ⟨fun v55 H =>
    @opi _ (lift (some v55) H) ⟨fun v54 H =>
    some (AFr.al [(11, fr 11), (54, v54)], H)⟩⟩)
@[simp] noncomputable def r17 (s0 : SpecM) (s1 : SpecM) (fr : AFr) (H : AHeap) : ARes :=
  areg (@opi _ (lift (some (fr 11)) H) ⟨fun v56 H =>
    @opi _ (lift (some v56) H) ⟨fun v6 H =>
    @opi _ (lift (some (.int .i64 2)) H) ⟨fun v7 H =>
    some (AFr.al [(6, v6), (7, v7)], H)⟩⟩⟩)
@[simp] noncomputable def r13 (s0 : SpecM) (s1 : SpecM) (fr : AFr) (H : AHeap) : ARes :=
  areg (@opi _ (lift (some (fr 11)) H) ⟨fun v50 H =>
    @opi _ (lift (some v50) H) ⟨fun v6 H =>
    @opi _ (lift (some (.int .i64 0)) H) ⟨fun v7 H =>
    some (AFr.al [(6, v6), (7, v7)], H)⟩⟩⟩)
@[simp] noncomputable def body (s0 : SpecM) (s1 : SpecM) (fr : AFr) (H : AHeap) : ARes :=
  @aseqi (r0 s0 s1 fr H) ⟨fun fr H =>
  @aseqi (r1 s0 s1 fr H) ⟨fun fr H =>
  @aseqi (r2 s0 s1 fr H) ⟨fun fr H =>
  @aseqi (r3 s0 s1 fr H) ⟨fun fr H =>
  @aseqi (r4 s0 s1 fr H) ⟨fun fr H =>
  @aseqi (r5 s0 s1 fr H) ⟨fun fr H =>
  @aseqi (@aseqi (r6 s0 s1 fr H) ⟨fun fr H =>
  @acondi (fr 32)
    ⟨@aseqi (@aseqi (r7 s0 s1 fr H) ⟨fun fr H =>
    @acondi (fr 34)
      ⟨@aseqi (r8 s0 s1 fr H) ⟨fun fr H =>
      @aseqi (r9 s0 s1 fr H) ⟨fun fr H =>
      r10 s0 s1 fr H⟩⟩⟩
      ⟨some (.normal, fr, H)⟩⟩) ⟨fun fr H =>
    r11 s0 s1 fr H⟩⟩
    ⟨some (.normal, fr, H)⟩⟩) ⟨fun fr H =>
  @aseqi (r12 s0 s1 fr H) ⟨fun fr H =>
  aexit 0 (@aseqi (r14 s0 s1 fr H) ⟨fun fr H =>
  @acondi (fr 51)
    ⟨@aseqi (r15 s0 s1 fr H) ⟨fun fr H =>
    some (.ret, fr, H)⟩⟩
    ⟨@aseqi (r16 s0 s1 fr H) ⟨fun fr H =>
    @acondi (fr 54)
      ⟨@aseqi (r17 s0 s1 fr H) ⟨fun fr H =>
      some (.ret, fr, H)⟩⟩
      ⟨@aseqi (r13 s0 s1 fr H) ⟨fun fr H =>
      some (.ret, fr, H)⟩⟩⟩⟩⟩)⟩⟩⟩⟩⟩⟩⟩⟩
@[simp] def res (fr : AFr) (H : AHeap) : Option (List AV) := res2 (some (fr 6)) (res2 (some (fr 7)) (some []))
end slices_choosePivotOrdered_int
noncomputable def slices_choosePivotOrdered_int (a0 a1 a2 : AV) : Option AV := closeUpR (some [[none], [none]]) (afinR slices_choosePivotOrdered_int.res (slices_choosePivotOrdered_int.body slices_medianAdjacentOrdered_int.spec slices_medianOrdered_int.spec (args0 [a0, a1, a2]) AHeap.empty))
noncomputable def slices_choosePivotOrdered_int.spec : List AV → Option AV
  | [a0, a1, a2] => slices_choosePivotOrdered_int a0 a1 a2
  | _ => none

/-! slices.reverseRangeOrdered[int]: function 85 -/
namespace slices_reverseRangeOrdered_int
noncomputable def C : Tab := Tab.none
@[simp] noncomputable def r0 (fr : AFr) (H : AHeap) : ARes :=
  areg (@opi _ (lift (some (fr 1)) H) ⟨fun v8 H =>
    @opi _ (lift (some v8) H) ⟨fun v6 H =>
    some (AFr.al [(0, fr 0), (2, fr 2), (6, v6)], H)⟩⟩)
@[simp] noncomputable def r1 (fr : AFr) (H : AHeap) : ARes :=
  areg (@opi _ (lift (some (fr 2)) H) ⟨fun v9 H =>
    @opi _ (lift (abinR .x .sub v9 (.int .i64 1)) H) ⟨fun v10 H =>
    @opi _ (lift (some v10) H) ⟨fun v7 H =>
    some (AFr.al [(0, fr 0), (6, fr 6), (7, v7)], H)⟩⟩⟩)
@[simp] noncomputable def r2 (fr : AFr) (H : AHeap) : ARes :=
  areg (@opi _ (lift (some (fr 6)) H) ⟨fun v11 H =>
    @opi _ (lift (some (fr 7)) H) ⟨fun v12 H =>
    @opi _ (lift (abinR .x .lss v11 v12) H) ⟨fun v13 H =>
    some (AFr.al [(0, fr 0), (6, fr 6), (7, fr 7), (13, v13)], H)⟩⟩⟩)
@[simp] noncomputable def r3 (fr : AFr) (H : AHeap) : ARes :=
  areg (@opi _ (lift (some (fr 0)) H) ⟨fun v14 H1 =>
    @opi _ (lift (some (fr 6)) H1) ⟨fun v15 H2 =>
    @opi _ (lift (some (fr 0)) H2) ⟨fun v16 H3 =>
    @opi _ (lift (some (fr 7)) H3) ⟨fun v17 H4 =>
    @opi _ (lift (some (fr 0)) H4) ⟨fun v18 H5 =>
    @opi _ (lift (some (fr 7)) H5) ⟨fun v19 H6 =>
    @opi _ (lift (aindexAddrR (.sl 1) v18 v19) H6) ⟨fun v20 H7 =>
    @opi _ (lift (aloadR (some none) v20 H7) H7) ⟨fun v21 H8 =>
    @opi _ (lift (some (fr 0)) H8) ⟨fun v22 H9 =>
    @opi _ (lift (some (fr 6)) H9) ⟨fun v23 H10 =>
    @opi _ (lift (aindexAddrR (.sl 1) v22 v23) H10) ⟨fun v24 H11 =>
    @opi _ (lift (aloadR (some none) v24 H11) H11) ⟨fun v25 H12 =>
    @opi _ (lift (aindexAddrR (.sl 1) v14 v15) H12) ⟨fun v26 H13 =>
    @opi _ (liftS (astoreR (some 1) v26 v21 H13)) ⟨fun _ H14 =>
    @opi _ (lift (aindexAddrR (.sl 1) v16 v17) H14) ⟨fun v27 H15 =>
    @opi _ (liftS (astoreR (some 1) v27 v25 H15)) ⟨fun _ H16 =>
    some (AFr.al [(0, fr 0), (6, fr 6), (7, fr 7)], H16)⟩⟩⟩⟩⟩⟩⟩⟩⟩⟩⟩⟩⟩⟩⟩⟩)
@[simp] noncomputable def r4 (fr : AFr) (H : AHeap) : ARes :=
  areg (@opi _ (lift (some (fr 6)) H) ⟨fun v28 H =>
    @opi _ (lift (abinR .x .add v28 (.int .i64 1)) H) ⟨fun v29 H =>
    @opi _ (lift (some v29) H) ⟨fun v6 H =>
    some (AFr.al [(0, fr 0), (6, v6), (7, fr 7)], H)⟩⟩⟩)
@[simp] noncomputable def r5 (fr : AFr) (H : AHeap) : ARes :=
  areg (@opi _ (lift (some (fr 7)) H) ⟨fun v30 H =>
    @opi _ (lift (abinR .x .sub v30 (.int .i64 1)) H) ⟨fun v31 H =>
    @opi _ (lift (some v31) H) ⟨fun v7 H =>
    some (AFr.al [(0, fr 0), (6, fr 6), (7, v7)], H)⟩⟩⟩)
noncomputable def l0 (fr : AFr) (H : AHeap) : ARes :=
  @aseqi (@aseqi (r2 fr H) ⟨fun fr H =>
  @acondi (fr 13)
    ⟨some (.normal, fr, H)⟩
    ⟨some (.exit 0, fr, H)⟩⟩) ⟨fun fr H =>
  aexit 1 (@aseqi (r3 fr H) ⟨fun fr H =>
  @aseqi (r4 fr H) ⟨fun fr H =>
  r5 fr H⟩⟩)⟩
@[simp] noncomputable def body (fr : AFr) (H : AHeap) : ARes :=
  @aseqi (r0 fr H) ⟨fun fr H =>
  @aseqi (r1 fr H) ⟨fun fr H =>
  aexit 0 (aloop (l0) fr H)⟩⟩
@[simp] def res (fr : AFr) (H : AHeap) : Option (List AV) := some []
end slices_reverseRangeOrdered_int
noncomputable def slices_reverseRangeOrdered_int (a0 a1 a2 : AV) : Option AV := closeUpR (some []) (afinR slices_reverseRangeOrdered_int.res (slices_reverseRangeOrdered_int.body (args0 [a0, a1, a2]) AHeap.empty))
noncomputable def slices_reverseRangeOrdered_int.spec : List AV → Option AV
  | [a0, a1, a2] => slices_reverseRangeOrdered_int a0 a1 a2
  | _ => none

/-! slices.partialInsertionSortOrdered[int]: function 86 -/
namespace slices_partialInsertionSortOrdered_int
noncomputable def C (s0 : SpecP) : Tab := (Tab.none.add 87 (.pure false s0))
@[simp] noncomputable def r0 (s0 : SpecP) (fr : AFr) (H : AHeap) : ARes :=
  areg (@opi _ (lift (some (.bool false)) H) ⟨fun v6 H =>
    some (AFr.al [(0, fr 0), (1, fr 1), (2, fr 2)], H)⟩)
@[simp] noncomputable def r1 (s0 : SpecP) (fr : AFr) (H : AHeap) : ARes :=
  areg (@opi _ (lift (some (fr 1)) H) ⟨fun v11 H =>
    @opi _ (lift (abinR .x .add v11 (.int .i64 1)) H) ⟨fun v12 H =>
    @opi _ (lift (some v12) H) ⟨fun v7 H =>
    some (AFr.al [(0, fr 0), (1, fr 1), (2, fr 2), (7, v7)], H)⟩⟩⟩)
@[simp] noncomputable def r2 (s0 : SpecP) (fr : AFr) (H : AHeap) : ARes :=
  areg (@opi _ (lift (some (.int .i64 0)) H) ⟨fun v8 H =>
    some (AFr.al [(0, fr 0), (1, fr 1), (2, fr 2), (7, fr 7), (8, v8)], H)⟩)
@[simp] noncomputable def r3 (s0 : SpecP) (fr : AFr) (H : AHeap) : ARes :=
  areg (@opi _ (lift (some (fr 8)) H) ⟨fun v13 H =>
    @opi _ (lift (abinR .x .lss v13 (.int .i64 5)) H) ⟨fun v14 H =>
    some (AFr.al [(0, fr 0), (1, fr 1), (2, fr 2), (7, fr 7), (8, fr 8), (14, v14)], H)⟩⟩)
@[simp] noncomputable def r5 (s0 : SpecP) (fr : AFr) (H : AHeap) : ARes :=
  areg (@opi _ (lift (some (fr 7)) H) ⟨fun v17 H1 =>
    @opi _ (lift (some (fr 2)) H1) ⟨fun v18 H2 =>
    @opi _ (lift (abinR .x .lss v17 v18) H2) ⟨fun v19 H3 =>
    @opi _ (lift (some v19) H3) ⟨fun v20 H4 =>
    @opi _ (@gdi (gw v20 true) ⟨lift (some (fr 0)) H4⟩ H4) ⟨fun v21 H5 =>
    @opi _ (@gdi (gw v20 true) ⟨lift (some (fr 7)) H5⟩ H5) ⟨fun v22 H6 =>
    @opi _ (@gdi (gw v20 true) ⟨lift (aindexAddrR (.sl 1) v21 v22) H6⟩ H6) ⟨fun v23 H7 =>
    @opi _ (@gdi (gw v20 true) ⟨lift (aloadR (some none) v23 H7) H7⟩ H7) ⟨fun v24 H8 =>
    @opi _ (@gdi (gw v20 true) ⟨lift (some (fr 0)) H8⟩ H8) ⟨fun v25 H9 =>
    @opi _ (@gdi (gw v20 true) ⟨lift (some (fr 7)) H9⟩ H9) ⟨fun v26 H10 =>
    @opi _ (@gdi (gw v20 true) ⟨lift (abinR .x .sub v26 (.int .i64 1)) H10⟩ H10) ⟨fun v27 H11 =>
    @opi _ (@gdi (gw v20 true) ⟨lift (aindexAddrR (.sl 1) v25 v27) H11⟩ H11) ⟨fun v28 H12 =>
    @opi _ (@gdi (gw v20 true) ⟨lift (aloadR (some none) v28 H12) H12⟩ H12) ⟨fun v29 H13 =>
    @opi _ (@gdi (gw v20 true) ⟨callP false s0 [[none], [none]] [v24, v29] H13⟩ H13) ⟨fun v30 H14 =>
    @opi _ (@gdi (gw v20 true) ⟨lift (aun .not v30) H14⟩ H14) ⟨fun v31 H15 =>
    @opi _ (lift (apick v20 v31 (.bool false)) H15) ⟨fun v32 H16 =>
    some (AFr.al [(0, fr 0), (1, fr 1), (2, fr 2), (7, fr 7), (8, fr 8), (32, v32)], H16)⟩⟩⟩⟩⟩⟩⟩⟩⟩⟩⟩⟩⟩⟩⟩⟩)
@[simp] noncomputable def r6 (s0 : SpecP) (fr : AFr) (H : AHeap) : ARes :=
  areg (@opi _ (lift (some (fr 7)) H) ⟨fun v33 H =>
    @opi _ (lift (abinR .x .add v33 (.int .i64 1)) H) ⟨fun v34 H =>
    @opi _ (lift (some v34) H) ⟨fun v7 H =>
    some (AFr.al [(0, fr 0), (1, fr 1), (2, fr 2), (7, v7), (8, fr 8)], H)⟩⟩⟩)
@[simp] noncomputable def r7 (s0 : SpecP) (fr : AFr) (H : AHeap) : ARes :=
  areg (@opi _ (lift (some (fr 7)) H) ⟨fun v35 H =>
    @opi _ (lift (some (fr 2)) H) ⟨fun v36 H =>
    @opi _ (lift (abinR .x .eql v35 v36) H) ⟨fun v37 H =>
    some (AFr.al [(0, fr 0), (1, fr 1), (2, fr 2), (7, fr 7), (8, fr 8), (37, v37)], H)⟩⟩⟩)
@[simp] noncomputable def r8 (s0 : SpecP) (fr : AFr) (H : AHeap) : ARes :=
  areg (@opi _ (lift (some (.bool true)) H) ⟨fun v6 H =>
    some (AFr.al [(6, v6)], H)⟩)
@[simp] noncomputable def r9 (s0 : SpecP) (fr : AFr) (H : AHeap) : ARes :=
  areg (@opi _ (lift (some (fr 2)) H) ⟨fun v38 H =>
    @opi _ (lift (some (fr 1)) H) ⟨fun v39 H =>
    @opi _ (lift (abinR .x .sub v38 v39) H) ⟨fun v40 H =>
    @opi _ (lift (abinR .x .lss v40 (.int .i64 50)) H) ⟨fun v41 H =>
    some (AFr.al [(0, fr 0), (1, fr 1), (2, fr 2), (7, fr 7), (8, fr 8), (41, v41)], H)⟩⟩⟩⟩)
@[simp] noncomputable def r10 (s0 : SpecP) (fr : AFr) (H : AHeap) : ARes :=
  areg (@opi _ (lift (some (.bool false)) H) ⟨fun v6 H =>
    some (AFr.al [(6, v6)], H)⟩)
@[simp] noncomputable def r11 (s0 : SpecP) (fr : AFr) (H : AHeap) : ARes :=
  areg (@opi _ (lift (some (fr 0)) H) ⟨fun v42 H1 =>
    @opi _ (lift (some (fr 7)) H1) ⟨fun v43 H2 =>
    @opi _ (lift (some (fr 0)) H2) ⟨fun v44 H3 =>
    @opi _ (lift (some (fr 7)) H3) ⟨fun v45 H4 =>
    @opi _ (lift (abinR .x .sub v45 (.int .i64 1)) H4) ⟨fun v46 H5 =>
    @opi _ (lift (some (fr 0)) H5) ⟨fun v47 H6 =>
    @opi _ (lift (some (fr 7)) H6) ⟨fun v48 H7 =>
    @opi _ (lift (abinR .x .sub v48 (.int .i64 1)) H7) ⟨fun v49 H8 =>
    @opi _ (lift (aindexAddrR (.sl 1) v47 v49) H8) ⟨fun v50 H9 =>
    @opi _ (lift (aloadR (some none) v50 H9) H9) ⟨fun v51 H10 =>
    @opi _ (lift (some (fr 0)) H10) ⟨fun v52 H11 =>
    @opi _ (lift (some (fr 7)) H11) ⟨fun v53 H12 =>
    @opi _ (lift (aindexAddrR (.sl 1) v52 v53) H12) ⟨fun v54 H13 =>
    @opi _ (lift (aloadR (some none) v54 H13) H13) ⟨fun v55 H14 =>
    @opi _ (lift (aindexAddrR (.sl 1) v42 v43) H14) ⟨fun v56 H15 =>
    @opi _ (liftS (astoreR (some 1) v56 v51 H15)) ⟨fun _ H16 =>
    @opi _ (lift (aindexAddrR (.sl 1) v44 v46) H16) ⟨fun v57 H17 =>
    @opi _ (liftS (astoreR (some 1) v57 v55 H17)) ⟨fun _ H18 =>
    some (AFr.al [(0, fr 0), (1, fr 1), (2, fr 2), (7, fr 7), (8, fr 8)], H18)⟩⟩⟩⟩⟩⟩⟩⟩⟩⟩⟩⟩⟩⟩⟩⟩⟩⟩)
@[simp] noncomputable def r12 (s0 : SpecP) (fr : AFr) (H : AHeap) : ARes :=
  areg (@opi _ (lift (some (fr 7)) H) ⟨fun v58 H =>
    @opi _ (lift (some (fr 1)) H) ⟨fun v59 H =>
    @opi _ (lift (abinR .x .sub v58 v59) H) ⟨fun v60 H =>
    @opi _ (lift (abinR .x .geq v60 (.int .i64 2)) H) ⟨fun v61 H =>
    some (AFr.al [(0, fr 0), (1, fr 1), (2, fr 2), (7, fr 7), (8, fr 8), (61, v61)], H)⟩⟩⟩⟩)
@[simp] noncomputable def r13 (s0 : SpecP) (fr : AFr) (H : AHeap) : ARes :=
  areg (@opi _ (lift (some (fr 7)) H) ⟨fun v62 H =>
    @opi _ (lift (abinR .x .sub v62 (.int .i64 1)) H) ⟨fun v63 H =>
    @opi _ (lift (some v63) H) ⟨fun v9 H =>
    some (AFr.al [(0, fr 0), (1, fr 1), (2, fr 2), (7, fr 7), (8, fr 8), (9, v9)], H)⟩⟩⟩)
@[simp] noncomputable def r14 (s0 : SpecP) (fr : AFr) (H : AHeap) : ARes :=
  areg (@opi _ (lift (some (fr 9)) H) ⟨fun v64 H =>
    @opi _ (lift (abinR .x .geq v64 (.int .i64 1)) H) ⟨fun v65 H =>
    some (AFr.al [(0, fr 0), (1, fr 1), (2, fr 2), (7, fr 7), (8, fr 8), (9, fr 9), (65, v65)], H)⟩⟩)
@[simp] noncomputable def r16 (s0 : SpecP) (fr : AFr) (H : AHeap) : ARes :=
  areg (@opi _ (lift (some (fr 0)) H) ⟨fun v68 H1 =>
    @opi _ (lift (some (fr 9)) H1) ⟨fun v69 H2 =>
    @opi _ (lift (aindexAddrR (.sl 1) v68 v69) H2) ⟨fun v70 H3 =>
    @opi _ (lift (aloadR (some none) v70 H3) H3) ⟨fun v71 H4 =>
    @opi _ (lift (some (fr 0)) H4) ⟨fun v72 H5 =>
    @opi _ (lift (some (fr 9)) H5) ⟨fun v73 H6 =>
    @opi _ (lift (abinR .x .sub v73 (.int .i64 1)) H6) ⟨fun v74 H7 =>
    @opi _ (lift (aindexAddrR (.sl 1) v72 v74) H7) ⟨fun v75 H8 =>
    @opi _ (lift (aloadR (some none) v75 H8) H8) ⟨fun v76 H9 =>
    @opi _ (callP false s0 [[none], [none]] [v71, v76] H9) ⟨fun v77 H10 =>
    @opi _ (lift (aun .not v77) H10) ⟨fun v78 H11 =>
    some (AFr.al [(0, fr 0), (1, fr 1), (2, fr 2), (7, fr 7), (8, fr 8), (9, fr 9), (78, v78)], H11)⟩⟩⟩⟩⟩⟩⟩⟩⟩⟩⟩)
@[simp] noncomputable def r17 (s0 : SpecP) (fr : AFr) (H : AHeap) : ARes :=
  areg (@opi _ (lift (some (fr 0)) H) ⟨fun v79 H1 =>
    @opi _ (lift (some (fr 9)) H1) ⟨fun v80 H2 =>
    @opi _ (lift (some (fr 0)) H2) ⟨fun v81 H3 =>
    @opi _ (lift (some (fr 9)) H3) ⟨fun v82 H4 =>
    @opi _ (lift (abinR .x .sub v82 (.int .i64 1)) H4) ⟨fun v83 H5 =>
    @opi _ (lift (some (fr 0)) H5) ⟨fun v84 H6 =>
    @opi _ (lift (some (fr 9)) H6) ⟨fun v85 H7 =>
    @opi _ (lift (abinR .x .sub v85 (.int .i64 1)) H7) ⟨fun v86 H8 =>
    @opi _ (lift (aindexAddrR (.sl 1) v84 v86) H8) ⟨fun v87 H9 =>
    @opi _ (lift (aloadR (some none) v87 H9) H9) ⟨fun v88 H10 =>
    @opi _ (lift (some (fr 0)) H10) ⟨fun v89 H11 =>
    @opi _ (lift (some (fr 9)) H11) ⟨fun v90 H12 =>
    @opi _ (lift (aindexAddrR (.sl 1) v89 v90) H12) ⟨fun v91 H13 =>
    @opi _ (lift (aloadR (some none) v91 H13) H13) ⟨fun v92 H14 =>
    @opi _ (lift (aindexAddrR (.sl 1) v79 v80) H14) ⟨fun v93 H15 =>
    @opi _ (liftS (astoreR (some 1) v93 v88 H15)) ⟨fun _ H16 =>
    @opi _ (lift (aindexAddrR (.sl 1) v81 v83) H16) ⟨fun v94 H17 =>
    @opi _ (liftS (astoreR (some 1) v94 v92 H17)) ⟨fun _ H18 =>
    some (AFr.al [(0, fr 0), (1, fr 1), (2, fr 2), (7, fr 7), (8, fr 8), (9, fr 9)], H18)⟩⟩⟩⟩⟩⟩⟩⟩⟩⟩⟩⟩⟩⟩⟩⟩⟩⟩)
@[simp] noncomputable def r15 (s0 : SpecP) (fr : AFr) (H : AHeap) : ARes :=
  areg (@opi _ (lift (some (fr 9)) H) ⟨fun v66 H =>
    @opi _ (lift (abinR .x .sub v66 (.int .i64 1)) H) ⟨fun v67 H =>
    @opi _ (lift (some v67) H) ⟨fun v9 H =>
    some (AFr.al [(0, fr 0), (1, fr 1), (2, fr 2), (7, fr 7), (8, fr 8), (9, v9)], H)⟩⟩⟩)
@[simp] noncomputable def r18 (s0 : SpecP) (fr : AFr) (H : AHeap) : ARes :=
  areg (@opi _ (lift (some (fr 2)) H) ⟨fun v95 H =>
    @opi _ (lift (some (fr 7)) H) ⟨fun v96 H =>
    @opi _ (lift (abinR .x .sub v95 v96) H) ⟨fun v97 H =>
    @opi _ (lift (abinR .x .geq v97 (.int .i64 2)) H) ⟨fun v98 H =>
    some (AFr.al [(0, fr 0), (1, fr 1), (2, fr 2), (7, fr 7), (8, fr 8), (98, v98)], H)⟩⟩⟩⟩)
@[simp] noncomputable def r19 (s0 : SpecP) (fr : AFr) (H : AHeap) : ARes :=
  areg (@opi _ (lift (some (fr 7)) H) ⟨fun v99 H =>
    @opi _ (lift (abinR .x .add v99 (.int .i64 1)) H) ⟨fun v100 H =>
    @opi _ (lift (some v100) H) ⟨fun v10 H =>
    some (AFr.al [(0, fr 0), (1, fr 1), (2, fr 2), (7, fr 7), (8, fr 8), (10, v10)], H)⟩⟩⟩)
@[simp] noncomputable def r20 (s0 : SpecP) (fr : AFr) (H : AHeap) : ARes :=
  areg (@opi _ (lift (some (fr 10)) H) ⟨fun v101 H =>
    @opi _ (lift (some (fr 2)) H) ⟨fun v102 H =>
    @opi _ (lift (abinR .x .lss v101 v102) H) ⟨fun v103 H =>
    some (AFr.al [(0, fr 0), (1, fr 1), (2, fr 2), (7, fr 7), (8, fr 8), (10, fr 10), (103, v103)], H)⟩⟩⟩)
@[simp] noncomputable def r22 (s0 : SpecP) (fr : AFr) (H : AHeap) : ARes :=
  areg (@opi _ (lift (some (fr 0)) H) ⟨fun v106 H1 =>
    @opi _ (lift (some (fr 10)) H1) ⟨fun v107 H2 =>
    @opi _ (lift (aindexAddrR (.sl 1) v106 v107) H2) ⟨fun v108 H3 =>
    @opi _ (lift (aloadR (some none) v108 H3) H3) ⟨fun v109 H4 =>
    @opi _ (lift (some (fr 0)) H4) ⟨fun v110 H5 =>
    @opi _ (lift (some (fr 10)) H5) ⟨fun v111 H6 =>
    @opi _ (lift (abinR .x .sub v111 (.int .i64 1)) H6) ⟨fun v112 H7 =>
    @opi _ (lift (aindexAddrR (.sl 1) v110 v112) H7) ⟨fun v113 H8 =>
    @opi _ (lift (aloadR (some none) v113 H8) H8) ⟨fun v114 H9 =>
    @opi _ (callP false s0 [[none], [none]] [v109, v114] H9) ⟨fun v115 H10 =>
    @opi _ (lift (aun .not v115) H10) ⟨fun v116 H11 =>
    some (AFr.al [(0, fr 0), (1, fr 1), (2, fr 2), (7, fr 7), (8, fr 8), (10, fr 10), (116, v116)], H11)⟩⟩⟩⟩⟩⟩⟩⟩⟩⟩⟩)
@[simp] noncomputable def r23 (s0 : SpecP) (fr : AFr) (H : AHeap) : ARes :=
  areg (@opi _ (lift (some (fr 0)) H) ⟨fun v117 H1 =>
    @opi _ (lift (some (fr 10)) H1) ⟨fun v118 H2 =>
    @opi _ (lift (some (fr 0)) H2) ⟨fun v119 H3 =>
    @opi _ (lift (some (fr 10)) H3) ⟨fun v120 H4 =>
    @opi _ (lift (abinR .x .sub v120 (.int .i64 1)) H4) ⟨fun v121 H5 =>
    @opi _ (lift (some (fr 0)) H5) ⟨fun v122 H6 =>
    @opi _ (lift (some (fr 10)) H6) ⟨fun v123 H7 =>
    @opi _ (lift (abinR .x .sub v123 (.int .i64 1)) H7) ⟨fun v124 H8 =>
    @opi _ (lift (aindexAddrR (.sl 1) v122 v124) H8) ⟨fun v125 H9 =>
    @opi _ (lift (aloadR (some none) v125 H9) H9) ⟨fun v126 H10 =>
    @opi _ (lift (some (fr 0)) H10) ⟨fun v127 H11 =>
    @opi _ (lift (some (fr 10)) H11) ⟨fun v128 H12 =>
    @opi _ (lift (aindexAddrR (.sl 1) v127 v128) H12) ⟨fun v129 H13 =>
    @opi _ (lift (aloadR (some none) v129 H13) H13) ⟨fun v130 H14 =>
    @opi _ (lift (aindexAddrR (.sl 1) v117 v118) H14) ⟨fun v131 H15 =>
    @opi _ (liftS (astoreR (some 1) v131 v126 H15)) ⟨fun _ H16 =>
    @opi _ (lift (aindexAddrR (.sl 1) v119 v121) H16) ⟨fun v132 H17 =>
    @opi _ (liftS (astoreR (some 1) v132 v130 H17)) ⟨fun _ H18 =>
    some (AFr.al [(0, fr 0), (1, fr 1), (2, fr 2), (7, fr 7), (8, fr 8), (10, fr 10)], H18)⟩⟩⟩⟩⟩⟩⟩⟩⟩⟩⟩⟩⟩⟩⟩⟩⟩⟩)
@[simp] noncomputable def r21 (s0 : SpecP) (fr : AFr) (H : AHeap) : ARes :=
  areg (@opi _ (lift (some (fr 10)) H) ⟨fun v104 H =>
    @opi _ (lift (abinR .x .add v104 (.int .i64 1)) H) ⟨fun v105 H =>
    @opi _ (lift (some v105) H) ⟨fun v10 H =>
    some (AFr.al [(0, fr 0), (1, fr 1), (2, fr 2), (7, fr 7), (8, fr 8), (10, v10)], H)⟩⟩⟩)
@[simp] noncomputable def r4 (s0 : SpecP) (fr : AFr) (H : AHeap) : ARes :=
  areg (@opi _ (lift (some (fr 8)) H) ⟨fun v15 H =>
    @opi _ (lift (abinR .x .add v15 (.int .i64 1)) H) ⟨fun v16 H =>
    @opi _ (lift (some v16) H) ⟨fun v8 H =>
    some (AFr.al [(0, fr 0), (1, fr 1), (2, fr 2), (7, fr 7), (8, v8)], H)⟩⟩⟩)
@[simp] noncomputable def r24 (s0 : SpecP) (fr : AFr) (H : AHeap) : ARes :=
  areg (@opi _ (lift (some (.bool false)) H) ⟨fun v6 H =>
    some (AFr.al [(6, v6)], H)⟩)
noncomputable def l1 (s0 : SpecP) (fr : AFr) (H : AHeap) : ARes :=
  @aseqi (@aseqi (r5 s0 fr H) ⟨fun fr H =>
  @acondi (fr 32)
    ⟨some (.normal, fr, H)⟩
    ⟨some (.exit 2, fr, H)⟩⟩) ⟨fun fr H =>
  aexit 3 (r6 s0 fr H)⟩
noncomputable def l2 (s0 : SpecP) (fr : AFr) (H : AHeap) : ARes :=
  @aseqi (@aseqi (r14 s0 fr H) ⟨fun fr H =>
  @acondi (fr 65)
    ⟨some (.normal, fr, H)⟩
    ⟨some (.exit 4, fr, H)⟩⟩) ⟨fun fr H =>
  @aseqi (aexit 5 (@aseqi (@aseqi (r16 s0 fr H) ⟨fun fr H =>
  @acondi (fr 78)
    ⟨some (.exit 4, fr, H)⟩
    ⟨some (.normal, fr, H)⟩⟩) ⟨fun fr H =>
  r17 s0 fr H⟩)) ⟨fun fr H =>
  r15 s0 fr H⟩⟩
noncomputable def l3 (s0 : SpecP) (fr : AFr) (H : AHeap) : ARes :=
  @aseqi (@aseqi (r20 s0 fr H) ⟨fun fr H =>
  @acondi (fr 103)
    ⟨some (.normal, fr, H)⟩
    ⟨some (.exit 6, fr, H)⟩⟩) ⟨fun fr H =>
  @aseqi (aexit 7 (@aseqi (@aseqi (r22 s0 fr H) ⟨fun fr H =>
  @acondi (fr 116)
    ⟨some (.exit 6, fr, H)⟩
    ⟨some (.normal, fr, H)⟩⟩) ⟨fun fr H =>
  r23 s0 fr H⟩)) ⟨fun fr H =>
  r21 s0 fr H⟩⟩
noncomputable def l0 (s0 : SpecP) (fr : AFr) (H : AHeap) : ARes :=
  @aseqi (@aseqi (r3 s0 fr H) ⟨fun fr H =>
  @acondi (fr 14)
    ⟨some (.normal, fr, H)⟩
    ⟨some (.exit 0, fr, H)⟩⟩) ⟨fun fr H =>
  @aseqi (aexit 1 (@aseqi (aexit 2 (aloop (l1 s0) fr H)) ⟨fun fr H =>
  @aseqi (@aseqi (r7 s0 fr H) ⟨fun fr H =>
  @acondi (fr 37)
    ⟨@aseqi (r8 s0 fr H) ⟨fun fr H =>
    some (.ret, fr, H)⟩⟩
    ⟨some (.normal, fr, H)⟩⟩) ⟨fun fr H =>
  @aseqi (@aseqi (r9 s0 fr H) ⟨fun fr H =>
  @acondi (fr 41)
    ⟨@aseqi (r10 s0 fr H) ⟨fun fr H =>
    some (.ret, fr, H)⟩⟩
    ⟨some (.normal, fr, H)⟩⟩) ⟨fun fr H =>
  @aseqi (r11 s0 fr H) ⟨fun fr H =>
  @aseqi (@aseqi (r12 s0 fr H) ⟨fun fr H =>
  @acondi (fr 61)
    ⟨@aseqi (r13 s0 fr H) ⟨fun fr H =>
    aexit 4 (aloop (l2 s0) fr H)⟩⟩
    ⟨some (.normal, fr, H)⟩⟩) ⟨fun fr H =>
  @aseqi (r18 s0 fr H) ⟨fun fr H =>
  @acondi (fr 98)
    ⟨@aseqi (r19 s0 fr H) ⟨fun fr H =>
    aexit 6 (aloop (l3 s0) fr H)⟩⟩
    ⟨some (.normal, fr, H)⟩⟩⟩⟩⟩⟩⟩)) ⟨fun fr H =>
  r4 s0 fr H⟩⟩
@[simp] noncomputable def body (s0 : SpecP) (fr : AFr) (H : AHeap) : ARes :=
  @aseqi (r0 s0 fr H) ⟨fun fr H =>
  @aseqi (r1 s0 fr H) ⟨fun fr H =>
  @aseqi (@aseqi (r2 s0 fr H) ⟨fun fr H =>
  aexit 0 (aloop (l0 s0) fr H)⟩) ⟨fun fr H =>
  @aseqi (r24 s0 fr H) ⟨fun fr H =>
  some (.ret, fr, H)⟩⟩⟩⟩
@[simp] def res (fr : AFr) (H : AHeap) : Option (List AV) := res2 (some (fr 6)) (some [])
end slices_partialInsertionSortOrdered_int
noncomputable def slices_partialInsertionSortOrdered_int (a0 a1 a2 : AV) : Option AV := closeUpR (some [[none]]) (afinR slices_partialInsertionSortOrdered_int.res (slices_partialInsertionSortOrdered_int.body cmp_Less_int.spec (args0 [a0, a1, a2]) AHeap.empty))
noncomputable def slices_partialInsertionSortOrdered_int.spec : List AV → Option AV
  | [a0, a1, a2] => slices_partialInsertionSortOrdered_int a0 a1 a2
  | _ => none

/-! slices.partitionEqualOrdered[int]: function 88 -/
namespace slices_partitionEqualOrdered_int
noncomputable def C (s0 : SpecP) : Tab := (Tab.none.add 87 (.pure false s0))
@[simp] noncomputable def r0 (s0 : SpecP) (fr : AFr) (H : AHeap) : ARes :=
  areg (@opi _ (lift (some (.int .i64 0)) H) ⟨fun v8 H =>
    some (AFr.al [(0, fr 0), (1, fr 1), (2, fr 2), (3, fr 3)], H)⟩)
@[simp] noncomputable def r1 (s0 : SpecP) (fr : AFr) (H : AHeap) : ARes :=
  areg (@opi _ (lift (some (fr 0)) H) ⟨fun v11 H1 =>
    @opi _ (lift (some (fr 1)) H1) ⟨fun v12 H2 =>
    @opi _ (lift (some (fr 0)) H2) ⟨fun v13 H3 =>
    @opi _ (lift (some (fr 3)) H3) ⟨fun v14 H4 =>
    @opi _ (lift (some (fr 0)) H4) ⟨fun v15 H5 =>
    @opi _ (lift (some (fr 3)) H5) ⟨fun v16 H6 =>
    @opi _ (lift (aindexAddrR (.sl 1) v15 v16) H6) ⟨fun v17 H7 =>
    @opi _ (lift (aloadR (some none) v17 H7) H7) ⟨fun v18 H8 =>
    @opi _ (lift (some (fr 0)) H8) ⟨fun v19 H9 =>
    @opi _ (lift (some (fr 1)) H9) ⟨fun v20 H10 =>
    @opi _ (lift (aindexAddrR (.sl 1) v19 v20) H10) ⟨fun v21 H11 =>
    @opi _ (lift (aloadR (some none) v21 H11) H11) ⟨fun v22 H12 =>
    @opi _ (lift (aindexAddrR (.sl 1) v11 v12) H12) ⟨fun v23 H13 =>
    @opi _ (liftS (astoreR (some 1) v23 v18 H13)) ⟨fun _ H14 =>
    @opi _ (lift (aindexAddrR (.sl 1) v13 v14) H14) ⟨fun v24 H15 =>
    @opi _ (liftS (astoreR (some 1) v24 v22 H15)) ⟨fun _ H16 =>
    some (AFr.al [(0, fr 0), (1, fr 1), (2, fr 2)], H16)⟩⟩⟩⟩⟩⟩⟩⟩⟩⟩⟩⟩⟩⟩⟩⟩)
@[simp] noncomputable def r2 (s0 : SpecP) (fr : AFr) (H : AHeap) : ARes :=
  areg (@opi _ (lift (some (fr 1)) H) ⟨fun v25 H =>
    @opi _ (lift (abinR .x .add v25 (.int .i64 1)) H) ⟨fun v26 H =>
    @opi _ (lift (some (fr 2)) H) ⟨fun v27 H =>
    @opi _ (lift (abinR .x .sub v27 (.int .i64 1)) H) ⟨fun v28 H =>
    @opi _ (lift (some v26) H) ⟨fun v9 H =>
    @opi _ (lift (some v28) H) ⟨fun v10 H =>
    some (AFr.al [(0, fr 0), (1, fr 1), (9, v9), (10, v10)], H)⟩⟩⟩⟩⟩⟩)
@[simp] noncomputable def r3 (s0 : SpecP) (fr : AFr) (H : AHeap) : ARes :=
  areg (@opi _ (lift (some (fr 9)) H) ⟨fun v29 H1 =>
    @opi _ (lift (some (fr 10)) H1) ⟨fun v30 H2 =>
    @opi _ (lift (abinR .x .leq v29 v30) H2) ⟨fun v31 H3 =>
    @opi _ (lift (some v31) H3) ⟨fun v32 H4 =>
    @opi _ (@gdi (gw v32 true) ⟨lift (some (fr 0)) H4⟩ H4) ⟨fun v33 H5 =>
    @opi _ (@gdi (gw v32 true) ⟨lift (some (fr 1)) H5⟩ H5) ⟨fun v34 H6 =>
    @opi _ (@gdi (gw v32 true) ⟨lift (aindexAddrR (.sl 1) v33 v34) H6⟩ H6) ⟨fun v35 H7 =>
    @opi _ (@gdi (gw v32 true) ⟨lift (aloadR (some none) v35 H7) H7⟩ H7) ⟨fun v36 H8 =>
    @opi _ (@gdi (gw v32 true) ⟨lift (some (fr 0)) H8⟩ H8) ⟨fun v37 H9 =>
    @opi _ (@gdi (gw v32 true) ⟨lift (some (fr 9)) H9⟩ H9) ⟨fun v38 H10 =>
    @opi _ (@gdi (gw v32 true) ⟨lift (aindexAddrR (.sl 1) v37 v38) H10⟩ H10) ⟨fun v39 H11 =>
    @opi _ (@gdi (gw v32 true) ⟨lift (aloadR (some none) v39 H11) H11⟩ H11) ⟨fun v40 H12 =>
    @opi _ (@gdi (gw v32 true) ⟨callP false s0 [[none], [none]] [v36, v40] H12⟩ H12) ⟨fun v41 H13 =>
    @opi _ (@gdi (gw v32 true) ⟨lift (aun .not v41) H13⟩ H13) ⟨fun v42 H14 =>
    @opi _ (lift (apick v32 v42 (.bool false)) H14) ⟨fun v43 H15 =>
    some (AFr.al [(0, fr 0), (1, fr 1), (9, fr 9), (10, fr 10), (43, v43)], H15)⟩⟩⟩⟩⟩⟩⟩⟩⟩⟩⟩⟩⟩⟩⟩)
@[simp] noncomputable def r4 (s0 : SpecP) (fr : AFr) (H : AHeap) : ARes :=
  areg (@opi _ (lift (some (fr 9)) H) ⟨fun v44 H =>
    @opi _ (lift (abinR .x .add v44 (.int .i64 1)) H) ⟨fun v45 H =>
    @opi _ (lift (some v45) H) ⟨fun v9 H =>
    some (AFr.al [(0, fr 0), (1, fr 1), (9, v9), (10, fr 10)], H)⟩⟩⟩)
@[simp] noncomputable def r5 (s0 : SpecP) (fr : AFr) (H : AHeap) : ARes :=
  areg (@opi _ (lift (some (fr 9)) H) ⟨fun v46 H1 =>
    @opi _ (lift (some (fr 10)) H1) ⟨fun v47 H2 =>
    @opi _ (lift (abinR .x .leq v46 v47) H2) ⟨fun v48 H3 =>
    @opi _ (lift (some v48) H3) ⟨fun v49 H4 =>
    @opi _ (@gdi (gw v49 true) ⟨lift (some (fr 0)) H4⟩ H4) ⟨fun v50 H5 =>
    @opi _ (@gdi (gw v49 true) ⟨lift (some (fr 1)) H5⟩ H5) ⟨fun v51 H6 =>
    @opi _ (@gdi (gw v49 true) ⟨lift (aindexAddrR (.sl 1) v50 v51) H6⟩ H6) ⟨fun v52 H7 =>
    @opi _ (@gdi (gw v49 true) ⟨lift (aloadR (some none) v52 H7) H7⟩ H7) ⟨fun v53 H8 =>
    @opi _ (@gdi (gw v49 true) ⟨lift (some (fr 0)) H8⟩ H8) ⟨fun v54 H9 =>
    @opi _ (@gdi (gw v49 true) ⟨lift (some (fr 10)) H9⟩ H9) ⟨fun v55 H10 =>
    @opi _ (@gdi (gw v49 true) ⟨lift (aindexAddrR (.sl 1) v54 v55) H10⟩ H10) ⟨fun v56 H11 =>
    @opi _ (@gdi (gw v49 true) ⟨lift (aloadR (some none) v56 H11) H11⟩ H11) ⟨fun v57 H12 =>
    @opi _ (@gdi (gw v49 true) ⟨callP false s0 [[none], [none]] [v53, v57] H12⟩ H12) ⟨fun v58 H13 =>
    @opi _ (lift (apick v49 v58 (.bool false)) H13) ⟨fun v59 H14 =>
    some (AFr.al [(0, fr 0), (1, fr 1), (9, fr 9), (10, fr 10), (59, v59)], H14)⟩⟩⟩⟩⟩⟩⟩⟩⟩⟩⟩⟩⟩⟩)
@[simp] noncomputable def r6 (s0 : SpecP) (fr : AFr) (H : AHeap) : ARes :=
  areg (@opi _ (lift (some (fr 10)) H) ⟨fun v60 H =>
    @opi _ (lift (abinR .x .sub v60 (.int .i64 1)) H) ⟨fun v61 H =>
    @opi _ (lift (some v61) H) ⟨fun v10 H =>
    some (AFr.al [(0, fr 0), (1, fr 1), (9, fr 9), (10, v10)], H)⟩⟩⟩)
@[simp] noncomputable def r7 (s0 : SpecP) (fr : AFr) (H : AHeap) : ARes :=
  areg (@opi _ (lift (some (fr 9)) H) ⟨fun v62 H =>
    @opi _ (lift (some (fr 10)) H) ⟨fun v63 H =>
    @opi _ (lift (abinR .x .gtr v62 v63) H) ⟨fun v64 H =>
    some (AFr.al [(0, fr 0), (1, fr 1), (9, fr 9), (10, fr 10), (64, v64)], H)⟩⟩⟩)
@[simp] noncomputable def r8 (s0 : SpecP) (fr : AFr) (H : AHeap) : ARes :=
  areg (@opi _ (lift (some (fr 0)) H) ⟨fun v65 H1 =>
    @opi _ (lift (some (fr 9)) H1) ⟨fun v66 H2 =>
    @opi _ (lift (some (fr 0)) H2) ⟨fun v67 H3 =>
    @opi _ (lift (some (fr 10)) H3) ⟨fun v68 H4 =>
    @opi _ (lift (some (fr 0)) H4) ⟨fun v69 H5 =>
    @opi _ (lift (some (fr 10)) H5) ⟨fun v70 H6 =>
    @opi _ (lift (aindexAddrR (.sl 1) v69 v70) H6) ⟨fun v71 H7 =>
    @opi _ (lift (aloadR (some none) v71 H7) H7) ⟨fun v72 H8 =>
    @opi _ (lift (some (fr 0)) H8) ⟨fun v73 H9 =>
    @opi _ (lift (some (fr 9)) H9) ⟨fun v74 H10 =>
    @opi _ (lift (aindexAddrR (.sl 1) v73 v74) H10) ⟨fun v75 H11 =>
    @opi _ (lift (aloadR (some none) v75 H11) H11) ⟨fun v76 H12 =>
    @opi _ (lift (aindexAddrR (.sl 1) v65 v66) H12) ⟨fun v77 H13 =>
    @opi _ (liftS (astoreR (some 1) v77 v72 H13)) ⟨fun _ H14 =>
    @opi _ (lift (aindexAddrR (.sl 1) v67 v68) H14) ⟨fun v78 H15 =>
    @opi _ (liftS (astoreR (some 1) v78 v76 H15)) ⟨fun _ H16 =>
    some (AFr.al [(0, fr 0), (1, fr 1), (9, fr 9), (10, fr 10)], H16)⟩⟩⟩⟩⟩⟩⟩⟩⟩⟩⟩⟩⟩⟩⟩⟩)
@[simp] noncomputable def r9 (s0 : SpecP) (fr : AFr) (H : AHeap) : ARes :=
  areg (@opi _ (lift (some (fr 9)) H) ⟨fun v79 H =>
    @opi _ (lift (abinR .x .add v79 (.int .i64 1)) H) ⟨fun v80 H =>
    @opi _ (lift (some v80) H) ⟨fun v9 H =>
    some (AFr.al [(0, fr 0), (1, fr 1), (9, v9), (10, fr 10)], H)⟩⟩⟩)
@[simp] noncomputable def r10 (s0 : SpecP) (fr : AFr) (H : AHeap) : ARes :=
  areg (@opi _ (lift (some (fr 10)) H) ⟨fun v81 H =>
    @opi _ (lift (abinR .x .sub v81 (.int .i64 1)) H) ⟨fun v82 H =>
    @opi _ (lift (some v82) H) ⟨fun v10 H =>
    some (AFr.al [(0, fr 0), (1, fr 1), (9, fr 9), (10, v10)], H)⟩⟩⟩)
@[simp] noncomputable def r11 (s0 : SpecP) (fr : AFr) (H : AHeap) : ARes :=
  areg (@opi _ (lift (some (fr 9)) H) ⟨fun v83 H =>
    @opi _ (lift (some v83) H) ⟨fun v8 H =>
    some (AFr.al [(8, v8)], H)⟩⟩)
noncomputable def l1 (s0 : SpecP) (fr : AFr) (H : AHeap) : ARes :=
  @aseqi (@aseqi (r3 s0 fr H) ⟨fun fr H =>
  @acondi (fr 43)
    ⟨some (.normal, fr, H)⟩
    ⟨some (.exit 2, fr, H)⟩⟩) ⟨fun fr H =>
  aexit 3 (r4 s0 fr H)⟩
noncomputable def l2 (s0 : SpecP) (fr : AFr) (H : AHeap) : ARes :=
  @aseqi (@aseqi (r5 s0 fr H) ⟨fun fr H =>
  @acondi (fr 59)
    ⟨some (.normal, fr, H)⟩
    ⟨some (.exit 4, fr, H)⟩⟩) ⟨fun fr H =>
  aexit 5 (r6 s0 fr H)⟩
noncomputable def l0 (s0 : SpecP) (fr : AFr) (H : AHeap) : ARes :=
  aexit 1 (@aseqi (aexit 2 (aloop (l1 s0) fr H)) ⟨fun fr H =>
  @aseqi (aexit 4 (aloop (l2 s0) fr H)) ⟨fun fr H =>
  @aseqi (@aseqi (r7 s0 fr H) ⟨fun fr H =>
  @acondi (fr 64)
    ⟨some (.exit 0, fr, H)⟩
    ⟨some (.normal, fr, H)⟩⟩) ⟨fun fr H =>
  @aseqi (r8 s0 fr H) ⟨fun fr H =>
  @aseqi (r9 s0 fr H) ⟨fun fr H =>
  r10 s0 fr H⟩⟩⟩⟩⟩)
@[simp] noncomputable def body (s0 : SpecP) (fr : AFr) (H : AHeap) : ARes :=
  @aseqi (r0 s0 fr H) ⟨fun fr H =>
  @aseqi (r1 s0 fr H) ⟨fun fr H =>
  @aseqi (r2 s0 fr H) ⟨fun fr H =>
  @aseqi (aexit 0 (aloop (l0 s0) fr H)) ⟨fun fr H =>
  @aseqi (r11 s0 fr H) ⟨fun fr H =>
  some (.ret, fr, H)⟩⟩⟩⟩⟩
@[simp] def res (fr : AFr) (H : AHeap) : Option (List AV) := res2 (some (fr 8)) (some [])
end slices_partitionEqualOrdered_int
noncomputable def slices_partitionEqualOrdered_int (a0 a1 a2 a3 : AV) : Option AV := closeUpR (some [[none]]) (afinR slices_partitionEqualOrdered_int.res (slices_partitionEqualOrdered_int.body cmp_Less_int.spec (args0 [a0, a1, a2, a3]) AHeap.empty))
noncomputable def slices_partitionEqualOrdered_int.spec : List AV → Option AV
  | [a0, a1, a2, a3] => slices_partitionEqualOrdered_int a0 a1 a2 a3
  | _ => none

/-! slices.partitionOrdered[int]: function 89 -/
namespace slices_partitionOrdered_int
noncomputable def C (s0 : SpecP) : Tab := (Tab.none.add 87 (.pure false s0))
@[simp] noncomputable def r0 (s0 : SpecP) (fr : AFr) (H : AHeap) : ARes :=
  areg (@opi _ (lift (some (.int .i64 0)) H) ⟨fun v8 H =>
    @opi _ (lift (some (.bool false)) H) ⟨fun v9 H =>
    some (AFr.al [(0, fr 0), (1, fr 1), (2, fr 2), (3, fr 3)], H)⟩⟩)
@[simp] noncomputable def r1 (s0 : SpecP) (fr : AFr) (H : AHeap) : ARes :=
  areg (@opi _ (lift (some (fr 0)) H) ⟨fun v12 H1 =>
    @opi _ (lift (some (fr 1)) H1) ⟨fun v13 H2 =>
    @opi _ (lift (some (fr 0)) H2) ⟨fun v14 H3 =>
    @opi _ (lift (some (fr 3)) H3) ⟨fun v15 H4 =>
    @opi _ (lift (some (fr 0)) H4) ⟨fun v16 H5 =>
    @opi _ (lift (some (fr 3)) H5) ⟨fun v17 H6 =>
    @opi _ (lift (aindexAddrR (.sl 1) v16 v17) H6) ⟨fun v18 H7 =>
    @opi _ (lift (aloadR (some none) v18 H7) H7) ⟨fun v19 H8 =>
    @opi _ (lift (some (fr 0)) H8) ⟨fun v20 H9 =>
    @opi _ (lift (some (fr 1)) H9) ⟨fun v21 H10 =>
    @opi _ (lift (aindexAddrR (.sl 1) v20 v21) H10) ⟨fun v22 H11 =>
    @opi _ (lift (aloadR (some none) v22 H11) H11) ⟨fun v23 H12 =>
    @opi _ (lift (aindexAddrR (.sl 1) v12 v13) H12) ⟨fun v24 H13 =>
    @opi _ (liftS (astoreR (some 1) v24 v19 H13)) ⟨fun _ H14 =>
    @opi _ (lift (aindexAddrR (.sl 1) v14 v15) H14) ⟨fun v25 H15 =>
    @opi _ (liftS (astoreR (some 1) v25 v23 H15)) ⟨fun _ H16 =>
    some (AFr.al [(0, fr 0), (1, fr 1), (2, fr 2)], H16)⟩⟩⟩⟩⟩⟩⟩⟩⟩⟩⟩⟩⟩⟩⟩⟩)
@[simp] noncomputable def r2 (s0 : SpecP) (fr : AFr) (H : AHeap) : ARes :=
  areg (@opi _ (lift (some (fr 1)) H) ⟨fun v26 H =>
    @opi _ (lift (abinR .x .add v26 (.int .i64 1)) H) ⟨fun v27 H =>
    @opi _ (lift (some (fr 2)) H) ⟨fun v28 H =>
    @opi _ (lift (abinR .x .sub v28 (.int .i64 1)) H) ⟨fun v29 H =>
    @opi _ (lift (some v27) H) ⟨fun v10 H =>
    @opi _ (lift (some v29) H) ⟨fun v11 H =>
    some (AFr.al [(0, fr 0), (1, fr 1), (10, v10), (11, v11)], H)⟩⟩⟩⟩⟩⟩)
@[simp] noncomputable def r3 (s0 : SpecP) (fr : AFr) (H : AHeap) : ARes :=
  areg (@opi _ (lift (some (fr 10)) H) ⟨fun v30 H1 =>
    @opi _ (lift (some (fr 11)) H1) ⟨fun v31 H2 =>
    @opi _ (lift (abinR .x .leq v30 v31) H2) ⟨fun v32 H3 =>
    @opi _ (lift (some v32) H3) ⟨fun v33 H4 =>
    @opi _ (@gdi (gw v33 true) ⟨lift (some (fr 0)) H4⟩ H4) ⟨fun v34 H5 =>
    @opi _ (@gdi (gw v33 true) ⟨lift (some (fr 10)) H5⟩ H5) ⟨fun v35 H6 =>
    @opi _ (@gdi (gw v33 true) ⟨lift (aindexAddrR (.sl 1) v34 v35) H6⟩ H6) ⟨fun v36 H7 =>
    @opi _ (@gdi (gw v33 true) ⟨lift (aloadR (some none) v36 H7) H7⟩ H7) ⟨fun v37 H8 =>
    @opi _ (@gdi (gw v33 true) ⟨lift (some (fr 0)) H8⟩ H8) ⟨fun v38 H9 =>
    @opi _ (@gdi (gw v33 true) ⟨lift (some (fr 1)) H9⟩ H9) ⟨fun v39 H10 =>
    @opi _ (@gdi (gw v33 true) ⟨lift (aindexAddrR (.sl 1) v38 v39) H10⟩ H10) ⟨fun v40 H11 =>
    @opi _ (@gdi (gw v33 true) ⟨lift (aloadR (some none) v40 H11) H11⟩ H11) ⟨fun v41 H12 =>
    @opi _ (@gdi (gw v33 true) ⟨callP false s0 [[none], [none]] [v37, v41] H12⟩ H12) ⟨fun v42 H13 =>
    @opi _ (lift (apick v33 v42 (.bool false)) H13) ⟨fun v43 H14 =>
    some (AFr.al [(0, fr 0), (1, fr 1), (10, fr 10), (11, fr 11), (43, v43)], H14)⟩⟩⟩⟩⟩⟩⟩⟩⟩⟩⟩⟩⟩⟩)
@[simp] noncomputable def r4 (s0 : SpecP) (fr : AFr) (H : AHeap) : ARes :=
  areg (@opi _ (lift (some (fr 10)) H) ⟨fun v44 H =>
    @opi _ (lift (abinR .x .add v44 (.int .i64 1)) H) ⟨fun v45 H =>
    @opi _ (lift (some v45) H) ⟨fun v10 H =>
    some (AFr.al [(0, fr 0), (1, fr 1), (10, v10), (11, fr 11)], H)⟩⟩⟩)
@[simp] noncomputable def r5 (s0 : SpecP) (fr : AFr) (H : AHeap) : ARes :=
  areg (@opi _ (lift (some (fr 10)) H) ⟨fun v46 H1 =>
    @opi _ (lift (some (fr 11)) H1) ⟨fun v47 H2 =>
    @opi _ (lift (abinR .x .leq v46 v47) H2) ⟨fun v48 H3 =>
    @opi _ (lift (some v48) H3) ⟨fun v49 H4 =>
    @opi _ (@gdi (gw v49 true) ⟨lift (some (fr 0)) H4⟩ H4) ⟨fun v50 H5 =>
    @opi _ (@gdi (gw v49 true) ⟨lift (some (fr 11)) H5⟩ H5) ⟨fun v51 H6 =>
    @opi _ (@gdi (gw v49 true) ⟨lift (aindexAddrR (.sl 1) v50 v51) H6⟩ H6) ⟨fun v52 H7 =>
    @opi _ (@gdi (gw v49 true) ⟨lift (aloadR (some none) v52 H7) H7⟩ H7) ⟨fun v53 H8 =>
    @opi _ (@gdi (gw v49 true) ⟨lift (some (fr 0)) H8⟩ H8) ⟨fun v54 H9 =>
    @opi _ (@gdi (gw v49 true) ⟨lift (some (fr 1)) H9⟩ H9) ⟨fun v55 H10 =>
    @opi _ (@gdi (gw v49 true) ⟨lift (aindexAddrR (.sl 1) v54 v55) H10⟩ H10) ⟨fun v56 H11 =>
    @opi _ (@gdi (gw v49 true) ⟨lift (aloadR (some none) v56 H11) H11⟩ H11) ⟨fun v57 H12 =>
    @opi _ (@gdi (gw v49 true) ⟨callP false s0 [[none], [none]] [v53, v57] H12⟩ H12) ⟨fun v58 H13 =>
    @opi _ (@gdi (gw v49 true) ⟨lift (aun .not v58) H13⟩ H13) ⟨fun v59 H14 =>
    @opi _ (lift (apick v49 v59 (.bool false)) H14) ⟨fun v60 H15 =>
    some (AFr.al [(0, fr 0), (1, fr 1), (10, fr 10), (11, fr 11), (60, v60)], H15)⟩⟩⟩⟩⟩⟩⟩⟩⟩⟩⟩⟩⟩⟩⟩)
@[simp] noncomputable def r6 (s0 : SpecP) (fr : AFr) (H : AHeap) : ARes :=
  areg (@opi _ (lift (some (fr 11)) H) ⟨fun v61 H =>
    @opi _ (lift (abinR .x .sub v61 (.int .i64 1)) H) ⟨fun v62 H =>
    @opi _ (lift (some v62) H) ⟨fun v11 H =>
    some (AFr.al [(0, fr 0), (1, fr 1), (10, fr 10), (11, v11)], H)⟩⟩⟩)
@[simp] noncomputable def r7 (s0 : SpecP) (fr : AFr) (H : AHeap) : ARes :=
  areg (@opi _ (lift (some (fr 10)) H) ⟨fun v63 H =>
    @opi _ (lift (some (fr 11)) H) ⟨fun v64 H =>
    @opi _ (lift (abinR .x .gtr v63 v64) H) ⟨fun v65 H =>
    some (AFr.al [(0, fr 0), (1, fr 1), (10, fr 10), (11, fr 11), (65, v65)], H)⟩⟩⟩)
@[simp] noncomputable def r8 (s0 : SpecP) (fr : AFr) (H : AHeap) : ARes :=
  areg (@opi _ (lift (some (fr 0)) H) ⟨fun v66 H1 =>
    @opi _ (lift (some (fr 11)) H1) ⟨fun v67 H2 =>
    @opi _ (lift (some (fr 0)) H2) ⟨fun v68 H3 =>
    @opi _ (lift (some (fr 1)) H3) ⟨fun v69 H4 =>
    @opi _ (lift (some (fr 0)) H4) ⟨fun v70 H5 =>
    @opi _ (lift (some (fr 1)) H5) ⟨fun v71 H6 =>
    @opi _ (lift (aindexAddrR (.sl 1) v70 v71) H6) ⟨fun v72 H7 =>
    @opi _ (lift (aloadR (some none) v72 H7) H7) ⟨fun v73 H8 =>
    @opi _ (lift (some (fr 0)) H8) ⟨fun v74 H9 =>
    @opi _ (lift (some (fr 11)) H9) ⟨fun v75 H10 =>
    @opi _ (lift (aindexAddrR (.sl 1) v74 v75) H10) ⟨fun v76 H11 =>
    @opi _ (lift (aloadR (some none) v76 H11) H11) ⟨fun v77 H12 =>
    @opi _ (lift (aindexAddrR (.sl 1) v66 v67) H12) ⟨fun v78 H13 =>
    @opi _ (liftS (astoreR (some 1) v78 v73 H13)) ⟨fun _ H14 =>
    @opi _ (lift (aindexAddrR (.sl 1) v68 v69) H14) ⟨fun v79 H15 =>
    @opi _ (liftS (astoreR (some 1) v79 v77 H15)) ⟨fun _ H16 =>
    some (AFr.al [(11, fr 11)], H16)⟩⟩⟩⟩⟩⟩⟩⟩⟩⟩⟩⟩⟩⟩⟩⟩)
@[simp] noncomputable def r9 (s0 : SpecP) (fr : AFr) (H : AHeap) : ARes :=
  areg (@opi _ (lift (some (fr 11)) H) ⟨fun v80 H =>
    @opi _ (lift (some v80) H) ⟨fun v8 H =>
    @opi _ (lift (some (.bool true)) H) ⟨fun v9 H =>
    some (AFr.al [(8, v8), (9, v9)], H)⟩⟩⟩)
@[simp] noncomputable def r10 (s0 : SpecP) (fr : AFr) (H : AHeap) : ARes :=
  areg (@opi _ (lift (some (fr 0)) H) ⟨fun v81 H1 =>
    @opi _ (lift (some (fr 10)) H1) ⟨fun v82 H2 =>
    @opi _ (lift (some (fr 0)) H2) ⟨fun v83 H3 =>
    @opi _ (lift (some (fr 11)) H3) ⟨fun v84 H4 =>
    @opi _ (lift (some (fr 0)) H4) ⟨fun v85 H5 =>
    @opi _ (lift (some (fr 11)) H5) ⟨fun v86 H6 =>
    @opi _ (lift (aindexAddrR (.sl 1) v85 v86) H6) ⟨fun v87 H7 =>
    @opi _ (lift (aloadR (some none) v87 H7) H7) ⟨fun v88 H8 =>
    @opi _ (lift (some (fr 0)) H8) ⟨fun v89 H9 =>
    @opi _ (lift (some (fr 10)) H9) ⟨fun v90 H10 =>
    @opi _ (lift (aindexAddrR (.sl 1) v89 v90) H10) ⟨fun v91 H11 =>
    @opi _ (lift (aloadR (some none) v91 H11) H11) ⟨fun v92 H12 =>
    @opi _ (lift (aindexAddrR (.sl 1) v81 v82) H12) ⟨fun v93 H13 =>
    @opi _ (liftS (astoreR (some 1) v93 v88 H13)) ⟨fun _ H14 =>
    @opi _ (lift (aindexAddrR (.sl 1) v83 v84) H14) ⟨fun v94 H15 =>
    @opi _ (liftS (astoreR (some 1) v94 v92 H15)) ⟨fun _ H16 =>
    some (AFr.al [(0, fr 0), (1, fr 1), (10, fr 10), (11, fr 11)], H16)⟩⟩⟩⟩⟩⟩⟩⟩⟩⟩⟩⟩⟩⟩⟩⟩)
@[simp] noncomputable def r11 (s0 : SpecP) (fr : AFr) (H : AHeap) : ARes :=
  areg (@opi _ (lift (some (fr 10)) H) ⟨fun v95 H =>
    @opi _ (lift (abinR .x .add v95 (.int .i64 1)) H) ⟨fun v96 H =>
    @opi _ (lift (some v96) H) ⟨fun v10 H =>
    some (AFr.al [(0, fr 0), (1, fr 1), (10, v10), (11, fr 11)], H)⟩⟩⟩)
@[simp] noncomputable def r12 (s0 : SpecP) (fr : AFr) (H : AHeap) : ARes :=
  areg (@opi _ (lift (some (fr 11)) H) ⟨fun v97 H =>
    @opi _ (lift (abinR .x .sub v97 (.int .i64 1)) H) ⟨fun v98 H =>
    @opi _ (lift (some v98) H) ⟨fun v11 H =>
    some (AFr.al [(0, fr 0), (1, fr 1), (10, fr 10), (11, v11)], H)⟩⟩⟩)
@[simp] noncomputable def r13 (s0 : SpecP) (fr : AFr) (H : AHeap) : ARes :=
  areg (@opi _ (lift (some (fr 10)) H) ⟨fun v99 H1 =>
    @opi _ (lift (some (fr 11)) H1) ⟨fun v100 H2 =>
    @opi _ (lift (abinR .x .leq v99 v100) H2) ⟨fun v101 H3 =>
    @opi _ (lift (some v101) H3) ⟨fun v102 H4 =>
    @opi _ (@gdi (gw v102 true) ⟨lift (some (fr 0)) H4⟩ H4) ⟨fun v103 H5 =>
    @opi _ (@gdi (gw v102 true) ⟨lift (some (fr 10)) H5⟩ H5) ⟨fun v104 H6 =>
    @opi _ (@gdi (gw v102 true) ⟨lift (aindexAddrR (.sl 1) v103 v104) H6⟩ H6) ⟨fun v105 H7 =>
    @opi _ (@gdi (gw v102 true) ⟨lift (aloadR (some none) v105 H7) H7⟩ H7) ⟨fun v106 H8 =>
    @opi _ (@gdi (gw v102 true) ⟨lift (some (fr 0)) H8⟩ H8) ⟨fun v107 H9 =>
    @opi _ (@gdi (gw v102 true) ⟨lift (some (fr 1)) H9⟩ H9) ⟨fun v108 H10 =>
    @opi _ (@gdi (gw v102 true) ⟨lift (aindexAddrR (.sl 1) v107 v108) H10⟩ H10) ⟨fun v109 H11 =>
    @opi _ (@gdi (gw v102 true) ⟨lift (aloadR (some none) v109 H11) H11⟩ H11) ⟨fun v110 H12 =>
    @opi _ (@gdi (gw v102 true) ⟨callP false s0 [[none], [none]] [v106, v110] H12⟩ H12) ⟨fun v111 H13 =>
    @opi _ (lift (apick v102 v111 (.bool false)) H13) ⟨fun v112 H14 =>
    some (AFr.al [(0, fr 0), (1, fr 1), (10, fr 10), (11, fr 11), (112, v112)], H14)⟩⟩⟩⟩⟩⟩⟩⟩⟩⟩⟩⟩⟩⟩)
@[simp] noncomputable def r14 (s0 : SpecP) (fr : AFr) (H : AHeap) : ARes :=
  areg (@opi _ (lift (some (fr 10)) H) ⟨fun v113 H =>
    @opi _ (lift (abinR .x .add v113 (.int .i64 1)) H) ⟨fun v114 H =>
    @opi _ (lift (some v114) H) ⟨fun v10 H =>
    some (AFr.al [(0, fr 0), (1, fr 1), (10, v10), (11, fr 11)], H)⟩⟩⟩)
@[simp] noncomputable def r15 (s0 : SpecP) (fr : AFr) (H : AHeap) : ARes :=
  areg (@opi _ (lift (some (fr 10)) H) ⟨fun v115 H1 =>
    @opi _ (lift (some (fr 11)) H1) ⟨fun v116 H2 =>
    @opi _ (lift (abinR .x .leq v115 v116) H2) ⟨fun v117 H3 =>
    @opi _ (lift (some v117) H3) ⟨fun v118 H4 =>
    @opi _ (@gdi (gw v118 true) ⟨lift (some (fr 0)) H4⟩ H4) ⟨fun v119 H5 =>
    @opi _ (@gdi (gw v118 true) ⟨lift (some (fr 11)) H5⟩ H5) ⟨fun v120 H6 =>
    @opi _ (@gdi (gw v118 true) ⟨lift (aindexAddrR (.sl 1) v119 v120) H6⟩ H6) ⟨fun v121 H7 =>
    @opi _ (@gdi (gw v118 true) ⟨lift (aloadR (some none) v121 H7) H7⟩ H7) ⟨fun v122 H8 =>
    @opi _ (@gdi (gw v118 true) ⟨lift (some (fr 0)) H8⟩ H8) ⟨fun v123 H9 =>
    @opi _ (@gdi (gw v118 true) ⟨lift (some (fr 1)) H9⟩ H9) ⟨fun v124 H10 =>
    @opi _ (@gdi (gw v118 true) ⟨lift (aindexAddrR (.sl 1) v123 v124) H10⟩ H10) ⟨fun v125 H11 =>
    @opi _ (@gdi (gw v118 true) ⟨lift (aloadR (some none) v125 H11) H11⟩ H11) ⟨fun v126 H12 =>
    @opi _ (@gdi (gw v118 true) ⟨callP false s0 [[none], [none]] [v122, v126] H12⟩ H12) ⟨fun v127 H13 =>
    @opi _ (@gdi (gw v118 true) ⟨lift (aun .not v127) H13⟩ H13) ⟨fun v128 H14 =>
    @opi _ (lift (apick v118 v128 (.bool false)) H14) ⟨fun v129 H15 =>
    some (AFr.al [(0, fr 0), (1, fr 1), (10, fr 10), (11, fr 11), (129, v129)], H15)⟩⟩⟩⟩⟩⟩⟩⟩⟩⟩⟩⟩⟩⟩⟩)
@[simp] noncomputable def r16 (s0 : SpecP) (fr : AFr) (H : AHeap) : ARes :=
  areg (@opi _ (lift (some (fr 11)) H) ⟨fun v130 H =>
    @opi _ (lift (abinR .x .sub v130 (.int .i64 1)) H) ⟨fun v131 H =>
    @opi _ (lift (some v131) H) ⟨fun v11 H =>
    some (AFr.al [(0, fr 0), (1, fr 1), (10, fr 10), (11, v11)], H)⟩⟩⟩)
@[simp] noncomputable def r17 (s0 : SpecP) (fr : AFr) (H : AHeap) : ARes :=
  areg (@opi _ (lift (some (fr 10)) H) ⟨fun v132 H =>
    @opi _ (lift (some (fr 11)) H) ⟨fun v133 H =>
    @opi _ (lift (abinR .x .gtr v132 v133) H) ⟨fun v134 H =>
    some (AFr.al [(0, fr 0), (1, fr 1), (10, fr 10), (11, fr 11), (134, v134)], H)⟩⟩⟩)
@[simp] noncomputable def r18 (s0 : SpecP) (fr : AFr) (H : AHeap) : ARes :=
  areg (@opi _ (lift (some (fr 0)) H) ⟨fun v135 H1 =>
    @opi _ (lift (some (fr 10)) H1) ⟨fun v136 H2 =>
    @opi _ (lift (some (fr 0)) H2) ⟨fun v137 H3 =>
    @opi _ (lift (some (fr 11)) H3) ⟨fun v138 H4 =>
    @opi _ (lift (some (fr 0)) H4) ⟨fun v139 H5 =>
    @opi _ (lift (some (fr 11)) H5) ⟨fun v140 H6 =>
    @opi _ (lift (aindexAddrR (.sl 1) v139 v140) H6) ⟨fun v141 H7 =>
    @opi _ (lift (aloadR (some none) v141 H7) H7) ⟨fun v142 H8 =>
    @opi _ (lift (some (fr 0)) H8) ⟨fun v143 H9 =>
    @opi _ (lift (some (fr 10)) H9) ⟨fun v144 H10 =>
    @opi _ (lift (aindexAddrR (.sl 1) v143 v144) H10) ⟨fun v145 H11 =>
    @opi _ (lift (aloadR (some none) v145 H11) H11) ⟨fun v146 H12 =>
    @opi _ (lift (aindexAddrR (.sl 1) v135 v136) H12) ⟨fun v147 H13 =>
    @opi _ (liftS (astoreR (some 1) v147 v142 H13)) ⟨fun _ H14 =>
    @opi _ (lift (aindexAddrR (.sl 1) v137 v138) H14) ⟨fun v148 H15 =>
    @opi _ (liftS (astoreR (some 1) v148 v146 H15)) ⟨fun _ H16 =>
    some (AFr.al [(0, fr 0), (1, fr 1), (10, fr 10), (11, fr 11)], H16)⟩⟩⟩⟩⟩⟩⟩⟩⟩⟩⟩⟩⟩⟩⟩⟩)
@[simp] noncomputable def r19 (s0 : SpecP) (fr : AFr) (H : AHeap) : ARes :=
  areg (@opi _ (lift (some (fr 10)) H) ⟨fun v149 H =>
    @opi _ (lift (abinR .x .add v149 (.int .i64 1)) H) ⟨fun v150 H =>
    @opi _ (lift (some v150) H) ⟨fun v10 H =>
    some (AFr.al [(0, fr 0), (1, fr 1), (10, v10), (11, fr 11)], H)⟩⟩⟩)
@[simp] noncomputable def r20 (s0 : SpecP) (fr : AFr) (H : AHeap) : ARes :=
  areg (@opi _ (lift (some (fr 11)) H) ⟨fun v151 H =>
    @opi _ (lift (abinR .x .sub v151 (.int .i64 1)) H) ⟨fun v152 H =>
    @opi _ (lift (some v152) H) ⟨fun v11 H =>
    some (AFr.al [(0, fr 0), (1, fr 1), (10, fr 10), (11, v11)], H)⟩⟩⟩)
@[simp] noncomputable def r21 (s0 : SpecP) (fr : AFr) (H : AHeap) : ARes :=
  areg (@opi _ (lift (some (fr 0)) H) ⟨fun v153 H1 =>
    @opi _ (lift (some (fr 11)) H1) ⟨fun v154 H2 =>
    @opi _ (lift (some (fr 0)) H2) ⟨fun v155 H3 =>
    @opi _ (lift (some (fr 1)) H3) ⟨fun v156 H4 =>
    @opi _ (lift (some (fr 0)) H4) ⟨fun v157 H5 =>
    @opi _ (lift (some (fr 1)) H5) ⟨fun v158 H6 =>
    @opi _ (lift (aindexAddrR (.sl 1) v157 v158) H6) ⟨fun v159 H7 =>
    @opi _ (lift (aloadR (some none) v159 H7) H7) ⟨fun v160 H8 =>
    @opi _ (lift (some (fr 0)) H8) ⟨fun v161 H9 =>
    @opi _ (lift (some (fr 11)) H9) ⟨fun v162 H10 =>
    @opi _ (lift (aindexAddrR (.sl 1) v161 v162) H10) ⟨fun v163 H11 =>
    @opi _ (lift (aloadR (some none) v163 H11) H11) ⟨fun v164 H12 =>
    @opi _ (lift (aindexAddrR (.sl 1) v153 v154) H12) ⟨fun v165 H13 =>
    @opi _ (liftS (astoreR (some 1) v165 v160 H13)) ⟨fun _ H14 =>
    @opi _ (lift (aindexAddrR (.sl 1) v155 v156) H14) ⟨fun v166 H15 =>
    @opi _ (liftS (astoreR (some 1) v166 v164 H15)) ⟨fun _ H16 =>
    some (AFr.al [(11, fr 11)], H16)⟩⟩⟩⟩⟩⟩⟩⟩⟩⟩⟩⟩⟩⟩⟩⟩)
@[simp] noncomputable def r22 (s0 : SpecP) (fr : AFr) (H : AHeap) : ARes :=
  areg (@opi _ (lift (some (fr 11)) H) ⟨fun v167 H =>
    @opi _ (lift (some v167) H) ⟨fun v8 H =>
    @opi _ (lift (some (.bool false)) H) ⟨fun v9 H =>
    some (AFr.al [(8, v8), (9, v9)], H)⟩⟩⟩)
noncomputable def l0 (s0 : SpecP) (fr : AFr) (H : AHeap) : ARes :=
  @aseqi (@aseqi (r3 s0 fr H) ⟨fun fr H =>
  @acondi (fr 43)
    ⟨some (.normal, fr, H)⟩
    ⟨some (.exit 0, fr, H)⟩⟩) ⟨fun fr H =>
  aexit 1 (r4 s0 fr H)⟩
noncomputable def l1 (s0 : SpecP) (fr : AFr) (H : AHeap) : ARes :=
  @aseqi (@aseqi (r5 s0 fr H) ⟨fun fr H =>
  @acondi (fr 60)
    ⟨some (.normal, fr, H)⟩
    ⟨some (.exit 2, fr, H)⟩⟩) ⟨fun fr H =>
  aexit 3 (r6 s0 fr H)⟩
noncomputable def l3 (s0 : SpecP) (fr : AFr) (H : AHeap) : ARes :=
  @aseqi (@aseqi (r13 s0 fr H) ⟨fun fr H =>
  @acondi (fr 112)
    ⟨some (.normal, fr, H)⟩
    ⟨some (.exit 6, fr, H)⟩⟩) ⟨fun fr H =>
  aexit 7 (r14 s0 fr H)⟩
noncomputable def l4 (s0 : SpecP) (fr : AFr) (H : AHeap) : ARes :=
  @aseqi (@aseqi (r15 s0 fr H) ⟨fun fr H =>
  @acondi (fr 129)
    ⟨some (.normal, fr, H)⟩
    ⟨some (.exit 8, fr, H)⟩⟩) ⟨fun fr H =>
  aexit 9 (r16 s0 fr H)⟩
noncomputable def l2 (s0 : SpecP) (fr : AFr) (H : AHeap) : ARes :=
  aexit 5 (@aseqi (aexit 6 (aloop (l3 s0) fr H)) ⟨fun fr H =>
  @aseqi (aexit 8 (aloop (l4 s0) fr H)) ⟨fun fr H =>
  @aseqi (@aseqi (r17 s0 fr H) ⟨fun fr H =>
  @acondi (fr 134)
    ⟨some (.exit 4, fr, H)⟩
    ⟨some (.normal, fr, H)⟩⟩) ⟨fun fr H =>
  @aseqi (r18 s0 fr H) ⟨fun fr H =>
  @aseqi (r19 s0 fr H) ⟨fun fr H =>
  r20 s0 fr H⟩⟩⟩⟩⟩)
@[simp] noncomputable def body (s0 : SpecP) (fr : AFr) (H : AHeap) : ARes :=
  @aseqi (r0 s0 fr H) ⟨fun fr H =>
  @aseqi (r1 s0 fr H) ⟨fun fr H =>
  @aseqi (r2 s0 fr H) ⟨fun fr H =>
  @aseqi (aexit 0 (aloop (l0 s0) fr H)) ⟨fun fr H =>
  @aseqi (aexit 2 (aloop (l1 s0) fr H)) ⟨fun fr H =>
  @aseqi (@aseqi (r7 s0 fr H) ⟨fun fr H =>
  @acondi (fr 65)
    ⟨@aseqi (r8 s0 fr H) ⟨fun fr H =>
    @aseqi (r9 s0 fr H) ⟨fun fr H =>
    some (.ret, fr, H)⟩⟩⟩
    ⟨some (.normal, fr, H)⟩⟩) ⟨fun fr H =>
  @aseqi (r10 s0 fr H) ⟨fun fr H =>
  @aseqi (r11 s0 fr H) ⟨fun fr H =>
  @aseqi (r12 s0 fr H) ⟨fun fr H =>
  @aseqi (aexit 4 (aloop (l2 s0) fr H)) ⟨fun fr H =>
  @aseqi (r21 s0 fr H) ⟨fun fr H =>
  @aseqi (r22 s0 fr H) ⟨fun fr H =>
  some (.ret, fr, H)⟩⟩⟩⟩⟩⟩⟩⟩⟩⟩⟩⟩
@[simp] def res (fr : AFr) (H : AHeap) : Option (List AV) := res2 (some (fr 8)) (res2 (some (fr 9)) (some []))
end slices_partitionOrdered_int
noncomputable def slices_partitionOrdered_int (a0 a1 a2 a3 : AV) : Option AV := closeUpR (some [[none], [none]]) (afinR slices_partitionOrdered_int.res (slices_partitionOrdered_int.body cmp_Less_int.spec (args0 [a0, a1, a2, a3]) AHeap.empty))
noncomputable def slices_partitionOrdered_int.spec : List AV → Option AV
  | [a0, a1, a2, a3] => slices_partitionOrdered_int a0 a1 a2 a3
  | _ => none

end Go.Abs
