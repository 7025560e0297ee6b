/-
  The functions, as they are over abstract values. Printed by gen.py.
-/
import Derived.Test.YtncablokgkejjaaLoF
import Derived.Test.YtncablokgkejjaaCoF
set_option linter.unusedVariables false
namespace Go.Abs
noncomputable section
namespace leak_operands
def C : Tab := Tab.none
@[simp] def r0 (fr : AFr) (H : AHeap) : ARes :=
 areg (o' (abox T.ty_api_State (fr 0) H) ⟨fun v2 H =>
 o' (abox T.ty_api_Ins (fr 1) H) ⟨fun v3 H =>
 e' [(2, v2), (3, v3)] H⟩⟩)
@[simp] def r1 (fr : AFr) (H : AHeap) : ARes :=
 areg (q' (fa' 0 (fr 3)) H ⟨fun v10 H =>
 q' (ld' v10 H) H ⟨fun v11 H =>
 q' (bn' .gtr v11 (.int .i64 16)) H ⟨fun v12 H =>
 e' [(2, fr 2), (3, fr 3), (12, v12)] H⟩⟩⟩)
@[simp] def r2 (fr : AFr) (H : AHeap) : ARes :=
 areg (e' [(4, (W32 0#32)), (5, (W32 0#32))] H)
@[simp] def r3 (fr : AFr) (H : AHeap) : ARes :=
 areg (q' (fa' 4 (fr 3)) H ⟨fun v13 H =>
 q' (ld' v13 H) H ⟨fun v14 H =>
 q' (aconvR (some .u32) v14) H ⟨fun v15 H =>
 e' [(2, fr 2), (3, fr 3), (6, v15)] H⟩⟩⟩)
@[simp] def r4 (fr : AFr) (H : AHeap) : ARes :=
 areg (q' (fa' 1 (fr 3)) H ⟨fun v16 H1 =>
 q' (ld' v16 H1) H1 ⟨fun v17 H2 =>
 q' (fa' 0 (fr 2)) H2 ⟨fun v18 H3 =>
 q' (aindexAddrR (.arr 8 1) v18 v17) H3 ⟨fun v19 H4 =>
 q' (ld' v19 H4) H4 ⟨fun v20 H5 =>
 q' (fa' 2 (fr 3)) H5 ⟨fun v21 H6 =>
 q' (ld' v21 H6) H6 ⟨fun v22 H7 =>
 q' (fa' 0 (fr 2)) H7 ⟨fun v23 H8 =>
 q' (aindexAddrR (.arr 8 1) v23 v22) H8 ⟨fun v24 H9 =>
 q' (ld' v24 H9) H9 ⟨fun v25 H10 =>
 q' (fa' 3 (fr 3)) H10 ⟨fun v26 H11 =>
 q' (ld' v26 H11) H11 ⟨fun v27 H12 =>
 q' (fa' 0 (fr 2)) H12 ⟨fun v28 H13 =>
 q' (aindexAddrR (.arr 8 1) v28 v27) H13 ⟨fun v29 H14 =>
 q' (ld' v29 H14) H14 ⟨fun v30 H15 =>
 q' (some v20) H15 ⟨fun v7 H16 =>
 q' (some v25) H16 ⟨fun v8 H17 =>
 q' (some v30) H17 ⟨fun v9 H18 =>
 e' [(3, fr 3), (6, fr 6), (7, v7), (8, v8), (9, v9)] H18⟩⟩⟩⟩⟩⟩⟩⟩⟩⟩⟩⟩⟩⟩⟩⟩⟩⟩)
@[simp] def r5 (fr : AFr) (H : AHeap) : ARes :=
 areg (q' (fa' 0 (fr 3)) H ⟨fun v31 H =>
 q' (ld' v31 H) H ⟨fun v32 H =>
 e' [(6, fr 6), (7, fr 7), (8, fr 8), (9, fr 9), (32, v32)] H⟩⟩)
@[simp] def r6 (fr : AFr) (H : AHeap) : ARes :=
 areg (q' (bn' .eql (fr 32) (.int .i64 0)) H ⟨fun v34 H =>
 e' [(6, fr 6), (7, fr 7), (8, fr 8), (9, fr 9), (32, fr 32), (33, v34)] H⟩)
@[simp] def r7 (fr : AFr) (H : AHeap) : ARes :=
 areg (e' [(4, (W32 0#32)), (5, (fr 6))] H)
@[simp] def r8 (fr : AFr) (H : AHeap) : ARes :=
 areg (q' (bn' .eql (fr 32) (.int .i64 1)) H ⟨fun v37 H =>
 e' [(6, fr 6), (7, fr 7), (8, fr 8), (9, fr 9), (32, fr 32), (36, v37)] H⟩)
@[simp] def r9 (fr : AFr) (H : AHeap) : ARes :=
 areg (q' (bn' .eql (fr 32) (.int .i64 2)) H ⟨fun v38 H =>
 e' [(6, fr 6), (7, fr 7), (8, fr 8), (9, fr 9), (32, fr 32), (36, v38)] H⟩)
@[simp] def r10 (fr : AFr) (H : AHeap) : ARes :=
 areg (q' (bn' .eql (fr 32) (.int .i64 3)) H ⟨fun v39 H =>
 e' [(6, fr 6), (7, fr 7), (8, fr 8), (9, fr 9), (32, fr 32), (36, v39)] H⟩)
@[simp] def r11 (fr : AFr) (H : AHeap) : ARes :=
 areg (e' [(4, (fr 7)), (5, (fr 6))] H)
@[simp] def r12 (fr : AFr) (H : AHeap) : ARes :=
 areg (q' (bn' .eql (fr 32) (.int .i64 4)) H ⟨fun v43 H =>
 e' [(6, fr 6), (7, fr 7), (8, fr 8), (9, fr 9), (32, fr 32), (42, v43)] H⟩)
@[simp] def r13 (fr : AFr) (H : AHeap) : ARes :=
 areg (q' (bn' .eql (fr 32) (.int .i64 5)) H ⟨fun v44 H =>
 e' [(6, fr 6), (7, fr 7), (8, fr 8), (9, fr 9), (32, fr 32), (42, v44)] H⟩)
@[simp] def r14 (fr : AFr) (H : AHeap) : ARes :=
 areg (q' (bn' .eql (fr 32) (.int .i64 6)) H ⟨fun v45 H =>
 e' [(6, fr 6), (7, fr 7), (8, fr 8), (9, fr 9), (32, fr 32), (42, v45)] H⟩)
@[simp] def r15 (fr : AFr) (H : AHeap) : ARes :=
 areg (e' [(4, (fr 9)), (5, (fr 6))] H)
@[simp] def r16 (fr : AFr) (H : AHeap) : ARes :=
 areg (q' (bn' .eql (fr 32) (.int .i64 7)) H ⟨fun v49 H =>
 e' [(6, fr 6), (7, fr 7), (8, fr 8), (9, fr 9), (32, fr 32), (48, v49)] H⟩)
@[simp] def r17 (fr : AFr) (H : AHeap) : ARes :=
 areg (q' (bn' .eql (fr 32) (.int .i64 8)) H ⟨fun v50 H =>
 e' [(6, fr 6), (7, fr 7), (8, fr 8), (9, fr 9), (32, fr 32), (48, v50)] H⟩)
@[simp] def r18 (fr : AFr) (H : AHeap) : ARes :=
 areg (q' (bn' .eql (fr 32) (.int .i64 14)) H ⟨fun v51 H =>
 e' [(6, fr 6), (7, fr 7), (8, fr 8), (9, fr 9), (32, fr 32), (48, v51)] H⟩)
@[simp] def r19 (fr : AFr) (H : AHeap) : ARes :=
 areg (e' [(4, (fr 8)), (5, (fr 9))] H)
@[simp] def r20 (fr : AFr) (H : AHeap) : ARes :=
 areg (q' (bn' .eql (fr 32) (.int .i64 9)) H ⟨fun v55 H =>
 e' [(6, fr 6), (7, fr 7), (8, fr 8), (9, fr 9), (32, fr 32), (54, v55)] H⟩)
@[simp] def r21 (fr : AFr) (H : AHeap) : ARes :=
 areg (q' (bn' .eql (fr 32) (.int .i64 10)) H ⟨fun v56 H =>
 e' [(6, fr 6), (7, fr 7), (8, fr 8), (9, fr 9), (32, fr 32), (54, v56)] H⟩)
@[simp] def r22 (fr : AFr) (H : AHeap) : ARes :=
 areg (e' [(4, (fr 8)), (5, (fr 6))] H)
@[simp] def r23 (fr : AFr) (H : AHeap) : ARes :=
 areg (q' (bn' .eql (fr 32) (.int .i64 11)) H ⟨fun v60 H =>
 e' [(6, fr 6), (7, fr 7), (8, fr 8), (9, fr 9), (32, fr 32), (59, v60)] H⟩)
@[simp] def r24 (fr : AFr) (H : AHeap) : ARes :=
 areg (e' [(4, (fr 7)), (5, (fr 9))] H)
@[simp] def r25 (fr : AFr) (H : AHeap) : ARes :=
 areg (q' (bn' .eql (fr 32) (.int .i64 12)) H ⟨fun v64 H =>
 e' [(6, fr 6), (7, fr 7), (8, fr 8), (32, fr 32), (63, v64)] H⟩)
@[simp] def r26 (fr : AFr) (H : AHeap) : ARes :=
 areg (q' (bn' .mul (W32 4#32) (fr 6)) H ⟨fun v67 H =>
 e' [(4, (fr 8)), (5, v67)] H⟩)
@[simp] def r27 (fr : AFr) (H : AHeap) : ARes :=
 areg (q' (bn' .eql (fr 32) (.int .i64 13)) H ⟨fun v69 H =>
 e' [(7, fr 7), (32, fr 32), (68, v69)] H⟩)
@[simp] def r28 (fr : AFr) (H : AHeap) : ARes :=
 areg (q' (bn' .eql (fr 32) (.int .i64 15)) H ⟨fun v70 H =>
 e' [(7, fr 7), (68, v70)] H⟩)
@[simp] def r29 (fr : AFr) (H : AHeap) : ARes :=
 areg (e' [(4, (fr 7)), (5, (W32 0#32))] H)
@[simp] def r30 (fr : AFr) (H : AHeap) : ARes :=
 areg (e' [(4, (W32 0#32)), (5, (W32 0#32))] H)
@[simp] def body (fr : AFr) (H : AHeap) : ARes :=
  s' (r0 fr H) ⟨fun fr H =>
 s' (s' (r1 fr H) ⟨fun fr H =>
 c' (fr 12)
 ⟨s' (r2 fr H) ⟨fun fr H =>
 some (.ret, fr, H)⟩⟩
 ⟨some (.normal, fr, H)⟩⟩) ⟨fun fr H =>
 s' (r3 fr H) ⟨fun fr H =>
 s' (r4 fr H) ⟨fun fr H =>
 s' (s' (r5 fr H) ⟨fun fr H =>
  aexit 0 (s' (r6 fr H) ⟨fun fr H =>
 c' (fr 33)
 ⟨s' (r7 fr H) ⟨fun fr H =>
 some (.ret, fr, H)⟩⟩
 ⟨s' (s' (r8 fr H) ⟨fun fr H =>
 c' (fr 36)
 ⟨some (.normal, fr, H)⟩
 ⟨s' (r9 fr H) ⟨fun fr H =>
 c' (fr 36)
 ⟨some (.normal, fr, H)⟩
 ⟨r10 fr H⟩⟩⟩⟩) ⟨fun fr H =>
 c' (fr 36)
 ⟨s' (r11 fr H) ⟨fun fr H =>
 some (.ret, fr, H)⟩⟩
 ⟨s' (s' (r12 fr H) ⟨fun fr H =>
 c' (fr 42)
 ⟨some (.normal, fr, H)⟩
 ⟨s' (r13 fr H) ⟨fun fr H =>
 c' (fr 42)
 ⟨some (.normal, fr, H)⟩
 ⟨r14 fr H⟩⟩⟩⟩) ⟨fun fr H =>
 c' (fr 42)
 ⟨s' (r15 fr H) ⟨fun fr H =>
 some (.ret, fr, H)⟩⟩
 ⟨s' (s' (r16 fr H) ⟨fun fr H =>
 c' (fr 48)
 ⟨some (.normal, fr, H)⟩
 ⟨s' (r17 fr H) ⟨fun fr H =>
 c' (fr 48)
 ⟨some (.normal, fr, H)⟩
 ⟨r18 fr H⟩⟩⟩⟩) ⟨fun fr H =>
 c' (fr 48)
 ⟨s' (r19 fr H) ⟨fun fr H =>
 some (.ret, fr, H)⟩⟩
 ⟨s' (s' (r20 fr H) ⟨fun fr H =>
 c' (fr 54)
 ⟨some (.normal, fr, H)⟩
 ⟨r21 fr H⟩⟩) ⟨fun fr H =>
 c' (fr 54)
 ⟨s' (r22 fr H) ⟨fun fr H =>
 some (.ret, fr, H)⟩⟩
 ⟨s' (r23 fr H) ⟨fun fr H =>
 c' (fr 59)
 ⟨s' (r24 fr H) ⟨fun fr H =>
 some (.ret, fr, H)⟩⟩
 ⟨s' (r25 fr H) ⟨fun fr H =>
 c' (fr 63)
 ⟨s' (r26 fr H) ⟨fun fr H =>
 some (.ret, fr, H)⟩⟩
 ⟨s' (s' (r27 fr H) ⟨fun fr H =>
 c' (fr 68)
 ⟨some (.normal, fr, H)⟩
 ⟨r28 fr H⟩⟩) ⟨fun fr H =>
 c' (fr 68)
 ⟨s' (r29 fr H) ⟨fun fr H =>
 some (.ret, fr, H)⟩⟩
 ⟨some (.normal, fr, H)⟩⟩⟩⟩⟩⟩⟩⟩⟩⟩⟩⟩⟩⟩⟩⟩)⟩) ⟨fun fr H =>
 s' (r30 fr H) ⟨fun fr H =>
 some (.ret, fr, H)⟩⟩⟩⟩⟩⟩
@[simp] def res (fr : AFr) (H : AHeap) : Option (List AV) := res2 (some (fr 4)) (res2 (some (fr 5)) (some []))
end leak_operands
def leak_operands (a0 a1 : AV) : Option AV := closeUpR (some [[none], [none]]) (afinR leak_operands.res (leak_operands.body (args0 [a0, a1]) AHeap.empty))
def leak_operands.spec : List AV → Option AV
  | [a0, a1] => leak_operands a0 a1
  | _ => none
namespace leak_place
def C : Tab := Tab.none
@[simp] def r0 (fr : AFr) (H : AHeap) : ARes :=
 areg (o' (abox T.ty_api_State (fr 0) H) ⟨fun v2 H =>
 o' (abox T.ty_api_Ins (fr 1) H) ⟨fun v3 H =>
 e' [(2, v2), (3, v3)] H⟩⟩)
@[simp] def r1 (fr : AFr) (H : AHeap) : ARes :=
 areg (q' (fa' 0 (fr 3)) H ⟨fun v6 H =>
 q' (ld' v6 H) H ⟨fun v7 H =>
 e' [(2, fr 2), (3, fr 3), (7, v7)] H⟩⟩)
@[simp] def r2 (fr : AFr) (H : AHeap) : ARes :=
 areg (q' (bn' .eql (fr 7) (.int .i64 12)) H ⟨fun v9 H =>
 e' [(2, fr 2), (3, fr 3), (7, fr 7), (8, v9)] H⟩)
@[simp] def r3 (fr : AFr) (H : AHeap) : ARes :=
 areg (q' (bn' .eql (fr 7) (.int .i64 13)) H ⟨fun v10 H =>
 e' [(2, fr 2), (3, fr 3), (7, fr 7), (8, v10)] H⟩)
@[simp] def r4 (fr : AFr) (H : AHeap) : ARes :=
 areg (q' (fa' 2 (fr 3)) H ⟨fun v11 H1 =>
 q' (ld' v11 H1) H1 ⟨fun v12 H2 =>
 q' (fa' 0 (fr 2)) H2 ⟨fun v13 H3 =>
 q' (aindexAddrR (.arr 8 1) v13 v12) H3 ⟨fun v14 H4 =>
 q' (ld' v14 H4) H4 ⟨fun v15 H5 =>
 q' (fa' 4 (fr 3)) H5 ⟨fun v16 H6 =>
 q' (ld' v16 H6) H6 ⟨fun v17 H7 =>
 q' (aconvR (some .u32) v17) H7 ⟨fun v18 H8 =>
 q' (bn' .mul (W32 4#32) v18) H8 ⟨fun v19 H9 =>
 q' (bn' .add v15 v19) H9 ⟨fun v20 H10 =>
 q' (some v20) H10 ⟨fun v4 H11 =>
 q' (some (.bool true)) H11 ⟨fun v5 H12 =>
 e' [(4, v4), (5, v5)] H12⟩⟩⟩⟩⟩⟩⟩⟩⟩⟩⟩⟩)
@[simp] def r5 (fr : AFr) (H : AHeap) : ARes :=
 areg (q' (bn' .eql (fr 7) (.int .i64 14)) H ⟨fun v22 H =>
 e' [(2, fr 2), (3, fr 3), (7, fr 7), (21, v22)] H⟩)
@[simp] def r6 (fr : AFr) (H : AHeap) : ARes :=
 areg (q' (bn' .eql (fr 7) (.int .i64 15)) H ⟨fun v23 H =>
 e' [(2, fr 2), (3, fr 3), (7, fr 7), (21, v23)] H⟩)
@[simp] def r7 (fr : AFr) (H : AHeap) : ARes :=
 areg (q' (fa' 2 (fr 3)) H ⟨fun v24 H1 =>
 q' (ld' v24 H1) H1 ⟨fun v25 H2 =>
 q' (fa' 0 (fr 2)) H2 ⟨fun v26 H3 =>
 q' (aindexAddrR (.arr 8 1) v26 v25) H3 ⟨fun v27 H4 =>
 q' (ld' v27 H4) H4 ⟨fun v28 H5 =>
 q' (fa' 3 (fr 3)) H5 ⟨fun v29 H6 =>
 q' (ld' v29 H6) H6 ⟨fun v30 H7 =>
 q' (fa' 0 (fr 2)) H7 ⟨fun v31 H8 =>
 q' (aindexAddrR (.arr 8 1) v31 v30) H8 ⟨fun v32 H9 =>
 q' (ld' v32 H9) H9 ⟨fun v33 H10 =>
 q' (bn' .add v28 v33) H10 ⟨fun v34 H11 =>
 q' (some v34) H11 ⟨fun v4 H12 =>
 q' (some (.bool true)) H12 ⟨fun v5 H13 =>
 e' [(4, v4), (5, v5)] H13⟩⟩⟩⟩⟩⟩⟩⟩⟩⟩⟩⟩⟩)
@[simp] def r8 (fr : AFr) (H : AHeap) : ARes :=
 areg (q' (bn' .eql (fr 7) (.int .i64 16)) H ⟨fun v36 H =>
 e' [(2, fr 2), (3, fr 3), (35, v36)] H⟩)
@[simp] def r9 (fr : AFr) (H : AHeap) : ARes :=
 areg (q' (fa' 8 (fr 2)) H ⟨fun v37 H =>
 q' (ld' v37 H) H ⟨fun v38 H =>
 q' (bn' .add v38 (W32 4#32)) H ⟨fun v39 H =>
 q' (bn' .andNot v39 (W32 3#32)) H ⟨fun v40 H =>
 q' (fa' 4 (fr 3)) H ⟨fun v41 H =>
 q' (ld' v41 H) H ⟨fun v42 H =>
 q' (aconvR (some .u32) v42) H ⟨fun v43 H =>
 q' (bn' .mul (W32 4#32) v43) H ⟨fun v44 H =>
 q' (bn' .add v40 v44) H ⟨fun v45 H =>
 e' [(4, v45), (5, (.bool true))] H⟩⟩⟩⟩⟩⟩⟩⟩⟩)
@[simp] def r10 (fr : AFr) (H : AHeap) : ARes :=
 areg (e' [(4, (W32 0#32)), (5, (.bool false))] H)
@[simp] def body (fr : AFr) (H : AHeap) : ARes :=
  s' (r0 fr H) ⟨fun fr H =>
 s' (s' (r1 fr H) ⟨fun fr H =>
  aexit 0 (s' (s' (r2 fr H) ⟨fun fr H =>
 c' (fr 8)
 ⟨some (.normal, fr, H)⟩
 ⟨r3 fr H⟩⟩) ⟨fun fr H =>
 c' (fr 8)
 ⟨s' (r4 fr H) ⟨fun fr H =>
 some (.ret, fr, H)⟩⟩
 ⟨s' (s' (r5 fr H) ⟨fun fr H =>
 c' (fr 21)
 ⟨some (.normal, fr, H)⟩
 ⟨r6 fr H⟩⟩) ⟨fun fr H =>
 c' (fr 21)
 ⟨s' (r7 fr H) ⟨fun fr H =>
 some (.ret, fr, H)⟩⟩
 ⟨s' (r8 fr H) ⟨fun fr H =>
 c' (fr 35)
 ⟨s' (r9 fr H) ⟨fun fr H =>
 some (.ret, fr, H)⟩⟩
 ⟨some (.normal, fr, H)⟩⟩⟩⟩⟩⟩)⟩) ⟨fun fr H =>
 s' (r10 fr H) ⟨fun fr H =>
 some (.ret, fr, H)⟩⟩⟩
@[simp] def res (fr : AFr) (H : AHeap) : Option (List AV) := res2 (some (fr 4)) (res2 (some (fr 5)) (some []))
end leak_place
def leak_place (a0 a1 : AV) : Option AV := closeUpR (some [[none], [none]]) (afinR leak_place.res (leak_place.body (args0 [a0, a1]) AHeap.empty))
def leak_place.spec : List AV → Option AV
  | [a0, a1] => leak_place a0 a1
  | _ => none
namespace leak_flagged
def C : Tab := Tab.none
@[simp] def r0 (fr : AFr) (H : AHeap) : ARes :=
 areg (o' (abox T.ty_api_Ins (fr 0) H) ⟨fun v3 H =>
 e' [(1, fr 1), (2, fr 2), (3, v3)] H⟩)
@[simp] def r1 (fr : AFr) (H : AHeap) : ARes :=
 areg (q' (fa' 0 (fr 3)) H ⟨fun v8 H =>
 q' (ld' v8 H) H ⟨fun v9 H =>
 q' (bn' .eql v9 (.int .i64 1)) H ⟨fun v10 H =>
 e' [(1, fr 1), (2, fr 2), (3, fr 3), (7, v10)] H⟩⟩⟩)
@[simp] def r2 (fr : AFr) (H : AHeap) : ARes :=
 areg (q' (fa' 0 (fr 3)) H ⟨fun v11 H =>
 q' (ld' v11 H) H ⟨fun v12 H =>
 q' (bn' .eql v12 (.int .i64 11)) H ⟨fun v13 H =>
 G' v13 true ⟨fa' 4 (fr 3)⟩ H ⟨fun v15 H =>
 G' v13 true ⟨ld' v15 H⟩ H ⟨fun v16 H =>
 G' v13 true ⟨bn' .eql v16 (.int .i64 10)⟩ H ⟨fun v17 H =>
 q' (apick v13 v17 (.bool false)) H ⟨fun v18 H =>
 e' [(1, fr 1), (2, fr 2), (3, fr 3), (7, v18)] H⟩⟩⟩⟩⟩⟩⟩)
@[simp] def r3 (fr : AFr) (H : AHeap) : ARes :=
 areg (q' (bn' .sub (fr 1) (fr 2)) H ⟨fun v21 H =>
 e' [(6, v21)] H⟩)
@[simp] def r4 (fr : AFr) (H : AHeap) : ARes :=
 areg (q' (fa' 0 (fr 3)) H ⟨fun v23 H =>
 q' (ld' v23 H) H ⟨fun v24 H =>
 q' (bn' .eql v24 (.int .i64 11)) H ⟨fun v25 H =>
 G' v25 true ⟨fa' 4 (fr 3)⟩ H ⟨fun v27 H =>
 G' v25 true ⟨ld' v27 H⟩ H ⟨fun v28 H =>
 G' v25 true ⟨bn' .eql v28 (.int .i64 8)⟩ H ⟨fun v29 H =>
 q' (apick v25 v29 (.bool false)) H ⟨fun v30 H =>
 e' [(1, fr 1), (2, fr 2), (3, fr 3), (22, v30)] H⟩⟩⟩⟩⟩⟩⟩)
@[simp] def r5 (fr : AFr) (H : AHeap) : ARes :=
 areg (q' (bn' .and (fr 1) (fr 2)) H ⟨fun v33 H =>
 e' [(6, v33)] H⟩)
@[simp] def r6 (fr : AFr) (H : AHeap) : ARes :=
 areg (q' (fa' 0 (fr 3)) H ⟨fun v35 H =>
 q' (ld' v35 H) H ⟨fun v36 H =>
 q' (bn' .eql v36 (.int .i64 11)) H ⟨fun v37 H =>
 G' v37 true ⟨fa' 4 (fr 3)⟩ H ⟨fun v39 H =>
 G' v37 true ⟨ld' v39 H⟩ H ⟨fun v40 H =>
 G' v37 true ⟨bn' .eql v40 (.int .i64 11)⟩ H ⟨fun v41 H =>
 q' (apick v37 v41 (.bool false)) H ⟨fun v42 H =>
 e' [(1, fr 1), (2, fr 2), (34, v42)] H⟩⟩⟩⟩⟩⟩⟩)
@[simp] def r7 (fr : AFr) (H : AHeap) : ARes :=
 areg (q' (bn' .add (fr 1) (fr 2)) H ⟨fun v45 H =>
 e' [(6, v45)] H⟩)
@[simp] def r8 (fr : AFr) (H : AHeap) : ARes :=
 areg (e' [(6, (W32 0#32))] H)
@[simp] def body (fr : AFr) (H : AHeap) : ARes :=
  s' (r0 fr H) ⟨fun fr H =>
 s' (aexit 0 (s' (s' (r1 fr H) ⟨fun fr H =>
 c' (fr 7)
 ⟨some (.normal, fr, H)⟩
 ⟨r2 fr H⟩⟩) ⟨fun fr H =>
 c' (fr 7)
 ⟨s' (r3 fr H) ⟨fun fr H =>
 some (.ret, fr, H)⟩⟩
 ⟨s' (r4 fr H) ⟨fun fr H =>
 c' (fr 22)
 ⟨s' (r5 fr H) ⟨fun fr H =>
 some (.ret, fr, H)⟩⟩
 ⟨s' (r6 fr H) ⟨fun fr H =>
 c' (fr 34)
 ⟨s' (r7 fr H) ⟨fun fr H =>
 some (.ret, fr, H)⟩⟩
 ⟨some (.normal, fr, H)⟩⟩⟩⟩⟩⟩)) ⟨fun fr H =>
 s' (r8 fr H) ⟨fun fr H =>
 some (.ret, fr, H)⟩⟩⟩
@[simp] def res (fr : AFr) (H : AHeap) : Option (List AV) := res2 (some (fr 6)) (some [])
end leak_flagged
def leak_flagged (a0 a1 a2 : AV) : Option AV := closeUpR (some [[none]]) (afinR leak_flagged.res (leak_flagged.body (args0 [a0, a1, a2]) AHeap.empty))
def leak_flagged.spec : List AV → Option AV
  | [a0, a1, a2] => leak_flagged a0 a1 a2
  | _ => none
namespace leak_Step
def C (s0 s1 s2 : SpecM) (s3 s4 s5 s6 s7 : SpecP) : Tab := ((((((((Tab.none.add 26 (.ref [false] s0)).add 17 (.ref [true, false] s1)).add 50 (.ref [false, false] s2)).add 51 (.pure false s3)).add 68 (.pure false s4)).add 69 (.pure false s5)).add 55 (.pure false s6)).add 70 (.pure false s7))
@[simp] def r0 (fr : AFr) (H : AHeap) : ARes :=
 areg (o' (abox T.ty_api_State (fr 0) H) ⟨fun v2 H =>
 o' (aallocR T.ty_api_State (some (.agg [(W32 0#32), (W32 0#32), (W32 0#32), (W32 0#32), (W32 0#32), (W32 0#32), (W32 0#32), (W32 0#32), (W32 0#32), (.bool false), (.bool false), (.bool false), (.bool false)])) H) ⟨fun v4 H =>
 o' (aallocR T.ty_api_Leak (some (.agg [(W32 0#32), (W16 0#16), (W32 0#32), (W32 0#32), (W32 0#32), (W32 0#32), (W32 0#32), (W32 0#32), (.bool false), (.bool false)])) H) ⟨fun v5 H =>
 e' [(1, fr 1), (2, v2), (4, v4), (5, v5)] H⟩⟩⟩)
@[simp] def r1 (fr : AFr) (H : AHeap) : ARes :=
 areg (e' [(1, fr 1), (2, fr 2), (4, fr 4), (5, fr 5), (8, (W32 0#32))] H)
@[simp] def r2 (fr : AFr) (H : AHeap) : ARes :=
 areg (q' (abinR .p .neq (fr 1) .nilp) H ⟨fun v21 H =>
 e' [(1, fr 1), (2, fr 2), (4, fr 4), (5, fr 5), (8, fr 8), (21, v21)] H⟩)
@[simp] def r3 (s0 : SpecM) (fr : AFr) (H : AHeap) : ARes :=
 areg (o' (callM [false] s0 [[none]] [(fr 1)] H) ⟨fun v23 H =>
 e' [(1, fr 1), (2, fr 2), (4, fr 4), (5, fr 5), (8, v23)] H⟩)
@[simp] def r4 (s1 : SpecM) (fr : AFr) (H : AHeap) : ARes :=
 areg (q' (Ld' 13 (fr 2) H) H ⟨fun v25 H =>
 o' (callM [true, false] s1 [[none, none, none, none, none, none, none, none, none, none, none, none, none], [none]] [v25, (fr 1)] H) ⟨fun v27 H =>
 q' (aextract v27 0) H ⟨fun v28 H =>
 q' (aextract v27 1) H ⟨fun v29 H =>
 q' (aextract v27 2) H ⟨fun v30 H =>
 o' (aallocR T.ty_api_State (some (.agg [(W32 0#32), (W32 0#32), (W32 0#32), (W32 0#32), (W32 0#32), (W32 0#32), (W32 0#32), (W32 0#32), (W32 0#32), (.bool false), (.bool false), (.bool false), (.bool false)])) H) ⟨fun v9 H =>
 w' (astoreR (some 13) v9 v28 H) ⟨fun _ H =>
 e' [(1, fr 1), (2, fr 2), (4, fr 4), (5, fr 5), (8, fr 8), (9, v9), (10, v29), (11, v30)] H⟩⟩⟩⟩⟩⟩⟩)
@[simp] def r5 (fr : AFr) (H : AHeap) : ARes :=
 areg (q' (bn' .neq (fr 11) (.int .i64 0)) H ⟨fun v32 H =>
 e' [(1, fr 1), (2, fr 2), (4, fr 4), (5, fr 5), (8, fr 8), (9, fr 9), (10, fr 10), (11, fr 11), (32, v32)] H⟩)
@[simp] def r6 (fr : AFr) (H : AHeap) : ARes :=
 areg (q' (Ld' 13 (fr 9) H) H ⟨fun v33 H =>
 q' (abuildR (.str [(W32 0#32), (W16 0#16), (W32 0#32), (W32 0#32), (W32 0#32), (W32 0#32), (W32 0#32), (W32 0#32), (.bool false), (.bool false)] [(0, 1), (1, 1), (2, 1), (3, 1), (4, 1), (5, 1), (6, 1), (7, 1), (8, 1), (9, 1)]) []) H ⟨fun v34 H =>
 w' (astoreR (some 13) (fr 4) v33 H) ⟨fun _ H =>
 w' (astoreR (some 10) (fr 5) v34 H) ⟨fun _ H =>
 e' [(4, fr 4), (5, fr 5), (6, (fr 10)), (7, (fr 11))] H⟩⟩⟩⟩)
@[simp] def r7 (s2 : SpecM) (fr : AFr) (H : AHeap) : ARes :=
 areg (q' (fa' 8 (fr 2)) H ⟨fun v39 H =>
 q' (ld' v39 H) H ⟨fun v40 H =>
 o' (callM [false, false] s2 [[none], [none]] [(fr 1), v40] H) ⟨fun v41 H =>
 q' (aextract v41 0) H ⟨fun v42 H =>
 q' (aextract v41 1) H ⟨fun v43 H =>
 e' [(2, fr 2), (4, fr 4), (5, fr 5), (8, fr 8), (9, fr 9), (10, fr 10), (12, v42)] H⟩⟩⟩⟩⟩)
@[simp] def r8 (s3 : SpecP) (fr : AFr) (H : AHeap) : ARes :=
 areg (o' (callP false s3 [[none]] [(fr 12)] H) ⟨fun v46 H =>
 q' (aextract v46 0) H ⟨fun v47 H =>
 q' (aextract v46 1) H ⟨fun v48 H =>
 o' (aallocR T.ty_api_Ins (some (.agg [(.int .i64 0), (.int .i64 0), (.int .i64 0), (.int .i64 0), (.int .i64 0)])) H) ⟨fun v14 H =>
 w' (astoreR (some 5) v14 v47 H) ⟨fun _ H =>
 e' [(2, fr 2), (4, fr 4), (5, fr 5), (8, fr 8), (9, fr 9), (10, fr 10), (12, fr 12), (14, v14)] H⟩⟩⟩⟩⟩)
@[simp] def r9 (fr : AFr) (H : AHeap) : ARes :=
 areg (q' (fa' 8 (fr 2)) H ⟨fun v49 H =>
 q' (ld' v49 H) H ⟨fun v50 H =>
 q' (abuildR (.str [(W32 0#32), (W16 0#16), (W32 0#32), (W32 0#32), (W32 0#32), (W32 0#32), (W32 0#32), (W32 0#32), (.bool false), (.bool false)] [(0, 1), (1, 1), (2, 1), (3, 1), (4, 1), (5, 1), (6, 1), (7, 1), (8, 1), (9, 1)]) [(0, v50), (1, (fr 12)), (6, (fr 8))]) H ⟨fun v53 H =>
 o' (aallocR T.ty_api_Leak (some (.agg [(W32 0#32), (W16 0#16), (W32 0#32), (W32 0#32), (W32 0#32), (W32 0#32), (W32 0#32), (W32 0#32), (.bool false), (.bool false)])) H) ⟨fun v16 H =>
 w' (astoreR (some 10) v16 v53 H) ⟨fun _ H =>
 e' [(2, fr 2), (4, fr 4), (5, fr 5), (9, fr 9), (10, fr 10), (14, fr 14), (16, v16)] H⟩⟩⟩⟩⟩)
@[simp] def r10 (s4 : SpecP) (fr : AFr) (H : AHeap) : ARes :=
 areg (q' (Ld' 13 (fr 2) H) H ⟨fun v55 H =>
 q' (Ld' 5 (fr 14) H) H ⟨fun v56 H =>
 o' (callP false s4 [[none, none, none, none, none, none, none, none, none, none, none, none, none], [none, none, none, none, none]] [v55, v56] H) ⟨fun v57 H =>
 q' (aextract v57 0) H ⟨fun v58 H =>
 q' (aextract v57 1) H ⟨fun v59 H =>
 q' (fa' 2 (fr 16)) H ⟨fun v60 H =>
 w' (astoreR (some 1) v60 v58 H) ⟨fun _ H =>
 q' (fa' 3 (fr 16)) H ⟨fun v61 H =>
 w' (astoreR (some 1) v61 v59 H) ⟨fun _ H =>
 e' [(2, fr 2), (4, fr 4), (5, fr 5), (9, fr 9), (10, fr 10), (14, fr 14), (16, fr 16)] H⟩⟩⟩⟩⟩⟩⟩⟩⟩)
@[simp] def r11 (s5 : SpecP) (fr : AFr) (H : AHeap) : ARes :=
 areg (q' (Ld' 13 (fr 2) H) H ⟨fun v63 H =>
 q' (Ld' 5 (fr 14) H) H ⟨fun v64 H =>
 o' (callP false s5 [[none, none, none, none, none, none, none, none, none, none, none, none, none], [none, none, none, none, none]] [v63, v64] H) ⟨fun v65 H =>
 q' (aextract v65 0) H ⟨fun v66 H =>
 q' (aextract v65 1) H ⟨fun v67 H =>
 q' (fa' 7 (fr 16)) H ⟨fun v68 H =>
 w' (astoreR (some 1) v68 v66 H) ⟨fun _ H =>
 q' (fa' 8 (fr 16)) H ⟨fun v69 H =>
 w' (astoreR (some 1) v69 v67 H) ⟨fun _ H =>
 e' [(2, fr 2), (4, fr 4), (5, fr 5), (9, fr 9), (10, fr 10), (14, fr 14), (16, fr 16)] H⟩⟩⟩⟩⟩⟩⟩⟩⟩)
@[simp] def r12 (fr : AFr) (H : AHeap) : ARes :=
 areg (q' (fa' 0 (fr 14)) H ⟨fun v70 H =>
 q' (ld' v70 H) H ⟨fun v71 H =>
 q' (bn' .eql v71 (.int .i64 13)) H ⟨fun v72 H =>
 G' v72 false ⟨fa' 0 (fr 14)⟩ H ⟨fun v74 H =>
 G' v72 false ⟨ld' v74 H⟩ H ⟨fun v75 H =>
 G' v72 false ⟨bn' .eql v75 (.int .i64 15)⟩ H ⟨fun v76 H =>
 q' (apick v72 (.bool true) v76) H ⟨fun v77 H =>
 e' [(2, fr 2), (4, fr 4), (5, fr 5), (9, fr 9), (10, fr 10), (14, fr 14), (16, fr 16), (17, v77)] H⟩⟩⟩⟩⟩⟩⟩)
@[simp] def r13 (fr : AFr) (H : AHeap) : ARes :=
 areg (q' (fa' 8 (fr 16)) H ⟨fun v78 H =>
 q' (ld' v78 H) H ⟨fun v79 H =>
 G' v79 true ⟨some (fr 17)⟩ H ⟨fun v81 H =>
 G' v79 true ⟨aun .not v81⟩ H ⟨fun v82 H =>
 q' (apick v79 v82 (.bool false)) H ⟨fun v83 H =>
 G' v83 true ⟨fa' 7 (fr 16)⟩ H ⟨fun v85 H =>
 G' v83 true ⟨ld' v85 H⟩ H ⟨fun v86 H =>
 G' v83 true ⟨bn' .eql v86 (W32 1073741824#32)⟩ H ⟨fun v87 H =>
 q' (apick v83 v87 (.bool false)) H ⟨fun v88 H =>
 q' (fa' 9 (fr 16)) H ⟨fun v89 H =>
 w' (astoreR (some 1) v89 v88 H) ⟨fun _ H =>
 e' [(2, fr 2), (4, fr 4), (5, fr 5), (9, fr 9), (10, fr 10), (14, fr 14), (16, fr 16), (17, fr 17)] H⟩⟩⟩⟩⟩⟩⟩⟩⟩⟩⟩)
@[simp] def r14 (s6 : SpecP) (fr : AFr) (H : AHeap) : ARes :=
 areg (q' (Ld' 5 (fr 14) H) H ⟨fun v91 H =>
 o' (callP false s6 [[none, none, none, none, none]] [v91] H) ⟨fun v92 H =>
 q' (aextract v92 0) H ⟨fun v93 H =>
 q' (aextract v92 1) H ⟨fun v94 H =>
 e' [(2, fr 2), (4, fr 4), (5, fr 5), (9, fr 9), (10, fr 10), (14, fr 14), (16, fr 16), (17, fr 17), (18, v93), (19, v94)] H⟩⟩⟩⟩)
@[simp] def r15 (fr : AFr) (H : AHeap) : ARes :=
 areg (e' [(2, fr 2), (4, fr 4), (5, fr 5), (9, fr 9), (10, fr 10), (14, fr 14), (16, fr 16), (17, fr 17), (18, fr 18), (95, (fr 19))] H)
@[simp] def r16 (fr : AFr) (H : AHeap) : ARes :=
 areg (q' (some (fr 18)) H ⟨fun v96 H1 =>
 q' (fa' 0 (fr 9)) H1 ⟨fun v97 H2 =>
 q' (aindexAddrR (.arr 8 1) v97 v96) H2 ⟨fun v98 H3 =>
 q' (ld' v98 H3) H3 ⟨fun v99 H4 =>
 q' (some (fr 18)) H4 ⟨fun v100 H5 =>
 q' (fa' 0 (fr 2)) H5 ⟨fun v101 H6 =>
 q' (aindexAddrR (.arr 8 1) v101 v100) H6 ⟨fun v102 H7 =>
 q' (ld' v102 H7) H7 ⟨fun v103 H8 =>
 q' (fa' 4 (fr 16)) H8 ⟨fun v104 H9 =>
 w' (astoreR (some 1) v104 v99 H9) ⟨fun _ H10 =>
 q' (fa' 5 (fr 16)) H10 ⟨fun v105 H11 =>
 w' (astoreR (some 1) v105 v103 H11) ⟨fun _ H12 =>
 withChk [aloadR (some none) v102 H9 = aloadR (some none) v102 H10] (e' [(4, fr 4), (5, fr 5), (9, fr 9), (10, fr 10), (16, fr 16)] H12)⟩⟩⟩⟩⟩⟩⟩⟩⟩⟩⟩⟩)
@[simp] def r17 (fr : AFr) (H : AHeap) : ARes :=
 areg (e' [(4, fr 4), (5, fr 5), (9, fr 9), (10, fr 10), (14, fr 14), (16, fr 16), (106, (fr 17))] H)
@[simp] def r18 (fr : AFr) (H : AHeap) : ARes :=
 areg (q' (fa' 2 (fr 16)) H ⟨fun v107 H =>
 q' (ld' v107 H) H ⟨fun v108 H =>
 q' (fa' 4 (fr 16)) H ⟨fun v109 H =>
 w' (astoreR (some 1) v109 v108 H) ⟨fun _ H =>
 e' [(4, fr 4), (5, fr 5), (9, fr 9), (10, fr 10), (16, fr 16)] H⟩⟩⟩⟩)
@[simp] def r19 (s7 : SpecP) (fr : AFr) (H : AHeap) : ARes :=
 areg (q' (Ld' 5 (fr 14) H) H ⟨fun v110 H =>
 q' (fa' 2 (fr 16)) H ⟨fun v111 H =>
 q' (ld' v111 H) H ⟨fun v112 H =>
 q' (fa' 3 (fr 16)) H ⟨fun v113 H =>
 q' (ld' v113 H) H ⟨fun v114 H =>
 o' (callP false s7 [[none, none, none, none, none], [none], [none]] [v110, v112, v114] H) ⟨fun v115 H =>
 q' (fa' 4 (fr 16)) H ⟨fun v116 H =>
 w' (astoreR (some 1) v116 v115 H) ⟨fun _ H =>
 e' [(4, fr 4), (5, fr 5), (9, fr 9), (10, fr 10), (16, fr 16)] H⟩⟩⟩⟩⟩⟩⟩⟩)
@[simp] def r20 (fr : AFr) (H : AHeap) : ARes :=
 areg (q' (Ld' 13 (fr 9) H) H ⟨fun v117 H1 =>
 q' (Ld' 10 (fr 16) H1) H1 ⟨fun v118 H2 =>
 q' (some (fr 10)) H2 ⟨fun v119 H3 =>
 w' (astoreR (some 13) (fr 4) v117 H3) ⟨fun _ H4 =>
 w' (astoreR (some 10) (fr 5) v118 H4) ⟨fun _ H5 =>
 q' (some v119) H5 ⟨fun v6 H6 =>
 q' (some (.int .i64 0)) H6 ⟨fun v7 H7 =>
 withChk [aloadR (some (some 10)) (fr 16) H3 = aloadR (some (some 10)) (fr 16) H4] (e' [(4, fr 4), (5, fr 5), (6, v6), (7, v7)] H7)⟩⟩⟩⟩⟩⟩⟩)
@[simp] def body (s0 s1 s2 : SpecM) (s3 s4 s5 s6 s7 : SpecP) (fr : AFr) (H : AHeap) : ARes :=
  s' (r0 fr H) ⟨fun fr H =>
 s' (r1 fr H) ⟨fun fr H =>
 s' (s' (r2 fr H) ⟨fun fr H =>
 c' (fr 21)
 ⟨r3 s0 fr H⟩
 ⟨some (.normal, fr, H)⟩⟩) ⟨fun fr H =>
 s' (r4 s1 fr H) ⟨fun fr H =>
 s' (s' (r5 fr H) ⟨fun fr H =>
 c' (fr 32)
 ⟨s' (r6 fr H) ⟨fun fr H =>
 some (.ret, fr, H)⟩⟩
 ⟨some (.normal, fr, H)⟩⟩) ⟨fun fr H =>
 s' (r7 s2 fr H) ⟨fun fr H =>
 s' (r8 s3 fr H) ⟨fun fr H =>
 s' (r9 fr H) ⟨fun fr H =>
 s' (r10 s4 fr H) ⟨fun fr H =>
 s' (r11 s5 fr H) ⟨fun fr H =>
 s' (r12 fr H) ⟨fun fr H =>
 s' (r13 fr H) ⟨fun fr H =>
 s' (s' (r14 s6 fr H) ⟨fun fr H =>
 s' (r15 fr H) ⟨fun fr H =>
 c' (fr 95)
 ⟨r16 fr H⟩
 ⟨s' (r17 fr H) ⟨fun fr H =>
 c' (fr 106)
 ⟨r18 fr H⟩
 ⟨r19 s7 fr H⟩⟩⟩⟩⟩) ⟨fun fr H =>
 s' (r20 fr H) ⟨fun fr H =>
 some (.ret, fr, H)⟩⟩⟩⟩⟩⟩⟩⟩⟩⟩⟩⟩⟩⟩
@[simp] def res (fr : AFr) (H : AHeap) : Option (List AV) := res2 (aloadR (some (some 13)) (fr 4) H) (res2 (aloadR (some (some 10)) (fr 5) H) (res2 (some (fr 6)) (res2 (some (fr 7)) (some []))))
end leak_Step
def leak_Step (a0 a1 : AV) (H : AHeap) : Option (AV × AHeap) := forget H (afinR leak_Step.res (leak_Step.body mem_Mem_Bus.spec core_Step.spec mem_Mem_Fetch.spec thumb_Take.spec leak_operands.spec leak_place.spec thumb_Writes.spec leak_flagged.spec (args0 [a0, a1]) H))
def leak_Step.spec : List AV → AHeap → Option (AV × AHeap)
  | [a0, a1], H => leak_Step a0 a1 H
  | _, _ => none
end
end Go.Abs
