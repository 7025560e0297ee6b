/-
  The functions, as they are over abstract values. Printed by gen.py.
-/
import Derived.Test.YthignlpdeaglaaaLoF
import Derived.Test.YthignlpdeaglaaaItF
set_option linter.unusedVariables false
namespace Go.Abs
noncomputable section
namespace isw_order
@[simp] def r0 (fr : AFr) (H : AHeap) : ARes :=
 areg (e' [(0, fr 0)] H)
@[simp] def r1 (fr : AFr) (H : AHeap) : ARes :=
 areg (q' (bn' .geq (fr 0) (.int .i64 0)) H ⟨fun v4 H =>
 G' v4 true ⟨some (fr 0)⟩ H ⟨fun v6 H =>
 G' v4 true ⟨bn' .leq v6 (.int .i64 6)⟩ H ⟨fun v7 H =>
 q' (apick v4 v7 (.bool false)) H ⟨fun v8 H =>
 e' [(2, v8)] H⟩⟩⟩⟩)
@[simp] def body (fr : AFr) (H : AHeap) : ARes :=
  s' (r0 fr H) ⟨fun fr H =>
 s' (r1 fr H) ⟨fun fr H =>
 some (.ret, fr, H)⟩⟩
@[simp] def res (fr : AFr) (H : AHeap) : Option (List AV) := res2 (some (fr 2)) (some [])
end isw_order
def isw_order (a0 : AV) : Option AV := closeUpR (some [[none]]) (afinR isw_order.res (isw_order.body (args0 [a0]) AHeap.empty))
def isw_order.spec : List AV → Option AV
  | [a0] => isw_order a0
  | _ => none
namespace isw_takes
def C : Tab := Tab.none
@[simp] def r0 (fr : AFr) (H : AHeap) : ARes :=
 areg (e' [(0, fr 0)] H)
@[simp] def r1 (fr : AFr) (H : AHeap) : ARes :=
 areg (e' [(3, (fr 0))] H)
@[simp] def r2 (fr : AFr) (H : AHeap) : ARes :=
 areg (q' (bn' .eql (fr 3) (.int .i64 1)) H ⟨fun v5 H =>
 e' [(3, fr 3), (4, v5)] H⟩)
@[simp] def r3 (fr : AFr) (H : AHeap) : ARes :=
 areg (q' (bn' .eql (fr 3) (.int .i64 2)) H ⟨fun v6 H =>
 e' [(3, fr 3), (4, v6)] H⟩)
@[simp] def r4 (fr : AFr) (H : AHeap) : ARes :=
 areg (e' [(2, (.int .i64 2))] H)
@[simp] def r5 (fr : AFr) (H : AHeap) : ARes :=
 areg (q' (bn' .eql (fr 3) (.int .i64 3)) H ⟨fun v8 H =>
 e' [(3, fr 3), (7, v8)] H⟩)
@[simp] def r6 (fr : AFr) (H : AHeap) : ARes :=
 areg (q' (bn' .eql (fr 3) (.int .i64 4)) H ⟨fun v9 H =>
 e' [(3, fr 3), (7, v9)] H⟩)
@[simp] def r7 (fr : AFr) (H : AHeap) : ARes :=
 areg (q' (bn' .eql (fr 3) (.int .i64 5)) H ⟨fun v10 H =>
 e' [(3, fr 3), (7, v10)] H⟩)
@[simp] def r8 (fr : AFr) (H : AHeap) : ARes :=
 areg (q' (bn' .eql (fr 3) (.int .i64 6)) H ⟨fun v11 H =>
 e' [(3, fr 3), (7, v11)] H⟩)
@[simp] def r9 (fr : AFr) (H : AHeap) : ARes :=
 areg (q' (bn' .eql (fr 3) (.int .i64 8)) H ⟨fun v12 H =>
 e' [(7, v12)] H⟩)
@[simp] def r10 (fr : AFr) (H : AHeap) : ARes :=
 areg (e' [(2, (.int .i64 1))] H)
@[simp] def r11 (fr : AFr) (H : AHeap) : ARes :=
 areg (e' [(2, (.int .i64 0))] H)
@[simp] def body (fr : AFr) (H : AHeap) : ARes :=
  s' (r0 fr H) ⟨fun fr H =>
 s' (s' (r1 fr H) ⟨fun fr H =>
  aexit 0 (s' (s' (r2 fr H) ⟨fun fr H =>
 c' (fr 4)
 ⟨some (.normal, fr, H)⟩
 ⟨r3 fr H⟩⟩) ⟨fun fr H =>
 c' (fr 4)
 ⟨s' (r4 fr H) ⟨fun fr H =>
 some (.ret, fr, H)⟩⟩
 ⟨s' (s' (r5 fr H) ⟨fun fr H =>
 c' (fr 7)
 ⟨some (.normal, fr, H)⟩
 ⟨s' (r6 fr H) ⟨fun fr H =>
 c' (fr 7)
 ⟨some (.normal, fr, H)⟩
 ⟨s' (r7 fr H) ⟨fun fr H =>
 c' (fr 7)
 ⟨some (.normal, fr, H)⟩
 ⟨s' (r8 fr H) ⟨fun fr H =>
 c' (fr 7)
 ⟨some (.normal, fr, H)⟩
 ⟨r9 fr H⟩⟩⟩⟩⟩⟩⟩⟩) ⟨fun fr H =>
 c' (fr 7)
 ⟨s' (r10 fr H) ⟨fun fr H =>
 some (.ret, fr, H)⟩⟩
 ⟨some (.normal, fr, H)⟩⟩⟩⟩)⟩) ⟨fun fr H =>
 s' (r11 fr H) ⟨fun fr H =>
 some (.ret, fr, H)⟩⟩⟩
@[simp] def res (fr : AFr) (H : AHeap) : Option (List AV) := res2 (some (fr 2)) (some [])
end isw_takes
def isw_takes (a0 : AV) : Option AV := closeUpR (some [[none]]) (afinR isw_takes.res (isw_takes.body (args0 [a0]) AHeap.empty))
def isw_takes.spec : List AV → Option AV
  | [a0] => isw_takes a0
  | _ => none
namespace isw_number
def C : Tab := Tab.none
@[simp] def r0 (fr : AFr) (H : AHeap) : ARes :=
 areg (o' (abox T.ty_api_Op (fr 0) H) ⟨fun v1 H =>
 e' [(1, v1)] H⟩)
@[simp] def r1 (fr : AFr) (H : AHeap) : ARes :=
 areg (q' (fa' 0 (fr 1)) H ⟨fun v3 H =>
 q' (ld' v3 H) H ⟨fun v4 H =>
 e' [(1, fr 1), (4, v4)] H⟩⟩)
@[simp] def r2 (fr : AFr) (H : AHeap) : ARes :=
 areg (q' (bn' .eql (fr 4) (.int .i64 7)) H ⟨fun v6 H =>
 e' [(1, fr 1), (4, fr 4), (5, v6)] H⟩)
@[simp] def r3 (fr : AFr) (H : AHeap) : ARes :=
 areg (e' [(2, (.bool true))] H)
@[simp] def r4 (fr : AFr) (H : AHeap) : ARes :=
 areg (q' (bn' .eql (fr 4) (.int .i64 4)) H ⟨fun v8 H =>
 e' [(1, fr 1), (4, fr 4), (7, v8)] H⟩)
@[simp] def r5 (fr : AFr) (H : AHeap) : ARes :=
 areg (q' (bn' .eql (fr 4) (.int .i64 5)) H ⟨fun v9 H =>
 e' [(1, fr 1), (4, fr 4), (7, v9)] H⟩)
@[simp] def r6 (fr : AFr) (H : AHeap) : ARes :=
 areg (q' (bn' .eql (fr 4) (.int .i64 6)) H ⟨fun v10 H =>
 e' [(1, fr 1), (7, v10)] H⟩)
@[simp] def r7 (fr : AFr) (H : AHeap) : ARes :=
 areg (q' (fa' 3 (fr 1)) H ⟨fun v11 H =>
 q' (ld' v11 H) H ⟨fun v12 H =>
 q' (bn' .lss v12 (W32 32#32)) H ⟨fun v13 H =>
 e' [(2, v13)] H⟩⟩⟩)
@[simp] def r8 (fr : AFr) (H : AHeap) : ARes :=
 areg (q' (fa' 3 (fr 1)) H ⟨fun v14 H =>
 q' (ld' v14 H) H ⟨fun v15 H =>
 q' (bn' .eql v15 (W32 0#32)) H ⟨fun v16 H =>
 e' [(2, v16)] H⟩⟩⟩)
@[simp] def body (fr : AFr) (H : AHeap) : ARes :=
  s' (r0 fr H) ⟨fun fr H =>
 s' (s' (r1 fr H) ⟨fun fr H =>
  aexit 0 (s' (r2 fr H) ⟨fun fr H =>
 c' (fr 5)
 ⟨s' (r3 fr H) ⟨fun fr H =>
 some (.ret, fr, H)⟩⟩
 ⟨s' (s' (r4 fr H) ⟨fun fr H =>
 c' (fr 7)
 ⟨some (.normal, fr, H)⟩
 ⟨s' (r5 fr H) ⟨fun fr H =>
 c' (fr 7)
 ⟨some (.normal, fr, H)⟩
 ⟨r6 fr H⟩⟩⟩⟩) ⟨fun fr H =>
 c' (fr 7)
 ⟨s' (r7 fr H) ⟨fun fr H =>
 some (.ret, fr, H)⟩⟩
 ⟨some (.normal, fr, H)⟩⟩⟩⟩)⟩) ⟨fun fr H =>
 s' (r8 fr H) ⟨fun fr H =>
 some (.ret, fr, H)⟩⟩⟩
@[simp] def res (fr : AFr) (H : AHeap) : Option (List AV) := res2 (some (fr 2)) (some [])
end isw_number
def isw_number (a0 : AV) : Option AV := closeUpR (some [[none]]) (afinR isw_number.res (isw_number.body (args0 [a0]) AHeap.empty))
def isw_number.spec : List AV → Option AV
  | [a0] => isw_number a0
  | _ => none
namespace isw_wire
def C : Tab := Tab.none
@[simp] def r0 (fr : AFr) (H : AHeap) : ARes :=
 areg (e' [(0, fr 0), (1, fr 1), (2, fr 2)] H)
@[simp] def r1 (fr : AFr) (H : AHeap) : ARes :=
 areg (q' (aun .not (fr 2)) H ⟨fun v8 H =>
 e' [(0, fr 0), (1, fr 1), (8, v8)] H⟩)
@[simp] def r2 (fr : AFr) (H : AHeap) : ARes :=
 areg (q' (bn' .eql (fr 0) (.int .i64 0)) H ⟨fun v10 H =>
 e' [(6, v10)] H⟩)
@[simp] def r3 (fr : AFr) (H : AHeap) : ARes :=
 areg (q' (bn' .geq (fr 0) (.int .i64 0)) H ⟨fun v12 H =>
 G' v12 true ⟨some (fr 0)⟩ H ⟨fun v14 H =>
 G' v12 true ⟨some (fr 1)⟩ H ⟨fun v15 H =>
 G' v12 true ⟨bn' .lss v14 v15⟩ H ⟨fun v16 H =>
 q' (apick v12 v16 (.bool false)) H ⟨fun v17 H =>
 e' [(6, v17)] H⟩⟩⟩⟩⟩)
@[simp] def body (fr : AFr) (H : AHeap) : ARes :=
  s' (r0 fr H) ⟨fun fr H =>
 s' (s' (r1 fr H) ⟨fun fr H =>
 c' (fr 8)
 ⟨s' (r2 fr H) ⟨fun fr H =>
 some (.ret, fr, H)⟩⟩
 ⟨some (.normal, fr, H)⟩⟩) ⟨fun fr H =>
 s' (r3 fr H) ⟨fun fr H =>
 some (.ret, fr, H)⟩⟩⟩
@[simp] def res (fr : AFr) (H : AHeap) : Option (List AV) := res2 (some (fr 6)) (some [])
end isw_wire
def isw_wire (a0 a1 a2 : AV) : Option AV := closeUpR (some [[none]]) (afinR isw_wire.res (isw_wire.body (args0 [a0, a1, a2]) AHeap.empty))
def isw_wire.spec : List AV → Option AV
  | [a0, a1, a2] => isw_wire a0 a1 a2
  | _ => none
namespace isw_can
def C (s0 s1 s2 : SpecP) : Tab := (((Tab.none.add 58 (.pure false s0)).add 69 (.pure false s1)).add 70 (.pure false s2))
@[simp] def r0 (fr : AFr) (H : AHeap) : ARes :=
 areg (o' (abox T.ty_api_Code (fr 0) H) ⟨fun v1 H =>
 e' [(1, v1)] H⟩)
@[simp] def r1 (fr : AFr) (H : AHeap) : ARes :=
 areg (q' (fa' 0 (fr 1)) H ⟨fun v8 H =>
 q' (ld' v8 H) H ⟨fun v9 H =>
 q' (bn' .lss v9 (.int .i64 0)) H ⟨fun v10 H =>
 G' v10 false ⟨fa' 0 (fr 1)⟩ H ⟨fun v12 H =>
 G' v10 false ⟨ld' v12 H⟩ H ⟨fun v13 H =>
 G' v10 false ⟨bn' .gtr v13 (.int .i64 4000)⟩ H ⟨fun v14 H =>
 q' (apick v10 (.bool true) v14) H ⟨fun v15 H =>
 G' v15 false ⟨fa' 1 (fr 1)⟩ H ⟨fun v17 H =>
 G' v15 false ⟨ld' v17 H⟩ H ⟨fun v18 H =>
 G' v15 false ⟨alenR .sl v18⟩ H ⟨fun v19 H =>
 G' v15 false ⟨bn' .gtr v19 (.int .i64 60000)⟩ H ⟨fun v20 H =>
 q' (apick v15 (.bool true) v20) H ⟨fun v21 H =>
 e' [(1, fr 1), (21, v21)] H⟩⟩⟩⟩⟩⟩⟩⟩⟩⟩⟩⟩)
@[simp] def r2 (fr : AFr) (H : AHeap) : ARes :=
 areg (e' [(2, (.bool false))] H)
@[simp] def r3 (fr : AFr) (H : AHeap) : ARes :=
 areg (q' (fa' 1 (fr 1)) H ⟨fun v22 H =>
 q' (ld' v22 H) H ⟨fun v23 H =>
 q' (alenR .sl v23) H ⟨fun v24 H =>
 e' [(1, fr 1), (23, v23), (24, v24), (25, (.int .i64 0))] H⟩⟩⟩)
@[simp] def r4 (fr : AFr) (H : AHeap) : ARes :=
 areg (q' (bn' .lss (fr 25) (fr 24)) H ⟨fun v26 H =>
 e' [(1, fr 1), (23, fr 23), (24, fr 24), (25, fr 25), (26, v26)] H⟩)
@[simp] def r5 (fr : AFr) (H : AHeap) : ARes :=
 areg (q' (aindexAddrR (.sl 4) (fr 23) (fr 25)) H ⟨fun v28 H =>
 q' (Ld' 4 v28 H) H ⟨fun v29 H =>
 o' (aallocR T.ty_api_Op (some (.agg [(.int .i64 0), (.int .i64 0), (.int .i64 0), (W32 0#32)])) H) ⟨fun v4 H =>
 w' (astoreR (some 4) v4 v29 H) ⟨fun _ H =>
 e' [(1, fr 1), (3, (fr 25)), (4, v4), (23, fr 23), (24, fr 24), (25, fr 25)] H⟩⟩⟩⟩)
@[simp] def r6 (s0 : SpecP) (fr : AFr) (H : AHeap) : ARes :=
 areg (q' (fa' 0 (fr 4)) H ⟨fun v30 H =>
 q' (ld' v30 H) H ⟨fun v31 H =>
 o' (callP false s0 [[none]] [v31] H) ⟨fun v32 H =>
 e' [(1, fr 1), (3, fr 3), (4, fr 4), (5, v32), (23, fr 23), (24, fr 24), (25, fr 25)] H⟩⟩⟩)
@[simp] def r7 (s1 s2 : SpecP) (fr : AFr) (H : AHeap) : ARes :=
 areg (q' (fa' 0 (fr 4)) H ⟨fun v33 H =>
 q' (ld' v33 H) H ⟨fun v34 H =>
 q' (bn' .lss v34 (.int .i64 0)) H ⟨fun v35 H =>
 G' v35 false ⟨fa' 0 (fr 4)⟩ H ⟨fun v37 H =>
 G' v35 false ⟨ld' v37 H⟩ H ⟨fun v38 H =>
 G' v35 false ⟨bn' .geq v38 (.int .i64 9)⟩ H ⟨fun v39 H =>
 q' (apick v35 (.bool true) v39) H ⟨fun v40 H =>
 G' v40 false ⟨Ld' 4 (fr 4) H⟩ H ⟨fun v42 H =>
 o' (g' (gw v40 false) ⟨callP false s1 [[none, none, none, none]] [v42] H⟩ H) ⟨fun v43 H =>
 G' v40 false ⟨aun .not v43⟩ H ⟨fun v44 H =>
 q' (apick v40 (.bool true) v44) H ⟨fun v45 H =>
 G' v45 false ⟨fa' 1 (fr 4)⟩ H ⟨fun v47 H =>
 G' v45 false ⟨ld' v47 H⟩ H ⟨fun v48 H =>
 G' v45 false ⟨fa' 0 (fr 1)⟩ H ⟨fun v49 H =>
 G' v45 false ⟨ld' v49 H⟩ H ⟨fun v50 H =>
 G' v45 false ⟨some (fr 3)⟩ H ⟨fun v51 H =>
 G' v45 false ⟨bn' .add v50 v51⟩ H ⟨fun v52 H =>
 G' v45 false ⟨some (fr 5)⟩ H ⟨fun v53 H =>
 G' v45 false ⟨bn' .gtr v53 (.int .i64 0)⟩ H ⟨fun v54 H =>
 o' (g' (gw v45 false) ⟨callP false s2 [[none], [none], [none]] [v48, v52, v54] H⟩ H) ⟨fun v55 H =>
 G' v45 false ⟨aun .not v55⟩ H ⟨fun v56 H =>
 q' (apick v45 (.bool true) v56) H ⟨fun v57 H =>
 G' v57 false ⟨fa' 2 (fr 4)⟩ H ⟨fun v59 H =>
 G' v57 false ⟨ld' v59 H⟩ H ⟨fun v60 H =>
 G' v57 false ⟨fa' 0 (fr 1)⟩ H ⟨fun v61 H =>
 G' v57 false ⟨ld' v61 H⟩ H ⟨fun v62 H =>
 G' v57 false ⟨some (fr 3)⟩ H ⟨fun v63 H =>
 G' v57 false ⟨bn' .add v62 v63⟩ H ⟨fun v64 H =>
 G' v57 false ⟨some (fr 5)⟩ H ⟨fun v65 H =>
 G' v57 false ⟨bn' .gtr v65 (.int .i64 1)⟩ H ⟨fun v66 H =>
 o' (g' (gw v57 false) ⟨callP false s2 [[none], [none], [none]] [v60, v64, v66] H⟩ H) ⟨fun v67 H =>
 G' v57 false ⟨aun .not v67⟩ H ⟨fun v68 H =>
 q' (apick v57 (.bool true) v68) H ⟨fun v69 H =>
 e' [(1, fr 1), (23, fr 23), (24, fr 24), (25, fr 25), (69, v69)] H⟩⟩⟩⟩⟩⟩⟩⟩⟩⟩⟩⟩⟩⟩⟩⟩⟩⟩⟩⟩⟩⟩⟩⟩⟩⟩⟩⟩⟩⟩⟩⟩⟩)
@[simp] def r8 (fr : AFr) (H : AHeap) : ARes :=
 areg (e' [(2, (.bool false))] H)
@[simp] def r9 (fr : AFr) (H : AHeap) : ARes :=
 areg (q' (bn' .add (fr 25) (.int .i64 1)) H ⟨fun v70 H =>
 e' [(1, fr 1), (23, fr 23), (24, fr 24), (25, v70)] H⟩)
@[simp] def r10 (fr : AFr) (H : AHeap) : ARes :=
 areg (q' (fa' 2 (fr 1)) H ⟨fun v71 H =>
 q' (ld' v71 H) H ⟨fun v72 H =>
 q' (alenR .sl v72) H ⟨fun v73 H =>
 e' [(1, fr 1), (72, v72), (73, v73), (74, (.int .i64 0))] H⟩⟩⟩)
@[simp] def r11 (fr : AFr) (H : AHeap) : ARes :=
 areg (q' (bn' .lss (fr 74) (fr 73)) H ⟨fun v75 H =>
 e' [(1, fr 1), (72, fr 72), (73, fr 73), (74, fr 74), (75, v75)] H⟩)
@[simp] def r12 (fr : AFr) (H : AHeap) : ARes :=
 areg (q' (aindexAddrR (.sl 1) (fr 72) (fr 74)) H ⟨fun v76 H =>
 q' (ld' v76 H) H ⟨fun v77 H =>
 e' [(1, fr 1), (7, v77), (72, fr 72), (73, fr 73), (74, fr 74)] H⟩⟩)
@[simp] def r13 (s2 : SpecP) (fr : AFr) (H : AHeap) : ARes :=
 areg (q' (fa' 0 (fr 1)) H ⟨fun v79 H =>
 q' (ld' v79 H) H ⟨fun v80 H =>
 q' (fa' 1 (fr 1)) H ⟨fun v81 H =>
 q' (ld' v81 H) H ⟨fun v82 H =>
 q' (alenR .sl v82) H ⟨fun v83 H =>
 q' (bn' .add v80 v83) H ⟨fun v84 H =>
 o' (callP false s2 [[none], [none], [none]] [(fr 7), v84, (.bool true)] H) ⟨fun v85 H =>
 q' (aun .not v85) H ⟨fun v86 H =>
 e' [(1, fr 1), (72, fr 72), (73, fr 73), (74, fr 74), (86, v86)] H⟩⟩⟩⟩⟩⟩⟩⟩)
@[simp] def r14 (fr : AFr) (H : AHeap) : ARes :=
 areg (e' [(2, (.bool false))] H)
@[simp] def r15 (fr : AFr) (H : AHeap) : ARes :=
 areg (q' (bn' .add (fr 74) (.int .i64 1)) H ⟨fun v87 H =>
 e' [(1, fr 1), (72, fr 72), (73, fr 73), (74, v87)] H⟩)
@[simp] def r16 (fr : AFr) (H : AHeap) : ARes :=
 areg (e' [(2, (.bool true))] H)
def l0 (s0 s1 s2 : SpecP) (fr : AFr) (H : AHeap) : ARes :=
  s' (r4 fr H) ⟨fun fr H =>
 s' (c' (fr 26)
 ⟨some (.normal, fr, H)⟩
 ⟨some (.exit 0, fr, H)⟩) ⟨fun fr H =>
 s' (aexit 1 (s' (r5 fr H) ⟨fun fr H =>
 s' (r6 s0 fr H) ⟨fun fr H =>
 s' (r7 s1 s2 fr H) ⟨fun fr H =>
 c' (fr 69)
 ⟨s' (r8 fr H) ⟨fun fr H =>
 some (.ret, fr, H)⟩⟩
 ⟨some (.normal, fr, H)⟩⟩⟩⟩)) ⟨fun fr H =>
 r9 fr H⟩⟩⟩
def l1 (s0 s1 s2 : SpecP) (fr : AFr) (H : AHeap) : ARes :=
  s' (r11 fr H) ⟨fun fr H =>
 s' (c' (fr 75)
 ⟨some (.normal, fr, H)⟩
 ⟨some (.exit 2, fr, H)⟩) ⟨fun fr H =>
 s' (aexit 3 (s' (r12 fr H) ⟨fun fr H =>
 s' (r13 s2 fr H) ⟨fun fr H =>
 c' (fr 86)
 ⟨s' (r14 fr H) ⟨fun fr H =>
 some (.ret, fr, H)⟩⟩
 ⟨some (.normal, fr, H)⟩⟩⟩)) ⟨fun fr H =>
 r15 fr H⟩⟩⟩
@[simp] def body (s0 s1 s2 : SpecP) (fr : AFr) (H : AHeap) : ARes :=
  s' (r0 fr H) ⟨fun fr H =>
 s' (s' (r1 fr H) ⟨fun fr H =>
 c' (fr 21)
 ⟨s' (r2 fr H) ⟨fun fr H =>
 some (.ret, fr, H)⟩⟩
 ⟨some (.normal, fr, H)⟩⟩) ⟨fun fr H =>
 s' (s' (r3 fr H) ⟨fun fr H =>
  aexit 0 (aloop (l0 s0 s1 s2) fr H)⟩) ⟨fun fr H =>
 s' (s' (r10 fr H) ⟨fun fr H =>
  aexit 2 (aloop (l1 s0 s1 s2) fr H)⟩) ⟨fun fr H =>
 s' (r16 fr H) ⟨fun fr H =>
 some (.ret, fr, H)⟩⟩⟩⟩⟩
@[simp] def res (fr : AFr) (H : AHeap) : Option (List AV) := res2 (some (fr 2)) (some [])
end isw_can
def isw_can (a0 : AV) : Option AV := closeUpR (some [[none]]) (afinR isw_can.res (isw_can.body isw_takes.spec isw_number.spec isw_wire.spec (args0 [a0]) AHeap.empty))
def isw_can.spec : List AV → Option AV
  | [a0] => isw_can a0
  | _ => none
namespace isw_Can
def C (s0 : SpecP) : Tab := (Tab.none.add 56 (.pure false s0))
@[simp] def r0 (fr : AFr) (H : AHeap) : ARes :=
 areg (o' (abox T.ty_api_Code (fr 0) H) ⟨fun v1 H =>
 e' [(1, v1)] H⟩)
@[simp] def r1 (s0 : SpecP) (fr : AFr) (H : AHeap) : ARes :=
 areg (q' (Ld' 3 (fr 1) H) H ⟨fun v3 H =>
 o' (callP false s0 [[none, some 4, some 1]] [v3] H) ⟨fun v4 H =>
 e' [(2, v4)] H⟩⟩)
@[simp] def body (s0 : SpecP) (fr : AFr) (H : AHeap) : ARes :=
  s' (r0 fr H) ⟨fun fr H =>
 s' (r1 s0 fr H) ⟨fun fr H =>
 some (.ret, fr, H)⟩⟩
@[simp] def res (fr : AFr) (H : AHeap) : Option (List AV) := res2 (some (fr 2)) (some [])
end isw_Can
def isw_Can (a0 : AV) : Option AV := closeUpR (some [[none]]) (afinR isw_Can.res (isw_Can.body isw_can.spec (args0 [a0]) AHeap.empty))
def isw_Can.spec : List AV → Option AV
  | [a0] => isw_Can a0
  | _ => none
namespace isw_randoms
def C : Tab := Tab.none
@[simp] def r0 (fr : AFr) (H : AHeap) : ARes :=
 areg (o' (abox T.ty_api_Code (fr 0) H) ⟨fun v1 H =>
 e' [(1, v1)] H⟩)
@[simp] def r1 (fr : AFr) (H : AHeap) : ARes :=
 areg (e' [(1, fr 1), (3, (.int .i64 0))] H)
@[simp] def r2 (fr : AFr) (H : AHeap) : ARes :=
 areg (q' (fa' 1 (fr 1)) H ⟨fun v6 H =>
 q' (ld' v6 H) H ⟨fun v7 H =>
 q' (alenR .sl v7) H ⟨fun v8 H =>
 e' [(3, fr 3), (7, v7), (8, v8), (9, (.int .i64 0))] H⟩⟩⟩)
@[simp] def r3 (fr : AFr) (H : AHeap) : ARes :=
 areg (q' (bn' .lss (fr 9) (fr 8)) H ⟨fun v10 H =>
 e' [(3, fr 3), (7, fr 7), (8, fr 8), (9, fr 9), (10, v10)] H⟩)
@[simp] def r4 (fr : AFr) (H : AHeap) : ARes :=
 areg (q' (aindexAddrR (.sl 4) (fr 7) (fr 9)) H ⟨fun v11 H =>
 q' (Ld' 4 v11 H) H ⟨fun v12 H =>
 o' (aallocR T.ty_api_Op (some (.agg [(.int .i64 0), (.int .i64 0), (.int .i64 0), (W32 0#32)])) H) ⟨fun v5 H =>
 w' (astoreR (some 4) v5 v12 H) ⟨fun _ H =>
 e' [(3, fr 3), (5, v5), (7, fr 7), (8, fr 8), (9, fr 9)] H⟩⟩⟩⟩)
@[simp] def r5 (fr : AFr) (H : AHeap) : ARes :=
 areg (q' (fa' 0 (fr 5)) H ⟨fun v13 H =>
 q' (ld' v13 H) H ⟨fun v14 H =>
 q' (bn' .eql v14 (.int .i64 0)) H ⟨fun v15 H =>
 e' [(3, fr 3), (7, fr 7), (8, fr 8), (9, fr 9), (15, v15)] H⟩⟩⟩)
@[simp] def r6 (fr : AFr) (H : AHeap) : ARes :=
 areg (q' (bn' .add (fr 3) (.int .i64 1)) H ⟨fun v17 H =>
 e' [(3, v17), (7, fr 7), (8, fr 8), (9, fr 9)] H⟩)
@[simp] def r7 (fr : AFr) (H : AHeap) : ARes :=
 areg (q' (bn' .add (fr 9) (.int .i64 1)) H ⟨fun v18 H =>
 e' [(3, fr 3), (7, fr 7), (8, fr 8), (9, v18)] H⟩)
@[simp] def r8 (fr : AFr) (H : AHeap) : ARes :=
 areg (e' [(2, (fr 3))] H)
def l0 (fr : AFr) (H : AHeap) : ARes :=
  s' (r3 fr H) ⟨fun fr H =>
 s' (c' (fr 10)
 ⟨some (.normal, fr, H)⟩
 ⟨some (.exit 0, fr, H)⟩) ⟨fun fr H =>
 s' (aexit 1 (s' (r4 fr H) ⟨fun fr H =>
 s' (r5 fr H) ⟨fun fr H =>
 c' (fr 15)
 ⟨r6 fr H⟩
 ⟨some (.normal, fr, H)⟩⟩⟩)) ⟨fun fr H =>
 r7 fr H⟩⟩⟩
@[simp] def body (fr : AFr) (H : AHeap) : ARes :=
  s' (r0 fr H) ⟨fun fr H =>
 s' (r1 fr H) ⟨fun fr H =>
 s' (s' (r2 fr H) ⟨fun fr H =>
  aexit 0 (aloop (l0) fr H)⟩) ⟨fun fr H =>
 s' (r8 fr H) ⟨fun fr H =>
 some (.ret, fr, H)⟩⟩⟩⟩
@[simp] def res (fr : AFr) (H : AHeap) : Option (List AV) := res2 (some (fr 2)) (some [])
end isw_randoms
def isw_randoms (a0 : AV) : Option AV := closeUpR (some [[none]]) (afinR isw_randoms.res (isw_randoms.body (args0 [a0]) AHeap.empty))
def isw_randoms.spec : List AV → Option AV
  | [a0] => isw_randoms a0
  | _ => none
namespace isw_Randoms
def C (s0 : SpecP) : Tab := (Tab.none.add 57 (.pure false s0))
@[simp] def r0 (fr : AFr) (H : AHeap) : ARes :=
 areg (o' (abox T.ty_api_Code (fr 0) H) ⟨fun v1 H =>
 e' [(1, v1)] H⟩)
@[simp] def r1 (s0 : SpecP) (fr : AFr) (H : AHeap) : ARes :=
 areg (q' (Ld' 3 (fr 1) H) H ⟨fun v3 H =>
 o' (callP false s0 [[none, some 4, some 1]] [v3] H) ⟨fun v4 H =>
 e' [(2, v4)] H⟩⟩)
@[simp] def body (s0 : SpecP) (fr : AFr) (H : AHeap) : ARes :=
  s' (r0 fr H) ⟨fun fr H =>
 s' (r1 s0 fr H) ⟨fun fr H =>
 some (.ret, fr, H)⟩⟩
@[simp] def res (fr : AFr) (H : AHeap) : Option (List AV) := res2 (some (fr 2)) (some [])
end isw_Randoms
def isw_Randoms (a0 : AV) : Option AV := closeUpR (some [[none]]) (afinR isw_Randoms.res (isw_Randoms.body isw_randoms.spec (args0 [a0]) AHeap.empty))
def isw_Randoms.spec : List AV → Option AV
  | [a0] => isw_Randoms a0
  | _ => none
namespace isw_step
def C (s0 : SpecP) : Tab := (Tab.none.add 71 (.pure false s0))
@[simp] def r0 (fr : AFr) (H : AHeap) : ARes :=
 areg (o' (abox T.ty_api_Op (fr 0) H) ⟨fun v3 H =>
 e' [(1, fr 1), (2, fr 2), (3, v3)] H⟩)
@[simp] def r1 (fr : AFr) (H : AHeap) : ARes :=
 areg (q' (fa' 0 (fr 3)) H ⟨fun v7 H =>
 q' (ld' v7 H) H ⟨fun v8 H =>
 e' [(1, fr 1), (2, fr 2), (3, fr 3), (8, v8)] H⟩⟩)
@[simp] def r2 (fr : AFr) (H : AHeap) : ARes :=
 areg (q' (bn' .eql (fr 8) (.int .i64 1)) H ⟨fun v10 H =>
 e' [(1, fr 1), (2, fr 2), (3, fr 3), (8, fr 8), (9, v10)] H⟩)
@[simp] def r3 (fr : AFr) (H : AHeap) : ARes :=
 areg (q' (bn' .and (fr 1) (fr 2)) H ⟨fun v13 H =>
 e' [(6, v13)] H⟩)
@[simp] def r4 (fr : AFr) (H : AHeap) : ARes :=
 areg (q' (bn' .eql (fr 8) (.int .i64 2)) H ⟨fun v15 H =>
 e' [(1, fr 1), (2, fr 2), (3, fr 3), (8, fr 8), (14, v15)] H⟩)
@[simp] def r5 (fr : AFr) (H : AHeap) : ARes :=
 areg (q' (bn' .xor (fr 1) (fr 2)) H ⟨fun v18 H =>
 e' [(6, v18)] H⟩)
@[simp] def r6 (fr : AFr) (H : AHeap) : ARes :=
 areg (q' (bn' .eql (fr 8) (.int .i64 3)) H ⟨fun v20 H =>
 e' [(1, fr 1), (3, fr 3), (8, fr 8), (19, v20)] H⟩)
@[simp] def r7 (fr : AFr) (H : AHeap) : ARes :=
 areg (q' (aun .xor (fr 1)) H ⟨fun v22 H =>
 e' [(6, v22)] H⟩)
@[simp] def r8 (fr : AFr) (H : AHeap) : ARes :=
 areg (q' (bn' .eql (fr 8) (.int .i64 4)) H ⟨fun v24 H =>
 e' [(1, fr 1), (3, fr 3), (8, fr 8), (23, v24)] H⟩)
@[simp] def r9 (fr : AFr) (H : AHeap) : ARes :=
 areg (q' (fa' 3 (fr 3)) H ⟨fun v26 H =>
 q' (ld' v26 H) H ⟨fun v27 H =>
 q' (bn' .shl (fr 1) v27) H ⟨fun v28 H =>
 e' [(6, v28)] H⟩⟩⟩)
@[simp] def r10 (fr : AFr) (H : AHeap) : ARes :=
 areg (q' (bn' .eql (fr 8) (.int .i64 5)) H ⟨fun v30 H =>
 e' [(1, fr 1), (3, fr 3), (8, fr 8), (29, v30)] H⟩)
@[simp] def r11 (fr : AFr) (H : AHeap) : ARes :=
 areg (q' (fa' 3 (fr 3)) H ⟨fun v32 H =>
 q' (ld' v32 H) H ⟨fun v33 H =>
 q' (bn' .shr (fr 1) v33) H ⟨fun v34 H =>
 e' [(6, v34)] H⟩⟩⟩)
@[simp] def r12 (fr : AFr) (H : AHeap) : ARes :=
 areg (q' (bn' .eql (fr 8) (.int .i64 6)) H ⟨fun v36 H =>
 e' [(1, fr 1), (3, fr 3), (8, fr 8), (35, v36)] H⟩)
@[simp] def r13 (s0 : SpecP) (fr : AFr) (H : AHeap) : ARes :=
 areg (q' (fa' 3 (fr 3)) H ⟨fun v38 H =>
 q' (ld' v38 H) H ⟨fun v39 H =>
 o' (callP false s0 [[none], [none]] [(fr 1), v39] H) ⟨fun v40 H =>
 e' [(6, v40)] H⟩⟩⟩)
@[simp] def r14 (fr : AFr) (H : AHeap) : ARes :=
 areg (q' (bn' .eql (fr 8) (.int .i64 7)) H ⟨fun v42 H =>
 e' [(1, fr 1), (3, fr 3), (41, v42)] H⟩)
@[simp] def r15 (fr : AFr) (H : AHeap) : ARes :=
 areg (q' (fa' 3 (fr 3)) H ⟨fun v43 H =>
 q' (ld' v43 H) H ⟨fun v44 H =>
 e' [(6, v44)] H⟩⟩)
@[simp] def r16 (fr : AFr) (H : AHeap) : ARes :=
 areg (e' [(6, (fr 1))] H)
@[simp] def body (s0 : SpecP) (fr : AFr) (H : AHeap) : ARes :=
  s' (r0 fr H) ⟨fun fr H =>
 s' (s' (r1 fr H) ⟨fun fr H =>
  aexit 0 (s' (r2 fr H) ⟨fun fr H =>
 c' (fr 9)
 ⟨s' (r3 fr H) ⟨fun fr H =>
 some (.ret, fr, H)⟩⟩
 ⟨s' (r4 fr H) ⟨fun fr H =>
 c' (fr 14)
 ⟨s' (r5 fr H) ⟨fun fr H =>
 some (.ret, fr, H)⟩⟩
 ⟨s' (r6 fr H) ⟨fun fr H =>
 c' (fr 19)
 ⟨s' (r7 fr H) ⟨fun fr H =>
 some (.ret, fr, H)⟩⟩
 ⟨s' (r8 fr H) ⟨fun fr H =>
 c' (fr 23)
 ⟨s' (r9 fr H) ⟨fun fr H =>
 some (.ret, fr, H)⟩⟩
 ⟨s' (r10 fr H) ⟨fun fr H =>
 c' (fr 29)
 ⟨s' (r11 fr H) ⟨fun fr H =>
 some (.ret, fr, H)⟩⟩
 ⟨s' (r12 fr H) ⟨fun fr H =>
 c' (fr 35)
 ⟨s' (r13 s0 fr H) ⟨fun fr H =>
 some (.ret, fr, H)⟩⟩
 ⟨s' (r14 fr H) ⟨fun fr H =>
 c' (fr 41)
 ⟨s' (r15 fr H) ⟨fun fr H =>
 some (.ret, fr, H)⟩⟩
 ⟨some (.normal, fr, H)⟩⟩⟩⟩⟩⟩⟩⟩⟩⟩⟩⟩⟩⟩)⟩) ⟨fun fr H =>
 s' (r16 fr H) ⟨fun fr H =>
 some (.ret, fr, H)⟩⟩⟩
@[simp] def res (fr : AFr) (H : AHeap) : Option (List AV) := res2 (some (fr 6)) (some [])
end isw_step
def isw_step (a0 a1 a2 : AV) : Option AV := closeUpR (some [[none]]) (afinR isw_step.res (isw_step.body word_Rot.spec (args0 [a0, a1, a2]) AHeap.empty))
def isw_step.spec : List AV → Option AV
  | [a0, a1, a2] => isw_step a0 a1 a2
  | _ => none
namespace isw_Exec
def C (s0 s1 s2 s3 : SpecP) : Tab := ((((Tab.none.add 56 (.pure false s0)).add 57 (.pure false s1)).add 58 (.pure false s2)).add 59 (.pure false s3))
@[simp] def r0 (fr : AFr) (H : AHeap) : ARes :=
 areg (o' (abox T.ty_api_Code (fr 0) H) ⟨fun v3 H =>
 e' [(1, fr 1), (2, fr 2), (3, v3)] H⟩)
@[simp] def r1 (s0 s1 : SpecP) (fr : AFr) (H : AHeap) : ARes :=
 areg (q' (Ld' 3 (fr 3) H) H ⟨fun v14 H =>
 o' (callP false s0 [[none, some 4, some 1]] [v14] H) ⟨fun v15 H =>
 q' (aun .not v15) H ⟨fun v16 H =>
 G' v16 false ⟨some (fr 2)⟩ H ⟨fun v18 H =>
 G' v16 false ⟨alenR .sl v18⟩ H ⟨fun v19 H =>
 G' v16 false ⟨Ld' 3 (fr 3) H⟩ H ⟨fun v20 H =>
 o' (g' (gw v16 false) ⟨callP false s1 [[none, some 4, some 1]] [v20] H⟩ H) ⟨fun v21 H =>
 G' v16 false ⟨bn' .lss v19 v21⟩ H ⟨fun v22 H =>
 q' (apick v16 (.bool true) v22) H ⟨fun v23 H =>
 e' [(1, fr 1), (2, fr 2), (3, fr 3), (23, v23)] H⟩⟩⟩⟩⟩⟩⟩⟩⟩)
@[simp] def r2 (fr : AFr) (H : AHeap) : ARes :=
 areg (e' [(6, .nils), (7, (.bool false))] H)
@[simp] def r3 (fr : AFr) (H : AHeap) : ARes :=
 areg (q' (fa' 0 (fr 3)) H ⟨fun v24 H =>
 q' (ld' v24 H) H ⟨fun v25 H =>
 q' (fa' 0 (fr 3)) H ⟨fun v26 H =>
 q' (ld' v26 H) H ⟨fun v27 H =>
 q' (fa' 1 (fr 3)) H ⟨fun v28 H =>
 q' (ld' v28 H) H ⟨fun v29 H =>
 q' (alenR .sl v29) H ⟨fun v30 H =>
 q' (bn' .add v27 v30) H ⟨fun v31 H =>
 o' (amakeR (some ⟨T.ty_uint32, 1, 4, [(W32 0#32)]⟩) v25 v31 H) ⟨fun v32 H =>
 e' [(1, fr 1), (2, fr 2), (3, fr 3), (8, v32)] H⟩⟩⟩⟩⟩⟩⟩⟩⟩)
@[simp] def r4 (fr : AFr) (H : AHeap) : ARes :=
 areg (o' (acopyR (some ⟨T.ty_uint32, 1, 4, [(W32 0#32)]⟩) (fr 8) (fr 1) H) ⟨fun v35 H =>
 e' [(2, fr 2), (3, fr 3), (8, fr 8)] H⟩)
@[simp] def r5 (fr : AFr) (H : AHeap) : ARes :=
 areg (q' (fa' 1 (fr 3)) H ⟨fun v36 H =>
 q' (ld' v36 H) H ⟨fun v37 H =>
 q' (alenR .sl v37) H ⟨fun v38 H =>
 e' [(2, fr 2), (8, fr 8), (37, v37), (38, v38), (39, (.int .i64 0))] H⟩⟩⟩)
@[simp] def r6 (fr : AFr) (H : AHeap) : ARes :=
 areg (q' (bn' .lss (fr 39) (fr 38)) H ⟨fun v40 H =>
 e' [(2, fr 2), (8, fr 8), (37, fr 37), (38, fr 38), (39, fr 39), (40, v40)] H⟩)
@[simp] def r7 (fr : AFr) (H : AHeap) : ARes :=
 areg (q' (aindexAddrR (.sl 4) (fr 37) (fr 39)) H ⟨fun v41 H =>
 q' (Ld' 4 v41 H) H ⟨fun v42 H =>
 o' (aallocR T.ty_api_Op (some (.agg [(.int .i64 0), (.int .i64 0), (.int .i64 0), (W32 0#32)])) H) ⟨fun v10 H =>
 w' (astoreR (some 4) v10 v42 H) ⟨fun _ H =>
 e' [(2, fr 2), (8, fr 8), (10, v10), (37, fr 37), (38, fr 38), (39, fr 39)] H⟩⟩⟩⟩)
@[simp] def r8 (fr : AFr) (H : AHeap) : ARes :=
 areg (q' (fa' 0 (fr 10)) H ⟨fun v43 H =>
 q' (ld' v43 H) H ⟨fun v44 H =>
 q' (bn' .eql v44 (.int .i64 0)) H ⟨fun v45 H =>
 e' [(2, fr 2), (8, fr 8), (10, fr 10), (37, fr 37), (38, fr 38), (39, fr 39), (45, v45)] H⟩⟩⟩)
@[simp] def r9 (fr : AFr) (H : AHeap) : ARes :=
 areg (q' (some (fr 8)) H ⟨fun v46 H1 =>
 q' (some (fr 2)) H1 ⟨fun v47 H2 =>
 q' (aindexAddrR (.sl 1) v47 (.int .i64 0)) H2 ⟨fun v48 H3 =>
 q' (ld' v48 H3) H3 ⟨fun v49 H4 =>
 o' (abuildSliceR (some ⟨T.ty_uint32, 1, 4, [(W32 0#32)]⟩) 1 [(0, v49)] H4) ⟨fun v50 H5 =>
 o' (aappendR (some ⟨T.ty_uint32, 1, 4, [(W32 0#32)]⟩) v46 v50 H5) ⟨fun v51 H6 =>
 q' (some (fr 2)) H6 ⟨fun v52 H7 =>
 q' (asliceR (.sl 1) v52 (some (.int .i64 1)) none none) H7 ⟨fun v53 H8 =>
 q' (some v51) H8 ⟨fun v8 H9 =>
 q' (some v53) H9 ⟨fun v2 H10 =>
 e' [(2, v2), (8, v8), (37, fr 37), (38, fr 38), (39, fr 39)] H10⟩⟩⟩⟩⟩⟩⟩⟩⟩⟩)
@[simp] def r10 (fr : AFr) (H : AHeap) : ARes :=
 areg (o' (aallocR T.ty_2_uint32 (some (.agg [(W32 0#32), (W32 0#32)])) H) ⟨fun v11 H =>
 e' [(2, fr 2), (8, fr 8), (10, fr 10), (11, v11), (37, fr 37), (38, fr 38), (39, fr 39)] H⟩)
@[simp] def r11 (fr : AFr) (H : AHeap) : ARes :=
 areg (q' (fa' 1 (fr 10)) H ⟨fun v54 H =>
 q' (ld' v54 H) H ⟨fun v55 H =>
 q' (fa' 2 (fr 10)) H ⟨fun v56 H =>
 q' (ld' v56 H) H ⟨fun v57 H =>
 q' (abuildR (.arr [(.int .i64 0), (.int .i64 0)] 1) [(0, v55), (1, v57)]) H ⟨fun v58 H =>
 e' [(2, fr 2), (8, fr 8), (10, fr 10), (11, fr 11), (37, fr 37), (38, fr 38), (39, fr 39), (58, v58), (59, (.int .i64 0))] H⟩⟩⟩⟩⟩)
@[simp] def r12 (fr : AFr) (H : AHeap) : ARes :=
 areg (q' (bn' .lss (fr 59) (.int .i64 2)) H ⟨fun v60 H =>
 e' [(2, fr 2), (8, fr 8), (10, fr 10), (11, fr 11), (37, fr 37), (38, fr 38), (39, fr 39), (58, fr 58), (59, fr 59), (60, v60)] H⟩)
@[simp] def r13 (fr : AFr) (H : AHeap) : ARes :=
 areg (q' (aindexR (.arr 2 1 (some none)) (fr 58) (fr 59)) H ⟨fun v62 H =>
 e' [(2, fr 2), (8, fr 8), (10, fr 10), (11, fr 11), (12, (fr 59)), (13, v62), (37, fr 37), (38, fr 38), (39, fr 39), (58, fr 58), (59, fr 59)] H⟩)
@[simp] def r14 (s2 : SpecP) (fr : AFr) (H : AHeap) : ARes :=
 areg (q' (fa' 0 (fr 10)) H ⟨fun v64 H =>
 q' (ld' v64 H) H ⟨fun v65 H =>
 o' (callP false s2 [[none]] [v65] H) ⟨fun v66 H =>
 q' (bn' .lss (fr 12) v66) H ⟨fun v67 H =>
 e' [(2, fr 2), (8, fr 8), (10, fr 10), (11, fr 11), (12, fr 12), (13, fr 13), (37, fr 37), (38, fr 38), (39, fr 39), (58, fr 58), (59, fr 59), (67, v67)] H⟩⟩⟩⟩)
@[simp] def r15 (fr : AFr) (H : AHeap) : ARes :=
 areg (q' (aindexAddrR (.sl 1) (fr 8) (fr 13)) H ⟨fun v71 H =>
 q' (ld' v71 H) H ⟨fun v72 H =>
 q' (aindexAddrR (.arr 2 1) (fr 11) (fr 12)) H ⟨fun v73 H =>
 w' (astoreR (some 1) v73 v72 H) ⟨fun _ H =>
 e' [(2, fr 2), (8, fr 8), (10, fr 10), (11, fr 11), (37, fr 37), (38, fr 38), (39, fr 39), (58, fr 58), (59, fr 59)] H⟩⟩⟩⟩)
@[simp] def r16 (fr : AFr) (H : AHeap) : ARes :=
 areg (q' (bn' .add (fr 59) (.int .i64 1)) H ⟨fun v74 H =>
 e' [(2, fr 2), (8, fr 8), (10, fr 10), (11, fr 11), (37, fr 37), (38, fr 38), (39, fr 39), (58, fr 58), (59, v74)] H⟩)
@[simp] def r17 (s3 : SpecP) (fr : AFr) (H : AHeap) : ARes :=
 areg (q' (Ld' 4 (fr 10) H) H ⟨fun v76 H =>
 q' (aindexAddrR (.arr 2 1) (fr 11) (.int .i64 0)) H ⟨fun v77 H =>
 q' (ld' v77 H) H ⟨fun v78 H =>
 q' (aindexAddrR (.arr 2 1) (fr 11) (.int .i64 1)) H ⟨fun v79 H =>
 q' (ld' v79 H) H ⟨fun v80 H =>
 o' (callP false s3 [[none, none, none, none], [none], [none]] [v76, v78, v80] H) ⟨fun v81 H =>
 o' (abuildSliceR (some ⟨T.ty_uint32, 1, 4, [(W32 0#32)]⟩) 1 [(0, v81)] H) ⟨fun v82 H =>
 o' (aappendR (some ⟨T.ty_uint32, 1, 4, [(W32 0#32)]⟩) (fr 8) v82 H) ⟨fun v83 H =>
 e' [(2, fr 2), (8, v83), (37, fr 37), (38, fr 38), (39, fr 39)] H⟩⟩⟩⟩⟩⟩⟩⟩)
@[simp] def r18 (fr : AFr) (H : AHeap) : ARes :=
 areg (q' (bn' .add (fr 39) (.int .i64 1)) H ⟨fun v84 H =>
 e' [(2, fr 2), (8, fr 8), (37, fr 37), (38, fr 38), (39, v84)] H⟩)
@[simp] def r19 (fr : AFr) (H : AHeap) : ARes :=
 areg (e' [(6, (fr 8)), (7, (.bool true))] H)
def l1 (s0 s1 s2 s3 : SpecP) (fr : AFr) (H : AHeap) : ARes :=
  s' (r12 fr H) ⟨fun fr H =>
 s' (c' (fr 60)
 ⟨some (.normal, fr, H)⟩
 ⟨some (.exit 2, fr, H)⟩) ⟨fun fr H =>
 s' (aexit 3 (s' (r13 fr H) ⟨fun fr H =>
 s' (r14 s2 fr H) ⟨fun fr H =>
 c' (fr 67)
 ⟨r15 fr H⟩
 ⟨some (.normal, fr, H)⟩⟩⟩)) ⟨fun fr H =>
 r16 fr H⟩⟩⟩
def l0 (s0 s1 s2 s3 : SpecP) (fr : AFr) (H : AHeap) : ARes :=
  s' (r6 fr H) ⟨fun fr H =>
 s' (c' (fr 40)
 ⟨some (.normal, fr, H)⟩
 ⟨some (.exit 0, fr, H)⟩) ⟨fun fr H =>
 s' (aexit 1 (s' (r7 fr H) ⟨fun fr H =>
 s' (s' (r8 fr H) ⟨fun fr H =>
 c' (fr 45)
 ⟨s' (r9 fr H) ⟨fun fr H =>
 some (.exit 1, fr, H)⟩⟩
 ⟨some (.normal, fr, H)⟩⟩) ⟨fun fr H =>
 s' (r10 fr H) ⟨fun fr H =>
 s' (s' (r11 fr H) ⟨fun fr H =>
  aexit 2 (aloop (l1 s0 s1 s2 s3) fr H)⟩) ⟨fun fr H =>
 r17 s3 fr H⟩⟩⟩⟩)) ⟨fun fr H =>
 r18 fr H⟩⟩⟩
@[simp] def body (s0 s1 s2 s3 : SpecP) (fr : AFr) (H : AHeap) : ARes :=
  s' (r0 fr H) ⟨fun fr H =>
 s' (s' (r1 s0 s1 fr H) ⟨fun fr H =>
 c' (fr 23)
 ⟨s' (r2 fr H) ⟨fun fr H =>
 some (.ret, fr, H)⟩⟩
 ⟨some (.normal, fr, H)⟩⟩) ⟨fun fr H =>
 s' (r3 fr H) ⟨fun fr H =>
 s' (r4 fr H) ⟨fun fr H =>
 s' (s' (r5 fr H) ⟨fun fr H =>
  aexit 0 (aloop (l0 s0 s1 s2 s3) fr H)⟩) ⟨fun fr H =>
 s' (r19 fr H) ⟨fun fr H =>
 some (.ret, fr, H)⟩⟩⟩⟩⟩⟩
@[simp] def res (fr : AFr) (H : AHeap) : Option (List AV) := res2 (some (fr 6)) (res2 (some (fr 7)) (some []))
end isw_Exec
def isw_Exec (a0 a1 a2 : AV) : Option AV := closeUpR (some [[some 1], [none]]) (afinR isw_Exec.res (isw_Exec.body isw_can.spec isw_randoms.spec isw_takes.spec isw_step.spec (args0 [a0, a1, a2]) AHeap.empty))
def isw_Exec.spec : List AV → Option AV
  | [a0, a1, a2] => isw_Exec a0 a1 a2
  | _ => none
end
end Go.Abs
