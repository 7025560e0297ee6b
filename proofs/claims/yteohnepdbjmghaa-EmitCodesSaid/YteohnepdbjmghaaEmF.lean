/-
  The functions, as they are over abstract values. Printed by gen.py.
-/
import Derived.Test.YteohnepdbjmghaaIxF
import Derived.Test.YteohnepdbjmghaaLoF
set_option linter.unusedVariables false
namespace Go.Abs
noncomputable section
namespace emit_takes
def C : Tab := Tab.none
@[simp] def r0 (fr : AFr) (H : AHeap) : ARes :=
 areg (e' [(0, fr 0)] H)
@[simp] def r1 (fr : AFr) (H : AHeap) : ARes :=
 areg (e' [(3, (fr 0))] H)
@[simp] def r2 (fr : AFr) (H : AHeap) : ARes :=
 areg (q' (bn' .eql (fr 3) (.int .i64 1)) H ⟨fun v5 H =>
 e' [(3, fr 3), (4, v5)] H⟩)
@[simp] def r3 (fr : AFr) (H : AHeap) : ARes :=
 areg (q' (bn' .eql (fr 3) (.int .i64 2)) H ⟨fun v6 H =>
 e' [(3, fr 3), (4, v6)] H⟩)
@[simp] def r4 (fr : AFr) (H : AHeap) : ARes :=
 areg (e' [(2, (.int .i64 2))] H)
@[simp] def r5 (fr : AFr) (H : AHeap) : ARes :=
 areg (q' (bn' .eql (fr 3) (.int .i64 0)) H ⟨fun v8 H =>
 e' [(3, fr 3), (7, v8)] H⟩)
@[simp] def r6 (fr : AFr) (H : AHeap) : ARes :=
 areg (q' (bn' .eql (fr 3) (.int .i64 7)) H ⟨fun v9 H =>
 e' [(7, v9)] H⟩)
@[simp] def r7 (fr : AFr) (H : AHeap) : ARes :=
 areg (e' [(2, (.int .i64 0))] H)
@[simp] def r8 (fr : AFr) (H : AHeap) : ARes :=
 areg (e' [(2, (.int .i64 1))] H)
@[simp] def body (fr : AFr) (H : AHeap) : ARes :=
  s' (r0 fr H) ⟨fun fr H =>
 s' (s' (r1 fr H) ⟨fun fr H =>
  aexit 0 (s' (s' (r2 fr H) ⟨fun fr H =>
 c' (fr 4)
 ⟨some (.normal, fr, H)⟩
 ⟨r3 fr H⟩⟩) ⟨fun fr H =>
 c' (fr 4)
 ⟨s' (r4 fr H) ⟨fun fr H =>
 some (.ret, fr, H)⟩⟩
 ⟨s' (s' (r5 fr H) ⟨fun fr H =>
 c' (fr 7)
 ⟨some (.normal, fr, H)⟩
 ⟨r6 fr H⟩⟩) ⟨fun fr H =>
 c' (fr 7)
 ⟨s' (r7 fr H) ⟨fun fr H =>
 some (.ret, fr, H)⟩⟩
 ⟨some (.normal, fr, H)⟩⟩⟩⟩)⟩) ⟨fun fr H =>
 s' (r8 fr H) ⟨fun fr H =>
 some (.ret, fr, H)⟩⟩⟩
@[simp] def res (fr : AFr) (H : AHeap) : Option (List AV) := res2 (some (fr 2)) (some [])
end emit_takes
def emit_takes (a0 : AV) : Option AV := closeUpR (some [[none]]) (afinR emit_takes.res (emit_takes.body (args0 [a0]) AHeap.empty))
def emit_takes.spec : List AV → Option AV
  | [a0] => emit_takes a0
  | _ => none
namespace emit_slot
def C : Tab := Tab.none
@[simp] def r0 (fr : AFr) (H : AHeap) : ARes :=
 areg (e' [(0, fr 0)] H)
@[simp] def r1 (fr : AFr) (H : AHeap) : ARes :=
 areg (q' (bn' .geq (fr 0) (.int .i64 0)) H ⟨fun v4 H =>
 G' v4 true ⟨some (fr 0)⟩ H ⟨fun v6 H =>
 G' v4 true ⟨bn' .leq v6 (.int .i64 16000)⟩ H ⟨fun v7 H =>
 q' (apick v4 v7 (.bool false)) H ⟨fun v8 H =>
 e' [(2, v8)] H⟩⟩⟩⟩)
@[simp] def body (fr : AFr) (H : AHeap) : ARes :=
  s' (r0 fr H) ⟨fun fr H =>
 s' (r1 fr H) ⟨fun fr H =>
 some (.ret, fr, H)⟩⟩
@[simp] def res (fr : AFr) (H : AHeap) : Option (List AV) := res2 (some (fr 2)) (some [])
end emit_slot
def emit_slot (a0 : AV) : Option AV := closeUpR (some [[none]]) (afinR emit_slot.res (emit_slot.body (args0 [a0]) AHeap.empty))
def emit_slot.spec : List AV → Option AV
  | [a0] => emit_slot a0
  | _ => none
namespace verify_asked_ready_1
def C : Tab := Tab.none
@[simp] def r0 (fr : AFr) (H : AHeap) : ARes :=
 areg (e' [(0, fr 0), (1, fr 1)] H)
@[simp] def r1 (fr : AFr) (H : AHeap) : ARes :=
 areg (q' (bn' .lss (fr 0) (.int .i64 0)) H ⟨fun v5 H =>
 G' v5 false ⟨some (fr 0)⟩ H ⟨fun v7 H =>
 G' v5 false ⟨ld' (fr 1) H⟩ H ⟨fun v8 H =>
 G' v5 false ⟨alenR .sl v8⟩ H ⟨fun v9 H =>
 G' v5 false ⟨bn' .geq v7 v9⟩ H ⟨fun v10 H =>
 q' (apick v5 (.bool true) v10) H ⟨fun v11 H =>
 e' [(3, v11)] H⟩⟩⟩⟩⟩⟩)
@[simp] def body (fr : AFr) (H : AHeap) : ARes :=
  s' (r0 fr H) ⟨fun fr H =>
 s' (r1 fr H) ⟨fun fr H =>
 some (.ret, fr, H)⟩⟩
@[simp] def res (fr : AFr) (H : AHeap) : Option (List AV) := res2 (some (fr 3)) (some [])
end verify_asked_ready_1
def verify_asked_ready_1 (a0 a1 : AV) (H : AHeap) : Option (AV × AHeap) := forget H (afinR verify_asked_ready_1.res (verify_asked_ready_1.body (args0 [a0, a1]) H))
def verify_asked_ready_1.spec : List AV → AHeap → Option (AV × AHeap)
  | [a0, a1], H => verify_asked_ready_1 a0 a1 H
  | _, _ => none
namespace emit_Code_1
def C (s0 : SpecP) : Tab := (Tab.none.add 70 (.pure false s0))
@[simp] def r0 (fr : AFr) (H : AHeap) : ARes :=
 areg (e' [(0, fr 0)] H)
@[simp] def r1 (s0 : SpecP) (fr : AFr) (H : AHeap) : ARes :=
 areg (o' (callP false s0 [[none]] [(fr 0)] H) ⟨fun v4 H =>
 q' (aun .not v4) H ⟨fun v5 H =>
 e' [(2, v5)] H⟩⟩)
@[simp] def body (s0 : SpecP) (fr : AFr) (H : AHeap) : ARes :=
  s' (r0 fr H) ⟨fun fr H =>
 s' (r1 s0 fr H) ⟨fun fr H =>
 some (.ret, fr, H)⟩⟩
@[simp] def res (fr : AFr) (H : AHeap) : Option (List AV) := res2 (some (fr 2)) (some [])
end emit_Code_1
def emit_Code_1 (a0 : AV) : Option AV := closeUpR (some [[none]]) (afinR emit_Code_1.res (emit_Code_1.body emit_slot.spec (args0 [a0]) AHeap.empty))
def emit_Code_1.spec : List AV → Option AV
  | [a0] => emit_Code_1 a0
  | _ => none
namespace emit_Step_1
def C (s0 : SpecP) : Tab := (Tab.none.add 70 (.pure false s0))
@[simp] def r0 (fr : AFr) (H : AHeap) : ARes :=
 areg (e' [(0, fr 0)] H)
@[simp] def r1 (s0 : SpecP) (fr : AFr) (H : AHeap) : ARes :=
 areg (o' (callP false s0 [[none]] [(fr 0)] H) ⟨fun v4 H =>
 q' (aun .not v4) H ⟨fun v5 H =>
 e' [(2, v5)] H⟩⟩)
@[simp] def body (s0 : SpecP) (fr : AFr) (H : AHeap) : ARes :=
  s' (r0 fr H) ⟨fun fr H =>
 s' (r1 s0 fr H) ⟨fun fr H =>
 some (.ret, fr, H)⟩⟩
@[simp] def res (fr : AFr) (H : AHeap) : Option (List AV) := res2 (some (fr 2)) (some [])
end emit_Step_1
def emit_Step_1 (a0 : AV) : Option AV := closeUpR (some [[none]]) (afinR emit_Step_1.res (emit_Step_1.body emit_slot.spec (args0 [a0]) AHeap.empty))
def emit_Step_1.spec : List AV → Option AV
  | [a0] => emit_Step_1 a0
  | _ => none
namespace slices_IndexFunc_int
def C (s0 s1 : SpecP) (s2 : SpecM) : Tab := (((Tab.none.add 72 (.pure false s0)).add 80 (.pure false s1)).add 140 (.ref [false] s2))
@[simp] def r0 (fr : AFr) (H : AHeap) : ARes :=
 areg (e' [(0, fr 0), (1, fr 1)] H)
@[simp] def r1 (fr : AFr) (H : AHeap) : ARes :=
 areg (q' (alenR .sl (fr 0)) H ⟨fun v7 H =>
 e' [(0, fr 0), (1, fr 1), (7, v7), (8, (.int .i64 0))] H⟩)
@[simp] def r2 (fr : AFr) (H : AHeap) : ARes :=
 areg (q' (bn' .lss (fr 8) (fr 7)) H ⟨fun v9 H =>
 e' [(0, fr 0), (1, fr 1), (7, fr 7), (8, fr 8), (9, v9)] H⟩)
@[simp] def r3 (fr : AFr) (H : AHeap) : ARes :=
 areg (e' [(0, fr 0), (1, fr 1), (5, (fr 8)), (7, fr 7), (8, fr 8)] H)
@[simp] def r4 (s0 s1 : SpecP) (s2 : SpecM) (fr : AFr) (H : AHeap) : ARes :=
 areg (q' (aindexAddrR (.sl 1) (fr 0) (fr 5)) H ⟨fun v14 H =>
 q' (ld' v14 H) H ⟨fun v15 H =>
 o' (acallClo (C s0 s1 s2) (some [[none]]) (fr 1) [v15] H) ⟨fun v16 H =>
 e' [(0, fr 0), (1, fr 1), (5, fr 5), (7, fr 7), (8, fr 8), (16, v16)] H⟩⟩⟩)
@[simp] def r5 (fr : AFr) (H : AHeap) : ARes :=
 areg (e' [(4, (fr 5))] H)
@[simp] def r6 (fr : AFr) (H : AHeap) : ARes :=
 areg (q' (bn' .add (fr 8) (.int .i64 1)) H ⟨fun v18 H =>
 e' [(0, fr 0), (1, fr 1), (7, fr 7), (8, v18)] H⟩)
@[simp] def r7 (fr : AFr) (H : AHeap) : ARes :=
 areg (e' [(4, (.int .i64 (-1)))] H)
def l0 (s0 s1 : SpecP) (s2 : SpecM) (fr : AFr) (H : AHeap) : ARes :=
  s' (r2 fr H) ⟨fun fr H =>
 s' (c' (fr 9)
 ⟨some (.normal, fr, H)⟩
 ⟨some (.exit 0, fr, H)⟩) ⟨fun fr H =>
 s' (aexit 1 (s' (r3 fr H) ⟨fun fr H =>
 s' (r4 s0 s1 s2 fr H) ⟨fun fr H =>
 c' (fr 16)
 ⟨s' (r5 fr H) ⟨fun fr H =>
 some (.ret, fr, H)⟩⟩
 ⟨some (.normal, fr, H)⟩⟩⟩)) ⟨fun fr H =>
 r6 fr H⟩⟩⟩
@[simp] def body (s0 s1 : SpecP) (s2 : SpecM) (fr : AFr) (H : AHeap) : ARes :=
  s' (r0 fr H) ⟨fun fr H =>
 s' (s' (r1 fr H) ⟨fun fr H =>
  aexit 0 (aloop (l0 s0 s1 s2) fr H)⟩) ⟨fun fr H =>
 s' (r7 fr H) ⟨fun fr H =>
 some (.ret, fr, H)⟩⟩⟩
@[simp] def res (fr : AFr) (H : AHeap) : Option (List AV) := res2 (some (fr 4)) (some [])
end slices_IndexFunc_int
def slices_IndexFunc_int (a0 a1 : AV) (H : AHeap) : Option (AV × AHeap) := forget H (afinR slices_IndexFunc_int.res (slices_IndexFunc_int.body emit_Step_1.spec emit_Code_1.spec verify_asked_ready_1.spec (args0 [a0, a1]) H))
def slices_IndexFunc_int.spec : List AV → AHeap → Option (AV × AHeap)
  | [a0, a1], H => slices_IndexFunc_int a0 a1 H
  | _, _ => none
namespace slices_ContainsFunc_int
def C (s0 : SpecM) : Tab := (Tab.none.add 114 (.ref [true, false] s0))
@[simp] def r0 (fr : AFr) (H : AHeap) : ARes :=
 areg (e' [(0, fr 0), (1, fr 1)] H)
@[simp] def r1 (s0 : SpecM) (fr : AFr) (H : AHeap) : ARes :=
 areg (o' (callM [true, false] s0 [[some 1], [none]] [(fr 0), (fr 1)] H) ⟨fun v7 H =>
 q' (bn' .geq v7 (.int .i64 0)) H ⟨fun v8 H =>
 e' [(4, v8)] H⟩⟩)
@[simp] def body (s0 : SpecM) (fr : AFr) (H : AHeap) : ARes :=
  s' (r0 fr H) ⟨fun fr H =>
 s' (r1 s0 fr H) ⟨fun fr H =>
 some (.ret, fr, H)⟩⟩
@[simp] def res (fr : AFr) (H : AHeap) : Option (List AV) := res2 (some (fr 4)) (some [])
end slices_ContainsFunc_int
def slices_ContainsFunc_int (a0 a1 : AV) (H : AHeap) : Option (AV × AHeap) := forget H (afinR slices_ContainsFunc_int.res (slices_ContainsFunc_int.body slices_IndexFunc_int.spec (args0 [a0, a1]) H))
def slices_ContainsFunc_int.spec : List AV → AHeap → Option (AV × AHeap)
  | [a0, a1], H => slices_ContainsFunc_int a0 a1 H
  | _, _ => none
namespace emit_mov
def C : Tab := Tab.none
@[simp] def r0 (fr : AFr) (H : AHeap) : ARes :=
 areg (o' (aallocR T.ty_api_Ins (some (.agg [(.int .i64 0), (.int .i64 0), (.int .i64 0), (.int .i64 0), (.int .i64 0)])) H) ⟨fun v4 H =>
 e' [(0, fr 0), (1, fr 1), (4, v4)] H⟩)
@[simp] def r1 (fr : AFr) (H : AHeap) : ARes :=
 areg (q' (abuildR (.str [(.int .i64 0), (.int .i64 0), (.int .i64 0), (.int .i64 0), (.int .i64 0)] [(0, 1), (1, 1), (2, 1), (3, 1), (4, 1)]) [(0, (.int .i64 0)), (1, (fr 0)), (4, (fr 1))]) H ⟨fun v7 H =>
 w' (astoreR (some 5) (fr 4) v7 H) ⟨fun _ H =>
 e' [(4, fr 4)] H⟩⟩)
@[simp] def body (fr : AFr) (H : AHeap) : ARes :=
  s' (r0 fr H) ⟨fun fr H =>
 s' (r1 fr H) ⟨fun fr H =>
 some (.ret, fr, H)⟩⟩
@[simp] def res (fr : AFr) (H : AHeap) : Option (List AV) := res2 (aloadR (some (some 5)) (fr 4) H) (some [])
end emit_mov
def emit_mov (a0 a1 : AV) : Option AV := closeUpR (some [[none, none, none, none, none]]) (afinR emit_mov.res (emit_mov.body (args0 [a0, a1]) AHeap.empty))
def emit_mov.spec : List AV → Option AV
  | [a0, a1] => emit_mov a0 a1
  | _ => none
namespace emit_left
def C : Tab := Tab.none
@[simp] def r0 (fr : AFr) (H : AHeap) : ARes :=
 areg (o' (aallocR T.ty_api_Ins (some (.agg [(.int .i64 0), (.int .i64 0), (.int .i64 0), (.int .i64 0), (.int .i64 0)])) H) ⟨fun v4 H =>
 e' [(0, fr 0), (1, fr 1), (4, v4)] H⟩)
@[simp] def r1 (fr : AFr) (H : AHeap) : ARes :=
 areg (q' (abuildR (.str [(.int .i64 0), (.int .i64 0), (.int .i64 0), (.int .i64 0), (.int .i64 0)] [(0, 1), (1, 1), (2, 1), (3, 1), (4, 1)]) [(0, (.int .i64 4)), (1, (fr 0)), (3, (fr 0)), (4, (fr 1))]) H ⟨fun v8 H =>
 w' (astoreR (some 5) (fr 4) v8 H) ⟨fun _ H =>
 e' [(4, fr 4)] H⟩⟩)
@[simp] def body (fr : AFr) (H : AHeap) : ARes :=
  s' (r0 fr H) ⟨fun fr H =>
 s' (r1 fr H) ⟨fun fr H =>
 some (.ret, fr, H)⟩⟩
@[simp] def res (fr : AFr) (H : AHeap) : Option (List AV) := res2 (aloadR (some (some 5)) (fr 4) H) (some [])
end emit_left
def emit_left (a0 a1 : AV) : Option AV := closeUpR (some [[none, none, none, none, none]]) (afinR emit_left.res (emit_left.body (args0 [a0, a1]) AHeap.empty))
def emit_left.spec : List AV → Option AV
  | [a0, a1] => emit_left a0 a1
  | _ => none
namespace emit_add
def C : Tab := Tab.none
@[simp] def r0 (fr : AFr) (H : AHeap) : ARes :=
 areg (o' (aallocR T.ty_api_Ins (some (.agg [(.int .i64 0), (.int .i64 0), (.int .i64 0), (.int .i64 0), (.int .i64 0)])) H) ⟨fun v4 H =>
 e' [(0, fr 0), (1, fr 1), (4, v4)] H⟩)
@[simp] def r1 (fr : AFr) (H : AHeap) : ARes :=
 areg (q' (abuildR (.str [(.int .i64 0), (.int .i64 0), (.int .i64 0), (.int .i64 0), (.int .i64 0)] [(0, 1), (1, 1), (2, 1), (3, 1), (4, 1)]) [(0, (.int .i64 2)), (1, (fr 0)), (4, (fr 1))]) H ⟨fun v7 H =>
 w' (astoreR (some 5) (fr 4) v7 H) ⟨fun _ H =>
 e' [(4, fr 4)] H⟩⟩)
@[simp] def body (fr : AFr) (H : AHeap) : ARes :=
  s' (r0 fr H) ⟨fun fr H =>
 s' (r1 fr H) ⟨fun fr H =>
 some (.ret, fr, H)⟩⟩
@[simp] def res (fr : AFr) (H : AHeap) : Option (List AV) := res2 (aloadR (some (some 5)) (fr 4) H) (some [])
end emit_add
def emit_add (a0 a1 : AV) : Option AV := closeUpR (some [[none, none, none, none, none]]) (afinR emit_add.res (emit_add.body (args0 [a0, a1]) AHeap.empty))
def emit_add.spec : List AV → Option AV
  | [a0, a1] => emit_add a0 a1
  | _ => none
namespace emit_at_ref
def C (s0 s1 s2 : SpecP) : Tab := (((Tab.none.add 78 (.pure false s0)).add 79 (.pure false s1)).add 121 (.pure false s2))
@[simp] def r0 (fr : AFr) (H : AHeap) : ARes :=
 areg (e' [(0, fr 0)] H)
@[simp] def r1 (fr : AFr) (H : AHeap) : ARes :=
 areg (q' (bn' .mul (fr 0) (.int .i64 4)) H ⟨fun v4 H =>
 e' [(0, v4)] H⟩)
@[simp] def r2 (fr : AFr) (H : AHeap) : ARes :=
 areg (q' (bn' .lss (fr 0) (.int .i64 256)) H ⟨fun v6 H =>
 e' [(0, fr 0), (6, v6)] H⟩)
@[simp] def r3 (s0 : SpecP) (fr : AFr) (H : AHeap) : ARes :=
 areg (o' (callP false s0 [[none], [none]] [(.int .i64 6), (fr 0)] H) ⟨fun v8 H =>
 o' (abuildSliceR (some ⟨T.ty_api_Ins, 5, 40, [(.int .i64 0), (.int .i64 0), (.int .i64 0), (.int .i64 0), (.int .i64 0)]⟩) 1 [(0, v8)] H) ⟨fun v9 H =>
 e' [(2, v9)] H⟩⟩)
@[simp] def r4 (s0 s1 s2 : SpecP) (fr : AFr) (H : AHeap) : ARes :=
 areg (q' (bn' .quo (fr 0) (.int .i64 256)) H ⟨fun v11 H =>
 o' (callP false s0 [[none], [none]] [(.int .i64 6), v11] H) ⟨fun v12 H =>
 o' (callP false s1 [[none], [none]] [(.int .i64 6), (.int .i64 8)] H) ⟨fun v13 H =>
 q' (bn' .rem (fr 0) (.int .i64 256)) H ⟨fun v15 H =>
 o' (callP false s2 [[none], [none]] [(.int .i64 6), v15] H) ⟨fun v16 H =>
 o' (abuildSliceR (some ⟨T.ty_api_Ins, 5, 40, [(.int .i64 0), (.int .i64 0), (.int .i64 0), (.int .i64 0), (.int .i64 0)]⟩) 3 [(0, v12), (1, v13), (2, v16)] H) ⟨fun v17 H =>
 e' [(2, v17)] H⟩⟩⟩⟩⟩⟩)
@[simp] def body (s0 s1 s2 : SpecP) (fr : AFr) (H : AHeap) : ARes :=
  s' (r0 fr H) ⟨fun fr H =>
 s' (r1 fr H) ⟨fun fr H =>
 s' (s' (r2 fr H) ⟨fun fr H =>
 c' (fr 6)
 ⟨s' (r3 s0 fr H) ⟨fun fr H =>
 some (.ret, fr, H)⟩⟩
 ⟨some (.normal, fr, H)⟩⟩) ⟨fun fr H =>
 s' (r4 s0 s1 s2 fr H) ⟨fun fr H =>
 some (.ret, fr, H)⟩⟩⟩⟩
@[simp] def res (fr : AFr) (H : AHeap) : Option (List AV) := res2 (some (fr 2)) (some [])
end emit_at_ref
def emit_at_ref (a0 : AV) (H : AHeap) : Option (AV × AHeap) := raw (afinR emit_at_ref.res (emit_at_ref.body emit_mov.spec emit_left.spec emit_add.spec (args0 [a0]) H))
def emit_at_ref.spec : List AV → AHeap → Option (AV × AHeap)
  | [a0], H => emit_at_ref a0 H
  | _, _ => none
namespace emit_get
def C (s0 : SpecM) : Tab := (Tab.none.add 77 (.ref [false] s0))
@[simp] def r0 (fr : AFr) (H : AHeap) : ARes :=
 areg (e' [(0, fr 0), (1, fr 1)] H)
@[simp] def r1 (s0 : SpecM) (fr : AFr) (H : AHeap) : ARes :=
 areg (o' (callM [false] s0 [[none]] [(fr 1)] H) ⟨fun v6 H =>
 q' (abuildR (.str [(.int .i64 0), (.int .i64 0), (.int .i64 0), (.int .i64 0), (.int .i64 0)] [(0, 1), (1, 1), (2, 1), (3, 1), (4, 1)]) [(0, (.int .i64 14)), (1, (fr 0)), (2, (.int .i64 7)), (3, (.int .i64 6))]) H ⟨fun v8 H =>
 o' (abuildSliceR (some ⟨T.ty_api_Ins, 5, 40, [(.int .i64 0), (.int .i64 0), (.int .i64 0), (.int .i64 0), (.int .i64 0)]⟩) 1 [(0, v8)] H) ⟨fun v9 H =>
 o' (aappendR (some ⟨T.ty_api_Ins, 5, 40, [(.int .i64 0), (.int .i64 0), (.int .i64 0), (.int .i64 0), (.int .i64 0)]⟩) v6 v9 H) ⟨fun v10 H =>
 e' [(4, v10)] H⟩⟩⟩⟩)
@[simp] def body (s0 : SpecM) (fr : AFr) (H : AHeap) : ARes :=
  s' (r0 fr H) ⟨fun fr H =>
 s' (r1 s0 fr H) ⟨fun fr H =>
 some (.ret, fr, H)⟩⟩
@[simp] def res (fr : AFr) (H : AHeap) : Option (List AV) := res2 (some (fr 4)) (some [])
end emit_get
def emit_get (a0 a1 : AV) : Option AV := closeUpR (some [[some 5]]) (afinR emit_get.res (emit_get.body emit_at_ref.spec (args0 [a0, a1]) AHeap.empty))
def emit_get.spec : List AV → Option AV
  | [a0, a1] => emit_get a0 a1
  | _ => none
namespace emit_alu
def C : Tab := Tab.none
@[simp] def r0 (fr : AFr) (H : AHeap) : ARes :=
 areg (o' (aallocR T.ty_api_Ins (some (.agg [(.int .i64 0), (.int .i64 0), (.int .i64 0), (.int .i64 0), (.int .i64 0)])) H) ⟨fun v6 H =>
 e' [(0, fr 0), (1, fr 1), (2, fr 2), (6, v6)] H⟩)
@[simp] def r1 (fr : AFr) (H : AHeap) : ARes :=
 areg (q' (abuildR (.str [(.int .i64 0), (.int .i64 0), (.int .i64 0), (.int .i64 0), (.int .i64 0)] [(0, 1), (1, 1), (2, 1), (3, 1), (4, 1)]) [(0, (.int .i64 11)), (1, (fr 1)), (3, (fr 2)), (4, (fr 0))]) H ⟨fun v10 H =>
 w' (astoreR (some 5) (fr 6) v10 H) ⟨fun _ H =>
 e' [(6, fr 6)] H⟩⟩)
@[simp] def body (fr : AFr) (H : AHeap) : ARes :=
  s' (r0 fr H) ⟨fun fr H =>
 s' (r1 fr H) ⟨fun fr H =>
 some (.ret, fr, H)⟩⟩
@[simp] def res (fr : AFr) (H : AHeap) : Option (List AV) := res2 (aloadR (some (some 5)) (fr 6) H) (some [])
end emit_alu
def emit_alu (a0 a1 a2 : AV) : Option AV := closeUpR (some [[none, none, none, none, none]]) (afinR emit_alu.res (emit_alu.body (args0 [a0, a1, a2]) AHeap.empty))
def emit_alu.spec : List AV → Option AV
  | [a0, a1, a2] => emit_alu a0 a1 a2
  | _ => none
namespace emit_constant
def C (s0 s1 s2 : SpecP) : Tab := (((Tab.none.add 79 (.pure false s0)).add 121 (.pure false s1)).add 78 (.pure false s2))
@[simp] def r0 (fr : AFr) (H : AHeap) : ARes :=
 areg (e' [(0, fr 0)] H)
@[simp] def r1 (fr : AFr) (H : AHeap) : ARes :=
 areg (e' [(0, fr 0), (3, .nils)] H)
@[simp] def r2 (fr : AFr) (H : AHeap) : ARes :=
 areg (e' [(0, fr 0), (3, fr 3), (4, (.int .i64 24))] H)
@[simp] def r3 (fr : AFr) (H : AHeap) : ARes :=
 areg (q' (bn' .geq (fr 4) (.int .i64 0)) H ⟨fun v7 H =>
 e' [(0, fr 0), (3, fr 3), (4, fr 4), (7, v7)] H⟩)
@[simp] def r5 (fr : AFr) (H : AHeap) : ARes :=
 areg (q' (bn' .shr (fr 0) (fr 4)) H ⟨fun v12 H =>
 q' (bn' .and v12 (W32 255#32)) H ⟨fun v13 H =>
 q' (aconvR (some .i64) v13) H ⟨fun v14 H =>
 e' [(0, fr 0), (3, fr 3), (4, fr 4), (5, v14)] H⟩⟩⟩)
@[simp] def r6 (fr : AFr) (H : AHeap) : ARes :=
 areg (q' (alenR .sl (fr 3)) H ⟨fun v17 H =>
 q' (bn' .gtr v17 (.int .i64 0)) H ⟨fun v18 H =>
 e' [(0, fr 0), (3, fr 3), (4, fr 4), (5, fr 5), (15, v18)] H⟩⟩)
@[simp] def r7 (s0 s1 : SpecP) (fr : AFr) (H : AHeap) : ARes :=
 areg (o' (callP false s0 [[none], [none]] [(.int .i64 0), (.int .i64 8)] H) ⟨fun v20 H =>
 o' (callP false s1 [[none], [none]] [(.int .i64 0), (fr 5)] H) ⟨fun v22 H =>
 o' (abuildSliceR (some ⟨T.ty_api_Ins, 5, 40, [(.int .i64 0), (.int .i64 0), (.int .i64 0), (.int .i64 0), (.int .i64 0)]⟩) 2 [(0, v20), (1, v22)] H) ⟨fun v23 H =>
 o' (aappendR (some ⟨T.ty_api_Ins, 5, 40, [(.int .i64 0), (.int .i64 0), (.int .i64 0), (.int .i64 0), (.int .i64 0)]⟩) (fr 3) v23 H) ⟨fun v24 H =>
 e' [(0, fr 0), (3, v24), (4, fr 4)] H⟩⟩⟩⟩)
@[simp] def r8 (fr : AFr) (H : AHeap) : ARes :=
 areg (q' (bn' .gtr (fr 5) (.int .i64 0)) H ⟨fun v27 H =>
 G' v27 false ⟨some (fr 4)⟩ H ⟨fun v29 H =>
 G' v27 false ⟨bn' .eql v29 (.int .i64 0)⟩ H ⟨fun v30 H =>
 q' (apick v27 (.bool true) v30) H ⟨fun v31 H =>
 e' [(0, fr 0), (3, fr 3), (4, fr 4), (5, fr 5), (25, v31)] H⟩⟩⟩⟩)
@[simp] def r9 (s2 : SpecP) (fr : AFr) (H : AHeap) : ARes :=
 areg (o' (callP false s2 [[none], [none]] [(.int .i64 0), (fr 5)] H) ⟨fun v34 H =>
 o' (abuildSliceR (some ⟨T.ty_api_Ins, 5, 40, [(.int .i64 0), (.int .i64 0), (.int .i64 0), (.int .i64 0), (.int .i64 0)]⟩) 1 [(0, v34)] H) ⟨fun v35 H =>
 o' (aappendR (some ⟨T.ty_api_Ins, 5, 40, [(.int .i64 0), (.int .i64 0), (.int .i64 0), (.int .i64 0), (.int .i64 0)]⟩) (fr 3) v35 H) ⟨fun v36 H =>
 e' [(0, fr 0), (3, v36), (4, fr 4)] H⟩⟩⟩)
@[simp] def r4 (fr : AFr) (H : AHeap) : ARes :=
 areg (q' (bn' .sub (fr 4) (.int .i64 8)) H ⟨fun v9 H =>
 e' [(0, fr 0), (3, fr 3), (4, v9)] H⟩)
@[simp] def r10 (fr : AFr) (H : AHeap) : ARes :=
 areg (e' [(2, (fr 3))] H)
def l0 (s0 s1 s2 : SpecP) (fr : AFr) (H : AHeap) : ARes :=
  s' (s' (r3 fr H) ⟨fun fr H =>
 c' (fr 7)
 ⟨some (.normal, fr, H)⟩
 ⟨some (.exit 0, fr, H)⟩⟩) ⟨fun fr H =>
 s' (aexit 1 (s' (r5 fr H) ⟨fun fr H =>
  aexit 2 (s' (r6 fr H) ⟨fun fr H =>
 c' (fr 15)
 ⟨r7 s0 s1 fr H⟩
 ⟨s' (r8 fr H) ⟨fun fr H =>
 c' (fr 25)
 ⟨r9 s2 fr H⟩
 ⟨some (.normal, fr, H)⟩⟩⟩⟩)⟩)) ⟨fun fr H =>
 r4 fr H⟩⟩
@[simp] def body (s0 s1 s2 : SpecP) (fr : AFr) (H : AHeap) : ARes :=
  s' (r0 fr H) ⟨fun fr H =>
 s' (r1 fr H) ⟨fun fr H =>
 s' (s' (r2 fr H) ⟨fun fr H =>
  aexit 0 (aloop (l0 s0 s1 s2) fr H)⟩) ⟨fun fr H =>
 s' (r10 fr H) ⟨fun fr H =>
 some (.ret, fr, H)⟩⟩⟩⟩
@[simp] def res (fr : AFr) (H : AHeap) : Option (List AV) := res2 (some (fr 2)) (some [])
end emit_constant
def emit_constant (a0 : AV) : Option AV := closeUpR (some [[some 5]]) (afinR emit_constant.res (emit_constant.body emit_left.spec emit_add.spec emit_mov.spec (args0 [a0]) AHeap.empty))
def emit_constant.spec : List AV → Option AV
  | [a0] => emit_constant a0
  | _ => none
namespace emit_does
def C (s0 s1 s2 s3 : SpecP) : Tab := ((((Tab.none.add 159 (.pure false s0)).add 79 (.pure false s1)).add 78 (.pure false s2)).add 160 (.pure false s3))
@[simp] def r0 (fr : AFr) (H : AHeap) : ARes :=
 areg (o' (abox T.ty_api_Op (fr 0) H) ⟨fun v1 H =>
 e' [(1, v1)] H⟩)
@[simp] def r1 (fr : AFr) (H : AHeap) : ARes :=
 areg (q' (fa' 0 (fr 1)) H ⟨fun v3 H =>
 q' (ld' v3 H) H ⟨fun v4 H =>
 e' [(1, fr 1), (4, v4)] H⟩⟩)
@[simp] def r2 (fr : AFr) (H : AHeap) : ARes :=
 areg (q' (bn' .eql (fr 4) (.int .i64 1)) H ⟨fun v6 H =>
 e' [(1, fr 1), (4, fr 4), (5, v6)] H⟩)
@[simp] def r3 (s0 : SpecP) (fr : AFr) (H : AHeap) : ARes :=
 areg (o' (callP false s0 [[none], [none], [none]] [(.int .i64 0), (.int .i64 0), (.int .i64 1)] H) ⟨fun v7 H =>
 o' (abuildSliceR (some ⟨T.ty_api_Ins, 5, 40, [(.int .i64 0), (.int .i64 0), (.int .i64 0), (.int .i64 0), (.int .i64 0)]⟩) 1 [(0, v7)] H) ⟨fun v8 H =>
 e' [(2, v8)] H⟩⟩)
@[simp] def r4 (fr : AFr) (H : AHeap) : ARes :=
 areg (q' (bn' .eql (fr 4) (.int .i64 2)) H ⟨fun v10 H =>
 e' [(1, fr 1), (4, fr 4), (9, v10)] H⟩)
@[simp] def r5 (s0 : SpecP) (fr : AFr) (H : AHeap) : ARes :=
 areg (o' (callP false s0 [[none], [none], [none]] [(.int .i64 1), (.int .i64 0), (.int .i64 1)] H) ⟨fun v11 H =>
 o' (abuildSliceR (some ⟨T.ty_api_Ins, 5, 40, [(.int .i64 0), (.int .i64 0), (.int .i64 0), (.int .i64 0), (.int .i64 0)]⟩) 1 [(0, v11)] H) ⟨fun v12 H =>
 e' [(2, v12)] H⟩⟩)
@[simp] def r6 (fr : AFr) (H : AHeap) : ARes :=
 areg (q' (bn' .eql (fr 4) (.int .i64 3)) H ⟨fun v14 H =>
 e' [(1, fr 1), (4, fr 4), (13, v14)] H⟩)
@[simp] def r7 (s0 : SpecP) (fr : AFr) (H : AHeap) : ARes :=
 areg (o' (callP false s0 [[none], [none], [none]] [(.int .i64 15), (.int .i64 0), (.int .i64 0)] H) ⟨fun v15 H =>
 o' (abuildSliceR (some ⟨T.ty_api_Ins, 5, 40, [(.int .i64 0), (.int .i64 0), (.int .i64 0), (.int .i64 0), (.int .i64 0)]⟩) 1 [(0, v15)] H) ⟨fun v16 H =>
 e' [(2, v16)] H⟩⟩)
@[simp] def r8 (fr : AFr) (H : AHeap) : ARes :=
 areg (q' (bn' .eql (fr 4) (.int .i64 4)) H ⟨fun v18 H =>
 e' [(1, fr 1), (4, fr 4), (17, v18)] H⟩)
@[simp] def r9 (s1 : SpecP) (fr : AFr) (H : AHeap) : ARes :=
 areg (q' (fa' 3 (fr 1)) H ⟨fun v19 H =>
 q' (ld' v19 H) H ⟨fun v20 H =>
 q' (aconvR (some .i64) v20) H ⟨fun v21 H =>
 o' (callP false s1 [[none], [none]] [(.int .i64 0), v21] H) ⟨fun v22 H =>
 o' (abuildSliceR (some ⟨T.ty_api_Ins, 5, 40, [(.int .i64 0), (.int .i64 0), (.int .i64 0), (.int .i64 0), (.int .i64 0)]⟩) 1 [(0, v22)] H) ⟨fun v23 H =>
 e' [(2, v23)] H⟩⟩⟩⟩⟩)
@[simp] def r10 (fr : AFr) (H : AHeap) : ARes :=
 areg (q' (bn' .eql (fr 4) (.int .i64 5)) H ⟨fun v25 H =>
 e' [(1, fr 1), (4, fr 4), (24, v25)] H⟩)
@[simp] def r11 (fr : AFr) (H : AHeap) : ARes :=
 areg (q' (fa' 3 (fr 1)) H ⟨fun v26 H =>
 q' (ld' v26 H) H ⟨fun v27 H =>
 q' (bn' .eql v27 (W32 0#32)) H ⟨fun v28 H =>
 e' [(1, fr 1), (28, v28)] H⟩⟩⟩)
@[simp] def r12 (s1 : SpecP) (fr : AFr) (H : AHeap) : ARes :=
 areg (o' (callP false s1 [[none], [none]] [(.int .i64 0), (.int .i64 0)] H) ⟨fun v29 H =>
 o' (abuildSliceR (some ⟨T.ty_api_Ins, 5, 40, [(.int .i64 0), (.int .i64 0), (.int .i64 0), (.int .i64 0), (.int .i64 0)]⟩) 1 [(0, v29)] H) ⟨fun v30 H =>
 e' [(2, v30)] H⟩⟩)
@[simp] def r13 (fr : AFr) (H : AHeap) : ARes :=
 areg (q' (fa' 3 (fr 1)) H ⟨fun v31 H =>
 q' (ld' v31 H) H ⟨fun v32 H =>
 q' (aconvR (some .i64) v32) H ⟨fun v33 H =>
 q' (abuildR (.str [(.int .i64 0), (.int .i64 0), (.int .i64 0), (.int .i64 0), (.int .i64 0)] [(0, 1), (1, 1), (2, 1), (3, 1), (4, 1)]) [(0, (.int .i64 5)), (1, (.int .i64 0)), (3, (.int .i64 0)), (4, v33)]) H ⟨fun v34 H =>
 o' (abuildSliceR (some ⟨T.ty_api_Ins, 5, 40, [(.int .i64 0), (.int .i64 0), (.int .i64 0), (.int .i64 0), (.int .i64 0)]⟩) 1 [(0, v34)] H) ⟨fun v35 H =>
 e' [(2, v35)] H⟩⟩⟩⟩⟩)
@[simp] def r14 (fr : AFr) (H : AHeap) : ARes :=
 areg (q' (bn' .eql (fr 4) (.int .i64 6)) H ⟨fun v37 H =>
 e' [(1, fr 1), (4, fr 4), (36, v37)] H⟩)
@[simp] def r15 (s0 s2 : SpecP) (fr : AFr) (H : AHeap) : ARes :=
 areg (q' (fa' 3 (fr 1)) H ⟨fun v38 H =>
 q' (ld' v38 H) H ⟨fun v39 H =>
 q' (bn' .sub (W32 32#32) v39) H ⟨fun v40 H =>
 q' (bn' .rem v40 (W32 32#32)) H ⟨fun v41 H =>
 q' (aconvR (some .i64) v41) H ⟨fun v42 H =>
 o' (callP false s2 [[none], [none]] [(.int .i64 2), v42] H) ⟨fun v43 H =>
 o' (callP false s0 [[none], [none], [none]] [(.int .i64 7), (.int .i64 0), (.int .i64 2)] H) ⟨fun v44 H =>
 o' (abuildSliceR (some ⟨T.ty_api_Ins, 5, 40, [(.int .i64 0), (.int .i64 0), (.int .i64 0), (.int .i64 0), (.int .i64 0)]⟩) 2 [(0, v43), (1, v44)] H) ⟨fun v45 H =>
 e' [(2, v45)] H⟩⟩⟩⟩⟩⟩⟩⟩)
@[simp] def r16 (fr : AFr) (H : AHeap) : ARes :=
 areg (q' (bn' .eql (fr 4) (.int .i64 7)) H ⟨fun v47 H =>
 e' [(1, fr 1), (4, fr 4), (46, v47)] H⟩)
@[simp] def r17 (s3 : SpecP) (fr : AFr) (H : AHeap) : ARes :=
 areg (q' (fa' 3 (fr 1)) H ⟨fun v48 H =>
 q' (ld' v48 H) H ⟨fun v49 H =>
 o' (callP false s3 [[none]] [v49] H) ⟨fun v50 H =>
 e' [(2, v50)] H⟩⟩⟩)
@[simp] def r18 (fr : AFr) (H : AHeap) : ARes :=
 areg (q' (bn' .eql (fr 4) (.int .i64 0)) H ⟨fun v52 H =>
 e' [(51, v52)] H⟩)
@[simp] def r19 (fr : AFr) (H : AHeap) : ARes :=
 areg (q' (abuildR (.str [(.int .i64 0), (.int .i64 0), (.int .i64 0), (.int .i64 0), (.int .i64 0)] [(0, 1), (1, 1), (2, 1), (3, 1), (4, 1)]) [(0, (.int .i64 12)), (1, (.int .i64 0)), (2, (.int .i64 5))]) H ⟨fun v53 H =>
 o' (abuildSliceR (some ⟨T.ty_api_Ins, 5, 40, [(.int .i64 0), (.int .i64 0), (.int .i64 0), (.int .i64 0), (.int .i64 0)]⟩) 1 [(0, v53)] H) ⟨fun v54 H =>
 e' [(2, v54)] H⟩⟩)
@[simp] def r20 (fr : AFr) (H : AHeap) : ARes :=
 areg (e' [(2, .nils)] H)
@[simp] def body (s0 s1 s2 s3 : SpecP) (fr : AFr) (H : AHeap) : ARes :=
  s' (r0 fr H) ⟨fun fr H =>
 s' (s' (r1 fr H) ⟨fun fr H =>
  aexit 0 (s' (r2 fr H) ⟨fun fr H =>
 c' (fr 5)
 ⟨s' (r3 s0 fr H) ⟨fun fr H =>
 some (.ret, fr, H)⟩⟩
 ⟨s' (r4 fr H) ⟨fun fr H =>
 c' (fr 9)
 ⟨s' (r5 s0 fr H) ⟨fun fr H =>
 some (.ret, fr, H)⟩⟩
 ⟨s' (r6 fr H) ⟨fun fr H =>
 c' (fr 13)
 ⟨s' (r7 s0 fr H) ⟨fun fr H =>
 some (.ret, fr, H)⟩⟩
 ⟨s' (r8 fr H) ⟨fun fr H =>
 c' (fr 17)
 ⟨s' (r9 s1 fr H) ⟨fun fr H =>
 some (.ret, fr, H)⟩⟩
 ⟨s' (r10 fr H) ⟨fun fr H =>
 c' (fr 24)
 ⟨s' (s' (r11 fr H) ⟨fun fr H =>
 c' (fr 28)
 ⟨s' (r12 s1 fr H) ⟨fun fr H =>
 some (.ret, fr, H)⟩⟩
 ⟨some (.normal, fr, H)⟩⟩) ⟨fun fr H =>
 s' (r13 fr H) ⟨fun fr H =>
 some (.ret, fr, H)⟩⟩⟩
 ⟨s' (r14 fr H) ⟨fun fr H =>
 c' (fr 36)
 ⟨s' (r15 s0 s2 fr H) ⟨fun fr H =>
 some (.ret, fr, H)⟩⟩
 ⟨s' (r16 fr H) ⟨fun fr H =>
 c' (fr 46)
 ⟨s' (r17 s3 fr H) ⟨fun fr H =>
 some (.ret, fr, H)⟩⟩
 ⟨s' (r18 fr H) ⟨fun fr H =>
 c' (fr 51)
 ⟨s' (r19 fr H) ⟨fun fr H =>
 some (.ret, fr, H)⟩⟩
 ⟨some (.normal, fr, H)⟩⟩⟩⟩⟩⟩⟩⟩⟩⟩⟩⟩⟩⟩⟩⟩)⟩) ⟨fun fr H =>
 s' (r20 fr H) ⟨fun fr H =>
 some (.ret, fr, H)⟩⟩⟩
@[simp] def res (fr : AFr) (H : AHeap) : Option (List AV) := res2 (some (fr 2)) (some [])
end emit_does
def emit_does (a0 : AV) : Option AV := closeUpR (some [[some 5]]) (afinR emit_does.res (emit_does.body emit_alu.spec emit_left.spec emit_mov.spec emit_constant.spec (args0 [a0]) AHeap.empty))
def emit_does.spec : List AV → Option AV
  | [a0] => emit_does a0
  | _ => none
namespace emit_put
def C (s0 : SpecM) : Tab := (Tab.none.add 77 (.ref [false] s0))
@[simp] def r0 (fr : AFr) (H : AHeap) : ARes :=
 areg (e' [(0, fr 0)] H)
@[simp] def r1 (s0 : SpecM) (fr : AFr) (H : AHeap) : ARes :=
 areg (o' (callM [false] s0 [[none]] [(fr 0)] H) ⟨fun v4 H =>
 q' (abuildR (.str [(.int .i64 0), (.int .i64 0), (.int .i64 0), (.int .i64 0), (.int .i64 0)] [(0, 1), (1, 1), (2, 1), (3, 1), (4, 1)]) [(0, (.int .i64 15)), (1, (.int .i64 0)), (2, (.int .i64 7)), (3, (.int .i64 6))]) H ⟨fun v5 H =>
 o' (abuildSliceR (some ⟨T.ty_api_Ins, 5, 40, [(.int .i64 0), (.int .i64 0), (.int .i64 0), (.int .i64 0), (.int .i64 0)]⟩) 1 [(0, v5)] H) ⟨fun v6 H =>
 o' (aappendR (some ⟨T.ty_api_Ins, 5, 40, [(.int .i64 0), (.int .i64 0), (.int .i64 0), (.int .i64 0), (.int .i64 0)]⟩) v4 v6 H) ⟨fun v7 H =>
 e' [(2, v7)] H⟩⟩⟩⟩)
@[simp] def body (s0 : SpecM) (fr : AFr) (H : AHeap) : ARes :=
  s' (r0 fr H) ⟨fun fr H =>
 s' (r1 s0 fr H) ⟨fun fr H =>
 some (.ret, fr, H)⟩⟩
@[simp] def res (fr : AFr) (H : AHeap) : Option (List AV) := res2 (some (fr 2)) (some [])
end emit_put
def emit_put (a0 : AV) : Option AV := closeUpR (some [[some 5]]) (afinR emit_put.res (emit_put.body emit_at_ref.spec (args0 [a0]) AHeap.empty))
def emit_put.spec : List AV → Option AV
  | [a0] => emit_put a0
  | _ => none
namespace slices_Grow_bauta_api_Ins
def C : Tab := Tab.none
@[simp] def r0 (fr : AFr) (H : AHeap) : ARes :=
 areg (e' [(0, fr 0), (1, fr 1)] H)
@[simp] def r1 (fr : AFr) (H : AHeap) : ARes :=
 areg (q' (bn' .lss (fr 1) (.int .i64 0)) H ⟨fun v6 H =>
 e' [(0, fr 0), (1, fr 1), (6, v6)] H⟩)
@[simp] def r2 (fr : AFr) (H : AHeap) : ARes :=
 areg (q' (none) H ⟨fun v7 H =>
 q' (none) H ⟨fun _ H =>
 e' [(0, fr 0), (1, fr 1)] H⟩⟩)
@[simp] def r3 (fr : AFr) (H : AHeap) : ARes :=
 areg (q' (acapR .sl (fr 0)) H ⟨fun v10 H =>
 q' (alenR .sl (fr 0)) H ⟨fun v12 H =>
 q' (bn' .sub v10 v12) H ⟨fun v13 H =>
 q' (bn' .sub (fr 1) v13) H ⟨fun v14 H =>
 e' [(0, fr 0), (1, v14)] H⟩⟩⟩⟩)
@[simp] def r4 (fr : AFr) (H : AHeap) : ARes :=
 areg (q' (bn' .gtr (fr 1) (.int .i64 0)) H ⟨fun v16 H =>
 e' [(0, fr 0), (1, fr 1), (16, v16)] H⟩)
@[simp] def r5 (fr : AFr) (H : AHeap) : ARes :=
 areg (q' (acapR .sl (fr 0)) H ⟨fun v19 H =>
 q' (asliceR (.sl 5) (fr 0) none (some v19) none) H ⟨fun v20 H =>
 o' (aappendZR true (some ⟨T.ty_api_Ins, 5, 40, [(.int .i64 0), (.int .i64 0), (.int .i64 0), (.int .i64 0), (.int .i64 0)]⟩) v20 (fr 1) H) ⟨fun v22 H =>
 q' (alenR .sl (fr 0)) H ⟨fun v24 H =>
 q' (asliceR (.sl 5) v22 none (some v24) none) H ⟨fun v25 H =>
 e' [(0, v25)] H⟩⟩⟩⟩⟩)
@[simp] def r6 (fr : AFr) (H : AHeap) : ARes :=
 areg (e' [(4, (fr 0))] H)
@[simp] def body (fr : AFr) (H : AHeap) : ARes :=
  s' (r0 fr H) ⟨fun fr H =>
 s' (s' (r1 fr H) ⟨fun fr H =>
 c' (fr 6)
 ⟨r2 fr H⟩
 ⟨some (.normal, fr, H)⟩⟩) ⟨fun fr H =>
 s' (s' (r3 fr H) ⟨fun fr H =>
 s' (r4 fr H) ⟨fun fr H =>
 c' (fr 16)
 ⟨r5 fr H⟩
 ⟨some (.normal, fr, H)⟩⟩⟩) ⟨fun fr H =>
 s' (r6 fr H) ⟨fun fr H =>
 some (.ret, fr, H)⟩⟩⟩⟩
@[simp] def res (fr : AFr) (H : AHeap) : Option (List AV) := res2 (some (fr 4)) (some [])
end slices_Grow_bauta_api_Ins
def slices_Grow_bauta_api_Ins (a0 a1 : AV) (H : AHeap) : Option (AV × AHeap) := raw (afinR slices_Grow_bauta_api_Ins.res (slices_Grow_bauta_api_Ins.body (args0 [a0, a1]) H))
def slices_Grow_bauta_api_Ins.spec : List AV → AHeap → Option (AV × AHeap)
  | [a0, a1], H => slices_Grow_bauta_api_Ins a0 a1 H
  | _, _ => none
namespace slices_Concat_bauta_api_Ins
def C (s0 : SpecM) : Tab := (Tab.none.add 158 (.ref [false, false] s0))
@[simp] def r0 (fr : AFr) (H : AHeap) : ARes :=
 areg (e' [(0, fr 0)] H)
@[simp] def r1 (fr : AFr) (H : AHeap) : ARes :=
 areg (e' [(0, fr 0), (3, (.int .i64 0))] H)
@[simp] def r2 (fr : AFr) (H : AHeap) : ARes :=
 areg (q' (alenR .sl (fr 0)) H ⟨fun v10 H =>
 e' [(0, fr 0), (3, fr 3), (9, (fr 0)), (10, v10), (11, (.int .i64 0))] H⟩)
@[simp] def r3 (fr : AFr) (H : AHeap) : ARes :=
 areg (q' (bn' .lss (fr 11) (fr 10)) H ⟨fun v12 H =>
 e' [(0, fr 0), (3, fr 3), (9, fr 9), (10, fr 10), (11, fr 11), (12, v12)] H⟩)
@[simp] def r4 (fr : AFr) (H : AHeap) : ARes :=
 areg (q' (aindexAddrR (.sl 1) (fr 9) (fr 11)) H ⟨fun v13 H =>
 q' (ld' v13 H) H ⟨fun v14 H =>
 e' [(0, fr 0), (3, fr 3), (5, v14), (9, fr 9), (10, fr 10), (11, fr 11)] H⟩⟩)
@[simp] def r5 (fr : AFr) (H : AHeap) : ARes :=
 areg (q' (alenR .sl (fr 5)) H ⟨fun v17 H =>
 q' (bn' .add (fr 3) v17) H ⟨fun v18 H =>
 e' [(0, fr 0), (3, v18), (9, fr 9), (10, fr 10), (11, fr 11)] H⟩⟩)
@[simp] def r6 (fr : AFr) (H : AHeap) : ARes :=
 areg (q' (bn' .lss (fr 3) (.int .i64 0)) H ⟨fun v20 H =>
 e' [(0, fr 0), (3, fr 3), (9, fr 9), (10, fr 10), (11, fr 11), (20, v20)] H⟩)
@[simp] def r7 (fr : AFr) (H : AHeap) : ARes :=
 areg (q' (none) H ⟨fun v21 H =>
 q' (none) H ⟨fun _ H =>
 e' [(0, fr 0), (3, fr 3), (9, fr 9), (10, fr 10), (11, fr 11)] H⟩⟩)
@[simp] def r8 (fr : AFr) (H : AHeap) : ARes :=
 areg (q' (bn' .add (fr 11) (.int .i64 1)) H ⟨fun v22 H =>
 e' [(0, fr 0), (3, fr 3), (9, fr 9), (10, fr 10), (11, v22)] H⟩)
@[simp] def r9 (s0 : SpecM) (fr : AFr) (H : AHeap) : ARes :=
 areg (o' (callM [false, false] s0 [[some 5], [none]] [.nils, (fr 3)] H) ⟨fun v24 H =>
 e' [(0, fr 0), (6, v24)] H⟩)
@[simp] def r10 (fr : AFr) (H : AHeap) : ARes :=
 areg (q' (alenR .sl (fr 0)) H ⟨fun v26 H =>
 e' [(6, fr 6), (25, (fr 0)), (26, v26), (27, (.int .i64 0))] H⟩)
@[simp] def r11 (fr : AFr) (H : AHeap) : ARes :=
 areg (q' (bn' .lss (fr 27) (fr 26)) H ⟨fun v28 H =>
 e' [(6, fr 6), (25, fr 25), (26, fr 26), (27, fr 27), (28, v28)] H⟩)
@[simp] def r12 (fr : AFr) (H : AHeap) : ARes :=
 areg (q' (aindexAddrR (.sl 1) (fr 25) (fr 27)) H ⟨fun v29 H =>
 q' (ld' v29 H) H ⟨fun v30 H =>
 e' [(6, fr 6), (8, v30), (25, fr 25), (26, fr 26), (27, fr 27)] H⟩⟩)
@[simp] def r13 (fr : AFr) (H : AHeap) : ARes :=
 areg (o' (aappendR (some ⟨T.ty_api_Ins, 5, 40, [(.int .i64 0), (.int .i64 0), (.int .i64 0), (.int .i64 0), (.int .i64 0)]⟩) (fr 6) (fr 8) H) ⟨fun v33 H =>
 e' [(6, v33), (25, fr 25), (26, fr 26), (27, fr 27)] H⟩)
@[simp] def r14 (fr : AFr) (H : AHeap) : ARes :=
 areg (q' (bn' .add (fr 27) (.int .i64 1)) H ⟨fun v34 H =>
 e' [(6, fr 6), (25, fr 25), (26, fr 26), (27, v34)] H⟩)
@[simp] def r15 (fr : AFr) (H : AHeap) : ARes :=
 areg (e' [(2, (fr 6))] H)
def l0 (s0 : SpecM) (fr : AFr) (H : AHeap) : ARes :=
  s' (r3 fr H) ⟨fun fr H =>
 s' (c' (fr 12)
 ⟨some (.normal, fr, H)⟩
 ⟨some (.exit 0, fr, H)⟩) ⟨fun fr H =>
 s' (aexit 1 (s' (r4 fr H) ⟨fun fr H =>
 s' (r5 fr H) ⟨fun fr H =>
 s' (r6 fr H) ⟨fun fr H =>
 c' (fr 20)
 ⟨r7 fr H⟩
 ⟨some (.normal, fr, H)⟩⟩⟩⟩)) ⟨fun fr H =>
 r8 fr H⟩⟩⟩
def l1 (s0 : SpecM) (fr : AFr) (H : AHeap) : ARes :=
  s' (r11 fr H) ⟨fun fr H =>
 s' (c' (fr 28)
 ⟨some (.normal, fr, H)⟩
 ⟨some (.exit 2, fr, H)⟩) ⟨fun fr H =>
 s' (aexit 3 (s' (r12 fr H) ⟨fun fr H =>
 r13 fr H⟩)) ⟨fun fr H =>
 r14 fr H⟩⟩⟩
@[simp] def body (s0 : SpecM) (fr : AFr) (H : AHeap) : ARes :=
  s' (r0 fr H) ⟨fun fr H =>
 s' (r1 fr H) ⟨fun fr H =>
 s' (s' (r2 fr H) ⟨fun fr H =>
  aexit 0 (aloop (l0 s0) fr H)⟩) ⟨fun fr H =>
 s' (r9 s0 fr H) ⟨fun fr H =>
 s' (s' (r10 fr H) ⟨fun fr H =>
  aexit 2 (aloop (l1 s0) fr H)⟩) ⟨fun fr H =>
 s' (r15 fr H) ⟨fun fr H =>
 some (.ret, fr, H)⟩⟩⟩⟩⟩⟩
@[simp] def res (fr : AFr) (H : AHeap) : Option (List AV) := res2 (some (fr 2)) (some [])
end slices_Concat_bauta_api_Ins
def slices_Concat_bauta_api_Ins (a0 : AV) (H : AHeap) : Option (AV × AHeap) := raw (afinR slices_Concat_bauta_api_Ins.res (slices_Concat_bauta_api_Ins.body slices_Grow_bauta_api_Ins.spec (args0 [a0]) H))
def slices_Concat_bauta_api_Ins.spec : List AV → AHeap → Option (AV × AHeap)
  | [a0], H => slices_Concat_bauta_api_Ins a0 H
  | _, _ => none
namespace emit_step
def C (s0 s1 s2 s3 : SpecP) (s4 : SpecM) : Tab := (((((Tab.none.add 78 (.pure false s0)).add 115 (.pure false s1)).add 117 (.pure false s2)).add 118 (.pure false s3)).add 116 (.ref [false] s4))
@[simp] def r0 (fr : AFr) (H : AHeap) : ARes :=
 areg (o' (abox T.ty_api_Op (fr 0) H) ⟨fun v3 H =>
 e' [(1, fr 1), (2, fr 2), (3, v3)] H⟩)
@[simp] def r1 (s0 : SpecP) (fr : AFr) (H : AHeap) : ARes :=
 areg (o' (callP false s0 [[none], [none]] [(.int .i64 0), (.int .i64 0)] H) ⟨fun v10 H =>
 o' (abuildSliceR (some ⟨T.ty_api_Ins, 5, 40, [(.int .i64 0), (.int .i64 0), (.int .i64 0), (.int .i64 0), (.int .i64 0)]⟩) 1 [(0, v10)] H) ⟨fun v11 H =>
 e' [(1, fr 1), (2, fr 2), (3, fr 3), (7, v11)] H⟩⟩)
@[simp] def r2 (fr : AFr) (H : AHeap) : ARes :=
 areg (q' (alenR .sl (fr 2)) H ⟨fun v13 H =>
 q' (bn' .gtr v13 (.int .i64 1)) H ⟨fun v14 H =>
 e' [(1, fr 1), (2, fr 2), (3, fr 3), (7, fr 7), (14, v14)] H⟩⟩)
@[simp] def r3 (s0 : SpecP) (fr : AFr) (H : AHeap) : ARes :=
 areg (o' (callP false s0 [[none], [none]] [(.int .i64 1), (.int .i64 0)] H) ⟨fun v16 H =>
 o' (abuildSliceR (some ⟨T.ty_api_Ins, 5, 40, [(.int .i64 0), (.int .i64 0), (.int .i64 0), (.int .i64 0), (.int .i64 0)]⟩) 1 [(0, v16)] H) ⟨fun v17 H =>
 o' (aappendR (some ⟨T.ty_api_Ins, 5, 40, [(.int .i64 0), (.int .i64 0), (.int .i64 0), (.int .i64 0), (.int .i64 0)]⟩) (fr 7) v17 H) ⟨fun v18 H =>
 e' [(1, fr 1), (2, fr 2), (3, fr 3), (7, v18)] H⟩⟩⟩)
@[simp] def r4 (fr : AFr) (H : AHeap) : ARes :=
 areg (q' (alenR .sl (fr 2)) H ⟨fun v20 H =>
 e' [(1, fr 1), (3, fr 3), (7, fr 7), (19, (fr 2)), (20, v20), (21, (.int .i64 0))] H⟩)
@[simp] def r5 (fr : AFr) (H : AHeap) : ARes :=
 areg (q' (bn' .lss (fr 21) (fr 20)) H ⟨fun v22 H =>
 e' [(1, fr 1), (3, fr 3), (7, fr 7), (19, fr 19), (20, fr 20), (21, fr 21), (22, v22)] H⟩)
@[simp] def r6 (fr : AFr) (H : AHeap) : ARes :=
 areg (q' (aindexAddrR (.sl 1) (fr 19) (fr 21)) H ⟨fun v24 H =>
 q' (ld' v24 H) H ⟨fun v25 H =>
 e' [(1, fr 1), (3, fr 3), (7, fr 7), (8, (fr 21)), (9, v25), (19, fr 19), (20, fr 20), (21, fr 21)] H⟩⟩)
@[simp] def r7 (s1 : SpecP) (fr : AFr) (H : AHeap) : ARes :=
 areg (q' (bn' .add (.int .i64 0) (fr 8)) H ⟨fun v28 H =>
 o' (callP false s1 [[none], [none]] [v28, (fr 9)] H) ⟨fun v30 H =>
 o' (aappendR (some ⟨T.ty_api_Ins, 5, 40, [(.int .i64 0), (.int .i64 0), (.int .i64 0), (.int .i64 0), (.int .i64 0)]⟩) (fr 7) v30 H) ⟨fun v31 H =>
 e' [(1, fr 1), (3, fr 3), (7, v31), (19, fr 19), (20, fr 20), (21, fr 21)] H⟩⟩⟩)
@[simp] def r8 (fr : AFr) (H : AHeap) : ARes :=
 areg (q' (bn' .add (fr 21) (.int .i64 1)) H ⟨fun v32 H =>
 e' [(1, fr 1), (3, fr 3), (7, fr 7), (19, fr 19), (20, fr 20), (21, v32)] H⟩)
@[simp] def r9 (s2 s3 : SpecP) (s4 : SpecM) (fr : AFr) (H : AHeap) : ARes :=
 areg (q' (Ld' 4 (fr 3) H) H ⟨fun v34 H =>
 o' (callP false s2 [[none, none, none, none]] [v34] H) ⟨fun v35 H =>
 o' (callP false s3 [[none]] [(fr 1)] H) ⟨fun v37 H =>
 o' (abuildSliceR (some ⟨T.ty_sl_api_Ins, 1, 24, [.nils]⟩) 3 [(0, (fr 7)), (1, v35), (2, v37)] H) ⟨fun v38 H =>
 o' (callM [false] s4 [[some 1]] [v38] H) ⟨fun v39 H =>
 e' [(6, v39)] H⟩⟩⟩⟩⟩)
def l0 (s0 s1 s2 s3 : SpecP) (s4 : SpecM) (fr : AFr) (H : AHeap) : ARes :=
  s' (r5 fr H) ⟨fun fr H =>
 s' (c' (fr 22)
 ⟨some (.normal, fr, H)⟩
 ⟨some (.exit 0, fr, H)⟩) ⟨fun fr H =>
 s' (aexit 1 (s' (r6 fr H) ⟨fun fr H =>
 r7 s1 fr H⟩)) ⟨fun fr H =>
 r8 fr H⟩⟩⟩
@[simp] def body (s0 s1 s2 s3 : SpecP) (s4 : SpecM) (fr : AFr) (H : AHeap) : ARes :=
  s' (r0 fr H) ⟨fun fr H =>
 s' (r1 s0 fr H) ⟨fun fr H =>
 s' (s' (r2 fr H) ⟨fun fr H =>
 c' (fr 14)
 ⟨r3 s0 fr H⟩
 ⟨some (.normal, fr, H)⟩⟩) ⟨fun fr H =>
 s' (s' (r4 fr H) ⟨fun fr H =>
  aexit 0 (aloop (l0 s0 s1 s2 s3 s4) fr H)⟩) ⟨fun fr H =>
 s' (r9 s2 s3 s4 fr H) ⟨fun fr H =>
 some (.ret, fr, H)⟩⟩⟩⟩⟩
@[simp] def res (fr : AFr) (H : AHeap) : Option (List AV) := res2 (some (fr 6)) (some [])
end emit_step
def emit_step (a0 a1 a2 : AV) : Option AV := closeUpR (some [[some 5]]) (afinR emit_step.res (emit_step.body emit_mov.spec emit_get.spec emit_does.spec emit_put.spec slices_Concat_bauta_api_Ins.spec (args0 [a0, a1, a2]) AHeap.empty))
def emit_step.spec : List AV → Option AV
  | [a0, a1, a2] => emit_step a0 a1 a2
  | _ => none
namespace emit_Step
def C (s0 s1 s2 : SpecP) (s3 : SpecM) (s4 : SpecP) : Tab := (((((Tab.none.add 68 (.pure false s0)).add 69 (.pure false s1)).add 70 (.pure false s2)).add 71 (.ref [true, false] s3)).add 73 (.pure false s4))
@[simp] def r0 (fr : AFr) (H : AHeap) : ARes :=
 areg (o' (abox T.ty_api_Op (fr 0) H) ⟨fun v3 H =>
 e' [(1, fr 1), (2, fr 2), (3, v3)] H⟩)
@[simp] def r1 (fr : AFr) (H : AHeap) : ARes :=
 areg (q' (fa' 1 (fr 3)) H ⟨fun v8 H =>
 w' (astoreR (some 1) v8 (.int .i64 0) H) ⟨fun _ H =>
 q' (fa' 2 (fr 3)) H ⟨fun v9 H =>
 w' (astoreR (some 1) v9 (.int .i64 0) H) ⟨fun _ H =>
 e' [(1, fr 1), (2, fr 2), (3, fr 3)] H⟩⟩⟩⟩)
@[simp] def r2 (fr : AFr) (H : AHeap) : ARes :=
 areg (q' (Ld' 4 (fr 3) H) H ⟨fun v10 H =>
 o' (abuildSliceR (some ⟨T.ty_api_Op, 4, 32, [(.int .i64 0), (.int .i64 0), (.int .i64 0), (W32 0#32)]⟩) 1 [(0, v10)] H) ⟨fun v11 H =>
 q' (abuildR (.str [(.int .i64 0), .nils, .nils] [(0, 1), (1, 1), (2, 1)]) [(0, (.int .i64 1)), (1, v11)]) H ⟨fun v12 H =>
 o' (aallocR T.ty_api_Code (some (.agg [(.int .i64 0), .nils, .nils])) H) ⟨fun v7 H =>
 w' (astoreR (some 3) v7 v12 H) ⟨fun _ H =>
 e' [(1, fr 1), (2, fr 2), (3, fr 3), (7, v7)] H⟩⟩⟩⟩⟩)
@[simp] def r3 (s0 s1 s2 : SpecP) (s3 : SpecM) (fr : AFr) (H : AHeap) : ARes :=
 areg (q' (Ld' 3 (fr 7) H) H ⟨fun v13 H =>
 o' (callP false s0 [[none, some 4, some 1]] [v13] H) ⟨fun v14 H =>
 q' (aun .not v14) H ⟨fun v15 H =>
 G' v15 false ⟨some (fr 2)⟩ H ⟨fun v17 H =>
 G' v15 false ⟨alenR .sl v17⟩ H ⟨fun v18 H =>
 G' v15 false ⟨fa' 0 (fr 3)⟩ H ⟨fun v19 H =>
 G' v15 false ⟨ld' v19 H⟩ H ⟨fun v20 H =>
 o' (g' (gw v15 false) ⟨callP false s1 [[none]] [v20] H⟩ H) ⟨fun v21 H =>
 G' v15 false ⟨bn' .neq v18 v21⟩ H ⟨fun v22 H =>
 q' (apick v15 (.bool true) v22) H ⟨fun v23 H =>
 G' v23 false ⟨some (fr 1)⟩ H ⟨fun v25 H =>
 o' (g' (gw v23 false) ⟨callP false s2 [[none]] [v25] H⟩ H) ⟨fun v26 H =>
 G' v23 false ⟨aun .not v26⟩ H ⟨fun v27 H =>
 q' (apick v23 (.bool true) v27) H ⟨fun v28 H =>
 G' v28 false ⟨some (fr 2)⟩ H ⟨fun v30 H =>
 o' (g' (gw v28 false) ⟨callM [true, false] s3 [[some 1], [none]] [v30, (.clo 72 [] [])] H⟩ H) ⟨fun v31 H =>
 q' (apick v28 (.bool true) v31) H ⟨fun v32 H =>
 e' [(1, fr 1), (2, fr 2), (3, fr 3), (32, v32)] H⟩⟩⟩⟩⟩⟩⟩⟩⟩⟩⟩⟩⟩⟩⟩⟩⟩)
@[simp] def r4 (fr : AFr) (H : AHeap) : ARes :=
 areg (e' [(6, .nils)] H)
@[simp] def r5 (s4 : SpecP) (fr : AFr) (H : AHeap) : ARes :=
 areg (q' (Ld' 4 (fr 3) H) H ⟨fun v33 H =>
 o' (callP false s4 [[none, none, none, none], [none], [some 1]] [v33, (fr 1), (fr 2)] H) ⟨fun v36 H =>
 e' [(6, v36)] H⟩⟩)
@[simp] def body (s0 s1 s2 : SpecP) (s3 : SpecM) (s4 : SpecP) (fr : AFr) (H : AHeap) : ARes :=
  s' (r0 fr H) ⟨fun fr H =>
 s' (r1 fr H) ⟨fun fr H =>
 s' (r2 fr H) ⟨fun fr H =>
 s' (s' (r3 s0 s1 s2 s3 fr H) ⟨fun fr H =>
 c' (fr 32)
 ⟨s' (r4 fr H) ⟨fun fr H =>
 some (.ret, fr, H)⟩⟩
 ⟨some (.normal, fr, H)⟩⟩) ⟨fun fr H =>
 s' (r5 s4 fr H) ⟨fun fr H =>
 some (.ret, fr, H)⟩⟩⟩⟩⟩
@[simp] def res (fr : AFr) (H : AHeap) : Option (List AV) := res2 (some (fr 6)) (some [])
end emit_Step
def emit_Step (a0 a1 a2 : AV) : Option AV := closeUpR (some [[some 5]]) (afinR emit_Step.res (emit_Step.body isw_Can.spec emit_takes.spec emit_slot.spec slices_ContainsFunc_int.spec emit_step.spec (args0 [a0, a1, a2]) AHeap.empty))
def emit_Step.spec : List AV → Option AV
  | [a0, a1, a2] => emit_Step a0 a1 a2
  | _ => none
namespace emit_at
@[simp] def r0 (fr : AFr) (H : AHeap) : ARes :=
 areg (e' [(0, fr 0)] H)
@[simp] def r1 (fr : AFr) (H : AHeap) : ARes :=
 areg (q' (bn' .mul (fr 0) (.int .i64 4)) H ⟨fun v4 H =>
 e' [(0, v4)] H⟩)
@[simp] def r2 (fr : AFr) (H : AHeap) : ARes :=
 areg (q' (bn' .lss (fr 0) (.int .i64 256)) H ⟨fun v6 H =>
 e' [(0, fr 0), (6, v6)] H⟩)
@[simp] def r3 (s0 : SpecP) (fr : AFr) (H : AHeap) : ARes :=
 areg (o' (callP false s0 [[none], [none]] [(.int .i64 6), (fr 0)] H) ⟨fun v8 H =>
 o' (abuildSliceR (some ⟨T.ty_api_Ins, 5, 40, [(.int .i64 0), (.int .i64 0), (.int .i64 0), (.int .i64 0), (.int .i64 0)]⟩) 1 [(0, v8)] H) ⟨fun v9 H =>
 e' [(2, v9)] H⟩⟩)
@[simp] def r4 (s0 s1 s2 : SpecP) (fr : AFr) (H : AHeap) : ARes :=
 areg (q' (bn' .quo (fr 0) (.int .i64 256)) H ⟨fun v11 H =>
 o' (callP false s0 [[none], [none]] [(.int .i64 6), v11] H) ⟨fun v12 H =>
 o' (callP false s1 [[none], [none]] [(.int .i64 6), (.int .i64 8)] H) ⟨fun v13 H =>
 q' (bn' .rem (fr 0) (.int .i64 256)) H ⟨fun v15 H =>
 o' (callP false s2 [[none], [none]] [(.int .i64 6), v15] H) ⟨fun v16 H =>
 o' (abuildSliceR (some ⟨T.ty_api_Ins, 5, 40, [(.int .i64 0), (.int .i64 0), (.int .i64 0), (.int .i64 0), (.int .i64 0)]⟩) 3 [(0, v12), (1, v13), (2, v16)] H) ⟨fun v17 H =>
 e' [(2, v17)] H⟩⟩⟩⟩⟩⟩)
@[simp] def body (s0 s1 s2 : SpecP) (fr : AFr) (H : AHeap) : ARes :=
  s' (r0 fr H) ⟨fun fr H =>
 s' (r1 fr H) ⟨fun fr H =>
 s' (s' (r2 fr H) ⟨fun fr H =>
 c' (fr 6)
 ⟨s' (r3 s0 fr H) ⟨fun fr H =>
 some (.ret, fr, H)⟩⟩
 ⟨some (.normal, fr, H)⟩⟩) ⟨fun fr H =>
 s' (r4 s0 s1 s2 fr H) ⟨fun fr H =>
 some (.ret, fr, H)⟩⟩⟩⟩
@[simp] def res (fr : AFr) (H : AHeap) : Option (List AV) := res2 (some (fr 2)) (some [])
end emit_at
def emit_at (a0 : AV) : Option AV := closeUpR (some [[some 5]]) (afinR emit_at.res (emit_at.body emit_mov.spec emit_left.spec emit_add.spec (args0 [a0]) AHeap.empty))
def emit_at.spec : List AV → Option AV
  | [a0] => emit_at a0
  | _ => none
namespace emit_Slot
@[simp] def r0 (fr : AFr) (H : AHeap) : ARes :=
 areg (e' [(0, fr 0)] H)
@[simp] def r1 (s0 : SpecP) (fr : AFr) (H : AHeap) : ARes :=
 areg (o' (callP false s0 [[none]] [(fr 0)] H) ⟨fun v4 H =>
 q' (aun .not v4) H ⟨fun v5 H =>
 e' [(0, fr 0), (5, v5)] H⟩⟩)
@[simp] def r2 (fr : AFr) (H : AHeap) : ARes :=
 areg (e' [(2, .nils)] H)
@[simp] def r3 (s1 : SpecP) (fr : AFr) (H : AHeap) : ARes :=
 areg (o' (callP false s1 [[none]] [(fr 0)] H) ⟨fun v7 H =>
 e' [(2, v7)] H⟩)
@[simp] def body (s0 s1 : SpecP) (fr : AFr) (H : AHeap) : ARes :=
  s' (r0 fr H) ⟨fun fr H =>
 s' (s' (r1 s0 fr H) ⟨fun fr H =>
 c' (fr 5)
 ⟨s' (r2 fr H) ⟨fun fr H =>
 some (.ret, fr, H)⟩⟩
 ⟨some (.normal, fr, H)⟩⟩) ⟨fun fr H =>
 s' (r3 s1 fr H) ⟨fun fr H =>
 some (.ret, fr, H)⟩⟩⟩
@[simp] def res (fr : AFr) (H : AHeap) : Option (List AV) := res2 (some (fr 2)) (some [])
end emit_Slot
def emit_Slot (a0 : AV) : Option AV := closeUpR (some [[some 5]]) (afinR emit_Slot.res (emit_Slot.body emit_slot.spec emit_at.spec (args0 [a0]) AHeap.empty))
def emit_Slot.spec : List AV → Option AV
  | [a0] => emit_Slot a0
  | _ => none
namespace emit_Begin
def C (s0 s1 : SpecP) : Tab := ((Tab.none.add 78 (.pure false s0)).add 79 (.pure false s1))
@[simp] def r0 (fr : AFr) (H : AHeap) : ARes :=
 areg (e' [] H)
@[simp] def r1 (s0 s1 : SpecP) (fr : AFr) (H : AHeap) : ARes :=
 areg (o' (callP false s0 [[none], [none]] [(.int .i64 7), (.int .i64 32)] H) ⟨fun v1 H =>
 o' (callP false s1 [[none], [none]] [(.int .i64 7), (.int .i64 24)] H) ⟨fun v2 H =>
 o' (callP false s0 [[none], [none]] [(.int .i64 5), (.int .i64 64)] H) ⟨fun v3 H =>
 o' (callP false s1 [[none], [none]] [(.int .i64 5), (.int .i64 24)] H) ⟨fun v4 H =>
 o' (abuildSliceR (some ⟨T.ty_api_Ins, 5, 40, [(.int .i64 0), (.int .i64 0), (.int .i64 0), (.int .i64 0), (.int .i64 0)]⟩) 4 [(0, v1), (1, v2), (2, v3), (3, v4)] H) ⟨fun v5 H =>
 e' [(0, v5)] H⟩⟩⟩⟩⟩)
@[simp] def body (s0 s1 : SpecP) (fr : AFr) (H : AHeap) : ARes :=
  s' (r0 fr H) ⟨fun fr H =>
 s' (r1 s0 s1 fr H) ⟨fun fr H =>
 some (.ret, fr, H)⟩⟩
@[simp] def res (fr : AFr) (H : AHeap) : Option (List AV) := res2 (some (fr 0)) (some [])
end emit_Begin
def emit_Begin : Option AV := closeUpR (some [[some 5]]) (afinR emit_Begin.res (emit_Begin.body emit_mov.spec emit_left.spec (args0 []) AHeap.empty))
def emit_Begin.spec : List AV → Option AV
  | [] => emit_Begin
  | _ => none
namespace emit_halves
def C (s0 : SpecP) : Tab := (Tab.none.add 63 (.pure false s0))
@[simp] def r0 (fr : AFr) (H : AHeap) : ARes :=
 areg (e' [(0, fr 0), (1, fr 1)] H)
@[simp] def r1 (fr : AFr) (H : AHeap) : ARes :=
 areg (q' (alenR .sl (fr 1)) H ⟨fun v10 H =>
 e' [(0, fr 0), (9, (fr 1)), (10, v10), (11, (.int .i64 0))] H⟩)
@[simp] def r2 (fr : AFr) (H : AHeap) : ARes :=
 areg (q' (bn' .lss (fr 11) (fr 10)) H ⟨fun v12 H =>
 e' [(0, fr 0), (9, fr 9), (10, fr 10), (11, fr 11), (12, v12)] H⟩)
@[simp] def r3 (fr : AFr) (H : AHeap) : ARes :=
 areg (q' (aindexAddrR (.sl 5) (fr 9) (fr 11)) H ⟨fun v13 H =>
 q' (Ld' 5 v13 H) H ⟨fun v14 H =>
 o' (aallocR T.ty_api_Ins (some (.agg [(.int .i64 0), (.int .i64 0), (.int .i64 0), (.int .i64 0), (.int .i64 0)])) H) ⟨fun v6 H =>
 w' (astoreR (some 5) v6 v14 H) ⟨fun _ H =>
 e' [(0, fr 0), (6, v6), (9, fr 9), (10, fr 10), (11, fr 11)] H⟩⟩⟩⟩)
@[simp] def r4 (s0 : SpecP) (fr : AFr) (H : AHeap) : ARes :=
 areg (q' (Ld' 5 (fr 6) H) H ⟨fun v16 H =>
 o' (callP false s0 [[none, none, none, none, none]] [v16] H) ⟨fun v17 H =>
 q' (aextract v17 0) H ⟨fun v18 H =>
 q' (aextract v17 1) H ⟨fun v19 H =>
 e' [(0, fr 0), (7, v18), (9, fr 9), (10, fr 10), (11, fr 11)] H⟩⟩⟩⟩)
@[simp] def r5 (fr : AFr) (H : AHeap) : ARes :=
 areg (o' (abuildSliceR (some ⟨T.ty_uint16, 1, 2, [(W16 0#16)]⟩) 1 [(0, (fr 7))] H) ⟨fun v22 H =>
 o' (aappendR (some ⟨T.ty_uint16, 1, 2, [(W16 0#16)]⟩) (fr 0) v22 H) ⟨fun v23 H =>
 e' [(0, v23), (9, fr 9), (10, fr 10), (11, fr 11)] H⟩⟩)
@[simp] def r6 (fr : AFr) (H : AHeap) : ARes :=
 areg (q' (bn' .add (fr 11) (.int .i64 1)) H ⟨fun v24 H =>
 e' [(0, fr 0), (9, fr 9), (10, fr 10), (11, v24)] H⟩)
@[simp] def r7 (fr : AFr) (H : AHeap) : ARes :=
 areg (e' [(4, (fr 0))] H)
def l0 (s0 : SpecP) (fr : AFr) (H : AHeap) : ARes :=
  s' (r2 fr H) ⟨fun fr H =>
 s' (c' (fr 12)
 ⟨some (.normal, fr, H)⟩
 ⟨some (.exit 0, fr, H)⟩) ⟨fun fr H =>
 s' (aexit 1 (s' (r3 fr H) ⟨fun fr H =>
 s' (r4 s0 fr H) ⟨fun fr H =>
 r5 fr H⟩⟩)) ⟨fun fr H =>
 r6 fr H⟩⟩⟩
@[simp] def body (s0 : SpecP) (fr : AFr) (H : AHeap) : ARes :=
  s' (r0 fr H) ⟨fun fr H =>
 s' (s' (r1 fr H) ⟨fun fr H =>
  aexit 0 (aloop (l0 s0) fr H)⟩) ⟨fun fr H =>
 s' (r7 fr H) ⟨fun fr H =>
 some (.ret, fr, H)⟩⟩⟩
@[simp] def res (fr : AFr) (H : AHeap) : Option (List AV) := res2 (some (fr 4)) (some [])
end emit_halves
def emit_halves (a0 a1 : AV) (H : AHeap) : Option (AV × AHeap) := raw (afinR emit_halves.res (emit_halves.body thumb_Put.spec (args0 [a0, a1]) H))
def emit_halves.spec : List AV → AHeap → Option (AV × AHeap)
  | [a0, a1], H => emit_halves a0 a1 H
  | _, _ => none
namespace emit_Code
def C (s0 : SpecP) (s1 : SpecM) (s2 : SpecP) (s3 : SpecM) (s4 s5 : SpecP) : Tab := ((((((Tab.none.add 68 (.pure false s0)).add 71 (.ref [true, false] s1)).add 29 (.pure false s2)).add 81 (.ref [false, false] s3)).add 69 (.pure false s4)).add 73 (.pure false s5))
@[simp] def r0 (fr : AFr) (H : AHeap) : ARes :=
 areg (o' (abox T.ty_api_Code (fr 0) H) ⟨fun v2 H =>
 e' [(1, fr 1), (2, v2)] H⟩)
@[simp] def r1 (s0 : SpecP) (s1 : SpecM) (fr : AFr) (H : AHeap) : ARes :=
 areg (q' (Ld' 3 (fr 2) H) H ⟨fun v12 H =>
 o' (callP false s0 [[none, some 4, some 1]] [v12] H) ⟨fun v13 H =>
 q' (aun .not v13) H ⟨fun v14 H =>
 G' v14 false ⟨some (fr 1)⟩ H ⟨fun v16 H =>
 G' v14 false ⟨alenR .sl v16⟩ H ⟨fun v17 H =>
 G' v14 false ⟨fa' 0 (fr 2)⟩ H ⟨fun v18 H =>
 G' v14 false ⟨ld' v18 H⟩ H ⟨fun v19 H =>
 G' v14 false ⟨fa' 1 (fr 2)⟩ H ⟨fun v20 H =>
 G' v14 false ⟨ld' v20 H⟩ H ⟨fun v21 H =>
 G' v14 false ⟨alenR .sl v21⟩ H ⟨fun v22 H =>
 G' v14 false ⟨bn' .add v19 v22⟩ H ⟨fun v23 H =>
 G' v14 false ⟨bn' .neq v17 v23⟩ H ⟨fun v24 H =>
 q' (apick v14 (.bool true) v24) H ⟨fun v25 H =>
 G' v25 false ⟨some (fr 1)⟩ H ⟨fun v27 H =>
 o' (g' (gw v25 false) ⟨callM [true, false] s1 [[some 1], [none]] [v27, (.clo 80 [] [])] H⟩ H) ⟨fun v28 H =>
 q' (apick v25 (.bool true) v28) H ⟨fun v29 H =>
 e' [(1, fr 1), (2, fr 2), (29, v29)] H⟩⟩⟩⟩⟩⟩⟩⟩⟩⟩⟩⟩⟩⟩⟩⟩)
@[simp] def r2 (fr : AFr) (H : AHeap) : ARes :=
 areg (e' [(4, .nils), (5, (.int .i64 1))] H)
@[simp] def r3 (s2 : SpecP) (s3 : SpecM) (fr : AFr) (H : AHeap) : ARes :=
 areg (o' (callP false s2 [] [] H) ⟨fun v30 H =>
 o' (callM [false, false] s3 [[some 1], [some 5]] [.nils, v30] H) ⟨fun v31 H =>
 e' [(1, fr 1), (2, fr 2), (6, v31)] H⟩⟩)
@[simp] def r4 (fr : AFr) (H : AHeap) : ARes :=
 areg (q' (fa' 1 (fr 2)) H ⟨fun v32 H =>
 q' (ld' v32 H) H ⟨fun v33 H =>
 q' (alenR .sl v33) H ⟨fun v34 H =>
 e' [(1, fr 1), (2, fr 2), (6, fr 6), (33, v33), (34, v34), (35, (.int .i64 0))] H⟩⟩⟩)
@[simp] def r5 (fr : AFr) (H : AHeap) : ARes :=
 areg (q' (bn' .lss (fr 35) (fr 34)) H ⟨fun v36 H =>
 e' [(1, fr 1), (2, fr 2), (6, fr 6), (33, fr 33), (34, fr 34), (35, fr 35), (36, v36)] H⟩)
@[simp] def r6 (fr : AFr) (H : AHeap) : ARes :=
 areg (q' (aindexAddrR (.sl 4) (fr 33) (fr 35)) H ⟨fun v38 H =>
 q' (Ld' 4 v38 H) H ⟨fun v39 H =>
 o' (aallocR T.ty_api_Op (some (.agg [(.int .i64 0), (.int .i64 0), (.int .i64 0), (W32 0#32)])) H) ⟨fun v8 H =>
 w' (astoreR (some 4) v8 v39 H) ⟨fun _ H =>
 e' [(1, fr 1), (2, fr 2), (6, fr 6), (7, (fr 35)), (8, v8), (33, fr 33), (34, fr 34), (35, fr 35)] H⟩⟩⟩⟩)
@[simp] def r7 (fr : AFr) (H : AHeap) : ARes :=
 areg (e' [(1, fr 1), (2, fr 2), (6, fr 6), (7, fr 7), (8, fr 8), (9, .nils), (33, fr 33), (34, fr 34), (35, fr 35)] H)
@[simp] def r8 (fr : AFr) (H : AHeap) : ARes :=
 areg (q' (fa' 1 (fr 8)) H ⟨fun v40 H =>
 q' (ld' v40 H) H ⟨fun v41 H =>
 q' (fa' 2 (fr 8)) H ⟨fun v42 H =>
 q' (ld' v42 H) H ⟨fun v43 H =>
 q' (abuildR (.arr [(.int .i64 0), (.int .i64 0)] 1) [(0, v41), (1, v43)]) H ⟨fun v44 H =>
 e' [(1, fr 1), (2, fr 2), (6, fr 6), (7, fr 7), (8, fr 8), (9, fr 9), (33, fr 33), (34, fr 34), (35, fr 35), (44, v44), (45, (.int .i64 0))] H⟩⟩⟩⟩⟩)
@[simp] def r9 (fr : AFr) (H : AHeap) : ARes :=
 areg (q' (bn' .lss (fr 45) (.int .i64 2)) H ⟨fun v46 H =>
 e' [(1, fr 1), (2, fr 2), (6, fr 6), (7, fr 7), (8, fr 8), (9, fr 9), (33, fr 33), (34, fr 34), (35, fr 35), (44, fr 44), (45, fr 45), (46, v46)] H⟩)
@[simp] def r10 (fr : AFr) (H : AHeap) : ARes :=
 areg (q' (aindexR (.arr 2 1 (some none)) (fr 44) (fr 45)) H ⟨fun v48 H =>
 e' [(1, fr 1), (2, fr 2), (6, fr 6), (7, fr 7), (8, fr 8), (9, fr 9), (10, (fr 45)), (11, v48), (33, fr 33), (34, fr 34), (35, fr 35), (44, fr 44), (45, fr 45)] H⟩)
@[simp] def r11 (s4 : SpecP) (fr : AFr) (H : AHeap) : ARes :=
 areg (q' (fa' 0 (fr 8)) H ⟨fun v50 H =>
 q' (ld' v50 H) H ⟨fun v51 H =>
 o' (callP false s4 [[none]] [v51] H) ⟨fun v52 H =>
 q' (bn' .lss (fr 10) v52) H ⟨fun v53 H =>
 e' [(1, fr 1), (2, fr 2), (6, fr 6), (7, fr 7), (8, fr 8), (9, fr 9), (11, fr 11), (33, fr 33), (34, fr 34), (35, fr 35), (44, fr 44), (45, fr 45), (53, v53)] H⟩⟩⟩⟩)
@[simp] def r12 (fr : AFr) (H : AHeap) : ARes :=
 areg (q' (aindexAddrR (.sl 1) (fr 1) (fr 11)) H ⟨fun v57 H =>
 q' (ld' v57 H) H ⟨fun v58 H =>
 o' (abuildSliceR (some ⟨T.ty_int, 1, 8, [(.int .i64 0)]⟩) 1 [(0, v58)] H) ⟨fun v59 H =>
 o' (aappendR (some ⟨T.ty_int, 1, 8, [(.int .i64 0)]⟩) (fr 9) v59 H) ⟨fun v60 H =>
 e' [(1, fr 1), (2, fr 2), (6, fr 6), (7, fr 7), (8, fr 8), (9, v60), (33, fr 33), (34, fr 34), (35, fr 35), (44, fr 44), (45, fr 45)] H⟩⟩⟩⟩)
@[simp] def r13 (fr : AFr) (H : AHeap) : ARes :=
 areg (q' (bn' .add (fr 45) (.int .i64 1)) H ⟨fun v61 H =>
 e' [(1, fr 1), (2, fr 2), (6, fr 6), (7, fr 7), (8, fr 8), (9, fr 9), (33, fr 33), (34, fr 34), (35, fr 35), (44, fr 44), (45, v61)] H⟩)
@[simp] def r14 (s3 : SpecM) (s5 : SpecP) (fr : AFr) (H : AHeap) : ARes :=
 areg (q' (some (fr 6)) H ⟨fun v62 H1 =>
 q' (Ld' 4 (fr 8) H1) H1 ⟨fun v63 H2 =>
 q' (some (fr 1)) H2 ⟨fun v64 H3 =>
 q' (fa' 0 (fr 2)) H3 ⟨fun v65 H4 =>
 q' (ld' v65 H4) H4 ⟨fun v66 H5 =>
 q' (some (fr 7)) H5 ⟨fun v67 H6 =>
 q' (bn' .add v66 v67) H6 ⟨fun v68 H7 =>
 q' (aindexAddrR (.sl 1) v64 v68) H7 ⟨fun v69 H8 =>
 q' (ld' v69 H8) H8 ⟨fun v70 H9 =>
 q' (some (fr 9)) H9 ⟨fun v71 H10 =>
 o' (callP false s5 [[none, none, none, none], [none], [some 1]] [v63, v70, v71] H10) ⟨fun v72 H11 =>
 o' (san H11 (callM [false, false] s3 [[some 1], [some 5]] [v62, v72] H11)) ⟨fun v73 H12 =>
 q' (some v73) H12 ⟨fun v6 H13 =>
 e' [(1, fr 1), (2, fr 2), (6, v6), (33, fr 33), (34, fr 34), (35, fr 35)] H13⟩⟩⟩⟩⟩⟩⟩⟩⟩⟩⟩⟩⟩)
@[simp] def r15 (fr : AFr) (H : AHeap) : ARes :=
 areg (q' (alenR .sl (fr 6)) H ⟨fun v75 H =>
 q' (bn' .geq v75 (.int .i64 60000)) H ⟨fun v76 H =>
 e' [(1, fr 1), (2, fr 2), (6, fr 6), (33, fr 33), (34, fr 34), (35, fr 35), (76, v76)] H⟩⟩)
@[simp] def r16 (fr : AFr) (H : AHeap) : ARes :=
 areg (e' [(4, .nils), (5, (.int .i64 150))] H)
@[simp] def r17 (fr : AFr) (H : AHeap) : ARes :=
 areg (q' (bn' .add (fr 35) (.int .i64 1)) H ⟨fun v77 H =>
 e' [(1, fr 1), (2, fr 2), (6, fr 6), (33, fr 33), (34, fr 34), (35, v77)] H⟩)
@[simp] def r18 (s3 : SpecM) (fr : AFr) (H : AHeap) : ARes :=
 areg (q' (abuildR (.str [(.int .i64 0), (.int .i64 0), (.int .i64 0), (.int .i64 0), (.int .i64 0)] [(0, 1), (1, 1), (2, 1), (3, 1), (4, 1)]) [(0, (.int .i64 20))]) H ⟨fun v79 H =>
 o' (abuildSliceR (some ⟨T.ty_api_Ins, 5, 40, [(.int .i64 0), (.int .i64 0), (.int .i64 0), (.int .i64 0), (.int .i64 0)]⟩) 1 [(0, v79)] H) ⟨fun v80 H =>
 o' (callM [false, false] s3 [[some 1], [some 5]] [(fr 6), v80] H) ⟨fun v81 H =>
 e' [(4, v81), (5, (.int .i64 0))] H⟩⟩⟩)
def l1 (s0 : SpecP) (s1 : SpecM) (s2 : SpecP) (s3 : SpecM) (s4 s5 : SpecP) (fr : AFr) (H : AHeap) : ARes :=
  s' (r9 fr H) ⟨fun fr H =>
 s' (c' (fr 46)
 ⟨some (.normal, fr, H)⟩
 ⟨some (.exit 2, fr, H)⟩) ⟨fun fr H =>
 s' (aexit 3 (s' (r10 fr H) ⟨fun fr H =>
 s' (r11 s4 fr H) ⟨fun fr H =>
 c' (fr 53)
 ⟨r12 fr H⟩
 ⟨some (.normal, fr, H)⟩⟩⟩)) ⟨fun fr H =>
 r13 fr H⟩⟩⟩
def l0 (s0 : SpecP) (s1 : SpecM) (s2 : SpecP) (s3 : SpecM) (s4 s5 : SpecP) (fr : AFr) (H : AHeap) : ARes :=
  s' (r5 fr H) ⟨fun fr H =>
 s' (c' (fr 36)
 ⟨some (.normal, fr, H)⟩
 ⟨some (.exit 0, fr, H)⟩) ⟨fun fr H =>
 s' (aexit 1 (s' (r6 fr H) ⟨fun fr H =>
 s' (r7 fr H) ⟨fun fr H =>
 s' (s' (r8 fr H) ⟨fun fr H =>
  aexit 2 (aloop (l1 s0 s1 s2 s3 s4 s5) fr H)⟩) ⟨fun fr H =>
 s' (r14 s3 s5 fr H) ⟨fun fr H =>
 s' (r15 fr H) ⟨fun fr H =>
 c' (fr 76)
 ⟨s' (r16 fr H) ⟨fun fr H =>
 some (.ret, fr, H)⟩⟩
 ⟨some (.normal, fr, H)⟩⟩⟩⟩⟩⟩)) ⟨fun fr H =>
 r17 fr H⟩⟩⟩
@[simp] def body (s0 : SpecP) (s1 : SpecM) (s2 : SpecP) (s3 : SpecM) (s4 s5 : SpecP) (fr : AFr) (H : AHeap) : ARes :=
  s' (r0 fr H) ⟨fun fr H =>
 s' (s' (r1 s0 s1 fr H) ⟨fun fr H =>
 c' (fr 29)
 ⟨s' (r2 fr H) ⟨fun fr H =>
 some (.ret, fr, H)⟩⟩
 ⟨some (.normal, fr, H)⟩⟩) ⟨fun fr H =>
 s' (r3 s2 s3 fr H) ⟨fun fr H =>
 s' (s' (r4 fr H) ⟨fun fr H =>
  aexit 0 (aloop (l0 s0 s1 s2 s3 s4 s5) fr H)⟩) ⟨fun fr H =>
 s' (r18 s3 fr H) ⟨fun fr H =>
 some (.ret, fr, H)⟩⟩⟩⟩⟩
@[simp] def res (fr : AFr) (H : AHeap) : Option (List AV) := res2 (some (fr 4)) (res2 (some (fr 5)) (some []))
end emit_Code
def emit_Code (a0 a1 : AV) : Option AV := closeUpR (some [[some 1], [none]]) (afinR emit_Code.res (emit_Code.body isw_Can.spec slices_ContainsFunc_int.spec emit_Begin.spec emit_halves.spec emit_takes.spec emit_step.spec (args0 [a0, a1]) AHeap.empty))
def emit_Code.spec : List AV → Option AV
  | [a0, a1] => emit_Code a0 a1
  | _ => none
end
end Go.Abs
