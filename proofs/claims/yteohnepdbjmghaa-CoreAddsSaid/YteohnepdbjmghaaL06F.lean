/-
  The functions, as they are over abstract values. Printed by gen.py.
-/
import Derived.Test.YteohnepdbjmghaaLoF
import Derived.Test.YteohnepdbjmghaaCoF
set_option linter.unusedVariables false
namespace Go.Abs
noncomputable section
namespace law06_lives
def C (s0 s1 : SpecM) : Tab := ((Tab.none.add 45 (.ref [true, false, true] s0)).add 44 (.ref [true, false] s1))
@[simp] def r0 (fr : AFr) (H : AHeap) : ARes :=
 areg (e' [] H)
@[simp] def r1 (s0 : SpecM) (fr : AFr) (H : AHeap) : ARes :=
 areg (o' (abuildSliceR (some ⟨T.ty_uint16, 1, 2, [(W16 0#16)]⟩) 1 [(0, (W16 12289#16))] H) ⟨fun v5 H =>
 o' (callM [true, false, true] s0 [[some 1], [none], [some 1]] [v5, (.int .i64 1), .nils] H) ⟨fun v6 H =>
 e' [(1, v6)] H⟩⟩)
@[simp] def r2 (s1 : SpecM) (fr : AFr) (H : AHeap) : ARes :=
 areg (q' (abuildR (.arr [(W32 0#32), (W32 0#32), (W32 0#32), (W32 0#32), (W32 0#32), (W32 0#32), (W32 0#32), (W32 0#32)] 1) [(0, (W32 4294967295#32))]) H ⟨fun v8 H =>
 q' (abuildR (.str [(W32 0#32), (W32 0#32), (W32 0#32), (W32 0#32), (W32 0#32), (W32 0#32), (W32 0#32), (W32 0#32), (W32 0#32), (.bool false), (.bool false), (.bool false), (.bool false)] [(0, 8), (8, 1), (9, 1), (10, 1), (11, 1), (12, 1)]) [(0, v8)]) H ⟨fun v9 H =>
 o' (callM [true, false] s1 [[none, none, none, none, none, none, none, none, none, none, none, none, none], [none]] [v9, (fr 1)] H) ⟨fun v11 H =>
 q' (aextract v11 0) H ⟨fun v12 H =>
 q' (aextract v11 1) H ⟨fun v13 H =>
 q' (aextract v11 2) H ⟨fun v14 H =>
 o' (aallocR T.ty_api_State (some (.agg [(W32 0#32), (W32 0#32), (W32 0#32), (W32 0#32), (W32 0#32), (W32 0#32), (W32 0#32), (W32 0#32), (W32 0#32), (.bool false), (.bool false), (.bool false), (.bool false)])) H) ⟨fun v2 H =>
 w' (astoreR (some 13) v2 v12 H) ⟨fun _ H =>
 e' [(2, v2), (3, v13), (4, v14)] H⟩⟩⟩⟩⟩⟩⟩⟩)
@[simp] def r3 (fr : AFr) (H : AHeap) : ARes :=
 areg (q' (fa' 0 (fr 2)) H ⟨fun v15 H =>
 q' (aindexAddrR (.arr 8 1) v15 (.int .i64 0)) H ⟨fun v16 H =>
 q' (ld' v16 H) H ⟨fun v17 H =>
 q' (bn' .eql v17 (W32 0#32)) H ⟨fun v18 H =>
 G' v18 true ⟨fa' 10 (fr 2)⟩ H ⟨fun v20 H =>
 G' v18 true ⟨ld' v20 H⟩ H ⟨fun v21 H =>
 q' (apick v18 v21 (.bool false)) H ⟨fun v22 H =>
 G' v22 true ⟨fa' 11 (fr 2)⟩ H ⟨fun v24 H =>
 G' v22 true ⟨ld' v24 H⟩ H ⟨fun v25 H =>
 q' (apick v22 v25 (.bool false)) H ⟨fun v26 H =>
 G' v26 true ⟨fa' 8 (fr 2)⟩ H ⟨fun v28 H =>
 G' v26 true ⟨ld' v28 H⟩ H ⟨fun v29 H =>
 G' v26 true ⟨bn' .eql v29 (W32 2#32)⟩ H ⟨fun v30 H =>
 q' (apick v26 v30 (.bool false)) H ⟨fun v31 H =>
 G' v31 true ⟨some (fr 3)⟩ H ⟨fun v33 H =>
 G' v31 true ⟨aun .not v33⟩ H ⟨fun v34 H =>
 q' (apick v31 v34 (.bool false)) H ⟨fun v35 H =>
 G' v35 true ⟨some (fr 4)⟩ H ⟨fun v37 H =>
 G' v35 true ⟨bn' .eql v37 (.int .i64 0)⟩ H ⟨fun v38 H =>
 q' (apick v35 v38 (.bool false)) H ⟨fun v39 H =>
 e' [(0, v39)] H⟩⟩⟩⟩⟩⟩⟩⟩⟩⟩⟩⟩⟩⟩⟩⟩⟩⟩⟩⟩)
@[simp] def body (s0 s1 : SpecM) (fr : AFr) (H : AHeap) : ARes :=
  s' (r0 fr H) ⟨fun fr H =>
 s' (r1 s0 fr H) ⟨fun fr H =>
 s' (r2 s1 fr H) ⟨fun fr H =>
 s' (r3 fr H) ⟨fun fr H =>
 some (.ret, fr, H)⟩⟩⟩⟩
@[simp] def res (fr : AFr) (H : AHeap) : Option (List AV) := res2 (some (fr 0)) (some [])
end law06_lives
def law06_lives : Option AV := closeUpR (some [[none]]) (afinR law06_lives.res (law06_lives.body mem_New.spec core_Step.spec (args0 []) AHeap.empty))
def law06_lives.spec : List AV → Option AV
  | [] => law06_lives
  | _ => none
end
end Go.Abs
