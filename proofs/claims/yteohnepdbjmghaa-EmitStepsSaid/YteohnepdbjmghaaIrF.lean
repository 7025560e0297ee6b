/-
  The functions, as they are over abstract values. Printed by gen.py.
-/
import Derived.Test.YteohnepdbjmghaaLoF
set_option linter.unusedVariables false
namespace Go.Abs
noncomputable section
namespace ref19_Own
@[simp] def r0 (fr : AFr) (H : AHeap) : ARes :=
 areg (o' (abox T.ty_api_Code (fr 0) H) ⟨fun v1 H =>
 o' (aallocR T.ty_api_Code (some (.agg [(.int .i64 0), .nils, .nils])) H) ⟨fun v2 H =>
 e' [(1, v1), (2, v2)] H⟩⟩)
@[simp] def r1 (fr : AFr) (H : AHeap) : ARes :=
 areg (q' (fa' 0 (fr 1)) H ⟨fun v3 H1 =>
 q' (ld' v3 H1) H1 ⟨fun v4 H2 =>
 o' (abuildSliceR (some ⟨T.ty_api_Op, 4, 32, [(.int .i64 0), (.int .i64 0), (.int .i64 0), (W32 0#32)]⟩) 0 [] H2) ⟨fun v5 H3 =>
 q' (fa' 1 (fr 1)) H3 ⟨fun v6 H4 =>
 q' (ld' v6 H4) H4 ⟨fun v7 H5 =>
 o' (aappendR (some ⟨T.ty_api_Op, 4, 32, [(.int .i64 0), (.int .i64 0), (.int .i64 0), (W32 0#32)]⟩) v5 v7 H5) ⟨fun v8 H6 =>
 o' (abuildSliceR (some ⟨T.ty_int, 1, 8, [(.int .i64 0)]⟩) 0 [] H6) ⟨fun v9 H7 =>
 q' (fa' 2 (fr 1)) H7 ⟨fun v10 H8 =>
 q' (ld' v10 H8) H8 ⟨fun v11 H9 =>
 o' (aappendR (some ⟨T.ty_int, 1, 8, [(.int .i64 0)]⟩) v9 v11 H9) ⟨fun v12 H10 =>
 q' (abuildR (.str [(.int .i64 0), .nils, .nils] [(0, 1), (1, 1), (2, 1)]) [(0, v4), (1, v8), (2, v12)]) H10 ⟨fun v13 H11 =>
 w' (astoreR (some 3) (fr 2) v13 H11) ⟨fun _ H12 =>
 withChk [aloadR (some none) v3 H5 = aloadR (some none) v3 H6, aloadR (some none) v3 H9 = aloadR (some none) v3 H10, aloadR (some none) v10 H5 = aloadR (some none) v10 H6] (e' [(2, fr 2)] H12)⟩⟩⟩⟩⟩⟩⟩⟩⟩⟩⟩⟩)
@[simp] def body (fr : AFr) (H : AHeap) : ARes :=
  s' (r0 fr H) ⟨fun fr H =>
 s' (r1 fr H) ⟨fun fr H =>
 some (.ret, fr, H)⟩⟩
@[simp] def res (fr : AFr) (H : AHeap) : Option (List AV) := res2 (aloadR (some (some 3)) (fr 2) H) (some [])
end ref19_Own
def ref19_Own (a0 : AV) : Option AV := closeUpR (some [[none, some 4, some 1]]) (afinR ref19_Own.res (ref19_Own.body (args0 [a0]) AHeap.empty))
def ref19_Own.spec : List AV → Option AV
  | [a0] => ref19_Own a0
  | _ => none
namespace ref19_Takes
def C : Tab := Tab.none
@[simp] def r0 (fr : AFr) (H : AHeap) : ARes :=
 areg (e' [(0, fr 0)] H)
@[simp] def r1 (fr : AFr) (H : AHeap) : ARes :=
 areg (q' (bn' .eql (fr 0) (.int .i64 1)) H ⟨fun v4 H =>
 G' v4 false ⟨some (fr 0)⟩ H ⟨fun v6 H =>
 G' v4 false ⟨bn' .eql v6 (.int .i64 2)⟩ H ⟨fun v7 H =>
 q' (apick v4 (.bool true) v7) H ⟨fun v8 H =>
 e' [(0, fr 0), (8, v8)] H⟩⟩⟩⟩)
@[simp] def r2 (fr : AFr) (H : AHeap) : ARes :=
 areg (e' [(2, (.int .i64 2))] H)
@[simp] def r3 (fr : AFr) (H : AHeap) : ARes :=
 areg (q' (bn' .geq (fr 0) (.int .i64 3)) H ⟨fun v10 H =>
 G' v10 true ⟨some (fr 0)⟩ H ⟨fun v12 H =>
 G' v10 true ⟨bn' .leq v12 (.int .i64 6)⟩ H ⟨fun v13 H =>
 q' (apick v10 v13 (.bool false)) H ⟨fun v14 H =>
 G' v14 false ⟨some (fr 0)⟩ H ⟨fun v16 H =>
 G' v14 false ⟨bn' .eql v16 (.int .i64 8)⟩ H ⟨fun v17 H =>
 q' (apick v14 (.bool true) v17) H ⟨fun v18 H =>
 e' [(18, v18)] H⟩⟩⟩⟩⟩⟩⟩)
@[simp] def r4 (fr : AFr) (H : AHeap) : ARes :=
 areg (e' [(2, (.int .i64 1))] H)
@[simp] def r5 (fr : AFr) (H : AHeap) : ARes :=
 areg (e' [(2, (.int .i64 0))] H)
@[simp] def body (fr : AFr) (H : AHeap) : ARes :=
  s' (r0 fr H) ⟨fun fr H =>
 s' (s' (r1 fr H) ⟨fun fr H =>
 c' (fr 8)
 ⟨s' (r2 fr H) ⟨fun fr H =>
 some (.ret, fr, H)⟩⟩
 ⟨some (.normal, fr, H)⟩⟩) ⟨fun fr H =>
 s' (s' (r3 fr H) ⟨fun fr H =>
 c' (fr 18)
 ⟨s' (r4 fr H) ⟨fun fr H =>
 some (.ret, fr, H)⟩⟩
 ⟨some (.normal, fr, H)⟩⟩) ⟨fun fr H =>
 s' (r5 fr H) ⟨fun fr H =>
 some (.ret, fr, H)⟩⟩⟩⟩
@[simp] def res (fr : AFr) (H : AHeap) : Option (List AV) := res2 (some (fr 2)) (some [])
end ref19_Takes
def ref19_Takes (a0 : AV) : Option AV := closeUpR (some [[none]]) (afinR ref19_Takes.res (ref19_Takes.body (args0 [a0]) AHeap.empty))
def ref19_Takes.spec : List AV → Option AV
  | [a0] => ref19_Takes a0
  | _ => none
end
end Go.Abs
