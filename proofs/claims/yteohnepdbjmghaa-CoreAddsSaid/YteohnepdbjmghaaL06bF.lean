/-
  The functions, as they are over abstract values. Printed by gen.py.
-/
import Derived.Test.YteohnepdbjmghaaLoF
import Derived.Test.YteohnepdbjmghaaCoF
import Derived.Test.YteohnepdbjmghaaL06F
set_option linter.unusedVariables false
namespace Go.Abs
noncomputable section
namespace law06_CoreAdds
def C (s0 s1 : SpecM) (s2 s3 : SpecP) : Tab := ((((Tab.none.add 45 (.ref [true, false, true] s0)).add 44 (.ref [true, false] s1)).add 46 (.pure false s2)).add 47 (.pure false s3))
@[simp] def r0 (fr : AFr) (H : AHeap) : ARes :=
 areg (o' (abox T.ty_api_State (fr 0) H) ⟨fun v2 H =>
 e' [(1, fr 1), (2, v2)] H⟩)
@[simp] def r1 (fr : AFr) (H : AHeap) : ARes :=
 areg (q' (fa' 8 (fr 2)) H ⟨fun v14 H =>
 w' (astoreR (some 1) v14 (W32 0#32) H) ⟨fun _ H =>
 e' [(1, fr 1), (2, fr 2)] H⟩⟩)
@[simp] def r2 (fr : AFr) (H : AHeap) : ARes :=
 areg (q' (fa' 0 (fr 2)) H ⟨fun v15 H1 =>
 q' (aindexAddrR (.arr 8 1) v15 (.int .i64 2)) H1 ⟨fun v16 H2 =>
 q' (ld' v16 H2) H2 ⟨fun v17 H3 =>
 q' (some (W16 6280#16)) H3 ⟨fun v5 H4 =>
 q' (some v17) H4 ⟨fun v6 H5 =>
 q' (some (.bool false)) H5 ⟨fun v7 H6 =>
 e' [(1, fr 1), (2, fr 2), (5, v5), (6, v6), (7, v7)] H6⟩⟩⟩⟩⟩⟩)
@[simp] def r3 (fr : AFr) (H : AHeap) : ARes :=
 areg (e' [(2, fr 2), (5, fr 5), (6, fr 6), (7, fr 7), (18, (fr 1))] H)
@[simp] def r4 (fr : AFr) (H : AHeap) : ARes :=
 areg (q' (bn' .sub (W32 4294967295#32) (fr 6)) H ⟨fun v20 H =>
 e' [(2, fr 2), (5, (W16 6792#16)), (6, v20), (7, (.bool true))] H⟩)
@[simp] def r5 (s0 s1 : SpecM) (fr : AFr) (H : AHeap) : ARes :=
 areg (q' (Ld' 13 (fr 2) H) H ⟨fun v22 H1 =>
 q' (some (fr 5)) H1 ⟨fun v23 H2 =>
 o' (abuildSliceR (some ⟨T.ty_uint16, 1, 2, [(W16 0#16)]⟩) 1 [(0, v23)] H2) ⟨fun v24 H3 =>
 o' (san H3 (callM [true, false, true] s0 [[some 1], [none], [some 1]] [v24, (.int .i64 0), .nils] H3)) ⟨fun v25 H4 =>
 o' (san H4 (callM [true, false] s1 [[none, none, none, none, none, none, none, none, none, none, none, none, none], [none]] [v22, v25] H4)) ⟨fun v26 H5 =>
 q' (some v26) H5 ⟨fun v21 H6 =>
 q' (aextract v21 0) H6 ⟨fun v27 H7 =>
 q' (aextract v21 1) H7 ⟨fun v28 H8 =>
 q' (aextract v21 2) H8 ⟨fun v29 H9 =>
 o' (aallocR T.ty_api_State (some (.agg [(W32 0#32), (W32 0#32), (W32 0#32), (W32 0#32), (W32 0#32), (W32 0#32), (W32 0#32), (W32 0#32), (W32 0#32), (.bool false), (.bool false), (.bool false), (.bool false)])) H9) ⟨fun v8 H10 =>
 w' (astoreR (some 13) v8 v27 H10) ⟨fun _ H11 =>
 q' (some v28) H11 ⟨fun v9 H12 =>
 q' (some v29) H12 ⟨fun v10 H13 =>
 withChk [aloadR (some (some 13)) (fr 2) H3 = aloadR (some (some 13)) (fr 2) H4, Scope [(.clo 45 [] []), v24, (.int .i64 0), .nils] H3, Scope [(.clo 44 [] []), v22, v25] H4] (e' [(2, fr 2), (6, fr 6), (7, fr 7), (8, v8), (9, v9), (10, v10)] H13)⟩⟩⟩⟩⟩⟩⟩⟩⟩⟩⟩⟩⟩)
@[simp] def r6 (s2 : SpecP) (fr : AFr) (H : AHeap) : ARes :=
 areg (q' (fa' 0 (fr 2)) H ⟨fun v31 H =>
 q' (aindexAddrR (.arr 8 1) v31 (.int .i64 1)) H ⟨fun v32 H =>
 q' (ld' v32 H) H ⟨fun v33 H =>
 o' (callP false s2 [[none], [none], [none]] [v33, (fr 6), (fr 7)] H) ⟨fun v36 H =>
 q' (aextract v36 0) H ⟨fun v37 H =>
 q' (aextract v36 1) H ⟨fun v38 H =>
 q' (aextract v36 2) H ⟨fun v39 H =>
 e' [(8, fr 8), (9, fr 9), (10, fr 10), (11, v37), (12, v38), (13, v39)] H⟩⟩⟩⟩⟩⟩⟩)
@[simp] def r7 (s3 : SpecP) (fr : AFr) (H : AHeap) : ARes :=
 areg (q' (bn' .eql (fr 10) (.int .i64 0)) H ⟨fun v41 H =>
 G' v41 true ⟨some (fr 9)⟩ H ⟨fun v43 H =>
 G' v41 true ⟨aun .not v43⟩ H ⟨fun v44 H =>
 q' (apick v41 v44 (.bool false)) H ⟨fun v45 H =>
 G' v45 true ⟨fa' 0 (fr 8)⟩ H ⟨fun v47 H =>
 G' v45 true ⟨aindexAddrR (.arr 8 1) v47 (.int .i64 0)⟩ H ⟨fun v48 H =>
 G' v45 true ⟨ld' v48 H⟩ H ⟨fun v49 H =>
 G' v45 true ⟨some (fr 11)⟩ H ⟨fun v50 H =>
 G' v45 true ⟨bn' .eql v49 v50⟩ H ⟨fun v51 H =>
 q' (apick v45 v51 (.bool false)) H ⟨fun v52 H =>
 G' v52 true ⟨fa' 11 (fr 8)⟩ H ⟨fun v54 H =>
 G' v52 true ⟨ld' v54 H⟩ H ⟨fun v55 H =>
 G' v52 true ⟨some (fr 12)⟩ H ⟨fun v56 H =>
 G' v52 true ⟨abinR .b .eql v55 v56⟩ H ⟨fun v57 H =>
 q' (apick v52 v57 (.bool false)) H ⟨fun v58 H =>
 G' v58 true ⟨fa' 12 (fr 8)⟩ H ⟨fun v60 H =>
 G' v58 true ⟨ld' v60 H⟩ H ⟨fun v61 H =>
 G' v58 true ⟨some (fr 13)⟩ H ⟨fun v62 H =>
 G' v58 true ⟨abinR .b .eql v61 v62⟩ H ⟨fun v63 H =>
 q' (apick v58 v63 (.bool false)) H ⟨fun v64 H =>
 G' v64 true ⟨fa' 9 (fr 8)⟩ H ⟨fun v66 H =>
 G' v64 true ⟨ld' v66 H⟩ H ⟨fun v67 H =>
 G' v64 true ⟨some (fr 11)⟩ H ⟨fun v68 H =>
 G' v64 true ⟨bn' .geq v68 (W32 2147483648#32)⟩ H ⟨fun v69 H =>
 G' v64 true ⟨abinR .b .eql v67 v69⟩ H ⟨fun v70 H =>
 q' (apick v64 v70 (.bool false)) H ⟨fun v71 H =>
 G' v71 true ⟨fa' 10 (fr 8)⟩ H ⟨fun v73 H =>
 G' v71 true ⟨ld' v73 H⟩ H ⟨fun v74 H =>
 G' v71 true ⟨some (fr 11)⟩ H ⟨fun v75 H =>
 G' v71 true ⟨bn' .eql v75 (W32 0#32)⟩ H ⟨fun v76 H =>
 G' v71 true ⟨abinR .b .eql v74 v76⟩ H ⟨fun v77 H =>
 q' (apick v71 v77 (.bool false)) H ⟨fun v78 H =>
 o' (g' (gw v78 true) ⟨callP false s3 [] [] H⟩ H) ⟨fun v80 H =>
 q' (apick v78 v80 (.bool false)) H ⟨fun v81 H =>
 e' [(4, v81)] H⟩⟩⟩⟩⟩⟩⟩⟩⟩⟩⟩⟩⟩⟩⟩⟩⟩⟩⟩⟩⟩⟩⟩⟩⟩⟩⟩⟩⟩⟩⟩⟩⟩⟩)
@[simp] def body (s0 s1 : SpecM) (s2 s3 : SpecP) (fr : AFr) (H : AHeap) : ARes :=
  s' (r0 fr H) ⟨fun fr H =>
 s' (r1 fr H) ⟨fun fr H =>
 s' (r2 fr H) ⟨fun fr H =>
 s' (s' (r3 fr H) ⟨fun fr H =>
 c' (fr 18)
 ⟨r4 fr H⟩
 ⟨some (.normal, fr, H)⟩⟩) ⟨fun fr H =>
 s' (r5 s0 s1 fr H) ⟨fun fr H =>
 s' (r6 s2 fr H) ⟨fun fr H =>
 s' (r7 s3 fr H) ⟨fun fr H =>
 some (.ret, fr, H)⟩⟩⟩⟩⟩⟩⟩
@[simp] def res (fr : AFr) (H : AHeap) : Option (List AV) := res2 (some (fr 4)) (some [])
end law06_CoreAdds
def law06_CoreAdds (a0 a1 : AV) : Option AV := closeUpR (some [[none]]) (afinR law06_CoreAdds.res (law06_CoreAdds.body mem_New.spec core_Step.spec ref01_Add.spec law06_lives.spec (args0 [a0, a1]) AHeap.empty))
def law06_CoreAdds.spec : List AV → Option AV
  | [a0, a1] => law06_CoreAdds a0 a1
  | _ => none
end
end Go.Abs
